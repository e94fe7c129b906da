/- Parts of the proof of BranchPlays: the logic, contracts, plain laws. -/
import Derived.Test.YtjldlcakinmajaaZBranchPlays11
import Derived.Shelf.SlIter.Nil
/-! Contracts: gridironref17. -/
namespace Go.AL
open Go.Proofs
set_option linter.unusedSimpArgs false
set_option linter.unusedVariables false
abbrev Br := ByteArray × Int
def br (p : Br) : AV := .agg [vs p.1, vi p.2]
def brs (l : List Br) : List AV := l.map br
@[simp] theorem cl_brs (l : List Br) : (∀ c ∈ brs l, Cl c) = True := eq_true fun c hc => by
  obtain ⟨p, _, rfl⟩ := List.mem_map.1 hc
  exact .agg _ (by simp)
theorem brs_len (l : List Br) : (brs l).length = l.length := List.length_map _
theorem brs_get {l : List Br} {i : Nat} {a : ByteArray} {n : Int} (h : l[i]? = some (a, n)) : (brs l)[i]? = some (.agg [vs a, vi n]) := by rw [brs, List.getElem?_map, h]; rfl
theorem brs_okv (l : List Br) : ∀ y ∈ brs l, y.cells.length = 2 := fun y hy => by
  obtain ⟨p, _, rfl⟩ := List.mem_map.1 hy
  rfl
def ixB : List Br → ByteArray → Nat → Option Nat
  | [], _, _ => none
  | (a, _) :: l, n, i => if a = n then some i else ixB l n (i + 1)
def gotB : List Br → ByteArray → Option Int
  | [], _ => none
  | (a, h) :: l, n => if a = n then some h else gotB l n
theorem ixB_spec (n : ByteArray) : ∀ (l : List Br) (i : Nat), match ixB l n i with
    | none => gotB l n = none
    | some j => i ≤ j ∧ ∃ h, gotB l n = some h ∧ l[j - i]? = some (n, h)
  | [], i => rfl
  | (a, h) :: l, i => by
    have ih := ixB_spec n l (i + 1)
    rw [ixB, gotB]
    by_cases e : a = n
    · rw [if_pos e, if_pos e]
      exact ⟨Nat.le_refl _, h, rfl, by simp [e]⟩
    · rw [if_neg e, if_neg e]
      cases hq : ixB l n (i + 1) with
      | none => rw [hq] at ih; exact ih
      | some j =>
        rw [hq] at ih
        obtain ⟨h1, h', h2, h3⟩ := ih
        exact ⟨by omega, h', h2, by rw [show j - i = (j - (i + 1)) + 1 by omega]; exact h3⟩
def ixI (o : Option Nat) : Int := match o with | some j => (j : Int) | none => -1
set_option maxHeartbeats 8000000 in
set_option maxRecDepth 100000 in
theorem rfind17_ok (l : List Br) (hl : l.length ≤ 1000000) (n : ByteArray) : APure Try.prog 48 [.vsl (brs l), vs n] (vi (ixI (ixB l n 0))) := by
  have hvl := brs_len l
  refine apure_in Try.func48 Try.ntmps48 rfl ?_
  repeat' first | refine aw_N [] @hvl trivial ?_ | refine aw_cond rfl (fun h => ?_) (fun h => ?_)
  refine aw_loopW [0, 1, 5] (fun q fr σ => ∃ i N : Nat, i + q = l.length ∧ ixB l n 0 = ixB (l.drop i) n i ∧ σ = mkSt [] [] N ∧ fr = frm 20 [(0, .vsl (brs l)), (1, vs n), (5, vi (i : Nat))]) l.length ?_ ?_
  · exact ⟨_, le_mkSt (bs := []) (ss := []) (n := 0) (by simp) (by simp) (by simp [σ0]), 0, 0, by omega, rfl, rfl, by simp⟩
  · rintro q fr σ ⟨i, N, hi, hk, rfl, rfl⟩
    simp -implicitDefEqProofs
    by_cases hlt : i < l.length
    · have hlti : (i : Int) < l.length := by omega
      obtain ⟨⟨a, hh⟩, hp⟩ : ∃ p, l[i]? = some p := ⟨_, List.getElem?_eq_getElem hlt⟩
      have hg := brs_get hp
      have wi : IntKind.i64.wrap ((i : Int) + 1) = (i : Int) + 1 := wrap_id (by omega) (by omega)
      have hla : i < (brs l).length := by omega
      have hc : l.drop i = (a, hh) :: l.drop (i + 1) := by
        rw [List.drop_eq_getElem_cons hlt]
        congr 1
        rw [List.getElem?_eq_getElem hlt] at hp
        exact Option.some.inj hp
      rw [hc, ixB] at hk
      repeat' first | refine aw_N [] (And.intro @hlti (And.intro @hvl (And.intro @hg (And.intro @hla @wi)))) trivial ?_ | refine aw_cond rfl (fun h => ?_) (fun h => ?_)
      · have e : a = n := by simpa using h
        rw [hk, if_pos e]
        simp [tupOf, ixI]
      · have e : ¬ a = n := by simpa using h
        rw [if_neg e] at hk
        exact ⟨q - 1, by omega, _, le_mkSt (bs := []) (ss := []) (n := N) (by simp) (by simp) (by simp), i + 1, by omega, hk, ⟨N, rfl⟩, by simp⟩
    · have hlti : ¬ (i : Int) < l.length := by omega
      rw [List.drop_eq_nil_of_le (by omega), ixB] at hk
      rw [hk]
      repeat' first | refine aw_N [] (And.intro @hlti @hvl) trivial ?_ | refine aw_cond rfl (fun h => ?_) (fun h => ?_)
      simp [tupOf, ixI]
set_option maxHeartbeats 8000000 in
set_option maxRecDepth 100000 in
theorem rhead17_ok (l : List Br) (hl : l.length ≤ 1000000) (n : ByteArray) : APure Try.prog 24 [.vsl (brs l), vs n] (.tup [vi ((gotB l n).getD 0), vi (if (gotB l n).isSome = true then 0 else 4)]) := by
  have hvl := brs_len l
  have hf := rfind17_ok l hl n
  have hs := ixB_spec n l 0
  cases hq : ixB l n 0 with
  | none =>
    rw [hq] at hf hs
    simp only at hs
    rw [hs]
    simp only [ixI] at hf
    refine apure_in Try.func24 Try.ntmps24 rfl ?_
    repeat' first | refine aw_N [] @hvl (And.intro @hf trivial) ?_ | refine aw_cond rfl (fun h => ?_) (fun h => ?_)
    all_goals simp [tupOf]
  | some j =>
    rw [hq] at hf hs
    simp only at hs
    obtain ⟨_, h, h2, h3⟩ := hs
    simp only [Nat.sub_zero] at h3
    rw [h2]
    simp only [ixI] at hf
    have hg := brs_get h3
    have hj : j < l.length := (List.getElem?_eq_some_iff.1 h3).1
    have hj2 : j < (brs l).length := by omega
    have hn : ¬ (j : Int) < 0 := by omega
    have hji : (j : Int) < l.length := by omega
    have hj0 : (0 : Int) ≤ j := by omega
    refine apure_in Try.func24 Try.ntmps24 rfl ?_
    repeat' first | refine aw_N [] (And.intro @hvl (And.intro @hg (And.intro @hn (And.intro @hji @hj0)))) (And.intro @hf trivial) ?_ | refine aw_cond rfl (fun h => ?_) (fun h => ?_)
    all_goals simp [tupOf]
/-- Without a name. -/
def dropB (l : List Br) (n : ByteArray) : List Br := l.filter fun p => !decide (p.1 = n)
theorem gotB_none {n : ByteArray} : ∀ {l : List Br}, gotB l n = none → dropB l n = l
  | [], _ => rfl
  | (a, h) :: l, e => by
    rw [gotB] at e
    split at e
    · cases e
    · rename_i hne
      have ih := gotB_none e
      unfold dropB at ih ⊢
      rw [List.filter_cons_of_pos (by simpa using hne), ih]
theorem dropB_len (l : List Br) (n : ByteArray) : (dropB l n).length ≤ l.length := List.length_filter_le _ _
theorem okv_snoc {xs : List AV} {x : AV} {k j : Nat} (h : ∀ y ∈ xs, y.cells.length = k) (hx : x.cells.length = k) : ∀ y ∈ xs.take j ++ [x], y.cells.length = k := fun y hy => by
  rcases List.mem_append.1 hy with hy | hy
  · exact h y (List.mem_of_mem_take hy)
  · obtain rfl := List.mem_singleton.1 hy; exact hx
set_option maxHeartbeats 16000000 in
set_option maxRecDepth 100000 in
theorem rdrop17_ok (l : List Br) (hl : l.length ≤ 1000000) (n : ByteArray) : APure Try.prog 22 [.vsl (brs l), vs n] (.tup [.vsl (brs (dropB l n)), vi (if (gotB l n).isSome = true then 0 else 4)]) := by
  have hvl := brs_len l
  have hf := rfind17_ok l hl n
  have hs := ixB_spec n l 0
  cases hq : ixB l n 0 with
  | none =>
    rw [hq] at hf hs
    simp only at hs
    rw [gotB_none hs, hs]
    simp only [ixI] at hf
    refine apure_in Try.func22 Try.ntmps22 rfl ?_
    repeat' first | refine aw_N [] @hvl (And.intro @hf trivial) ?_ | refine aw_cond rfl (fun h => ?_) (fun h => ?_)
    all_goals simp [tupOf]
  | some j =>
    rw [hq] at hf hs
    simp only at hs
    obtain ⟨_, h, h2, h3⟩ := hs
    rw [h2]
    simp only [ixI] at hf
    have hn : ¬ (j : Int) < 0 := by omega
    clear h2 h3 hq
    refine apure_in Try.func22 Try.ntmps22 rfl ?_
    repeat' first | refine aw_N [] (And.intro @hvl @hn) (And.intro @hf trivial) ?_ | refine aw_cond rfl (fun h => ?_) (fun h => ?_)
    refine aw_open (i := 6) rfl ?_
    refine aw_loopW [0, 1, 6, 7] (fun q fr σ => ∃ k m i : Nat, i + q = l.length ∧ k < m ∧ σ = mkSt [] [(k, brs (dropB (l.take i) n))] m ∧ fr = frm 34 [(0, .vsl (brs l)), (1, vs n), (6, .hsl k 0 (dropB (l.take i) n).length), (7, vi (i : Nat))]) l.length ?_ ?_
    · refine ⟨_, le_mkSt (bs := []) (ss := [(0, [])]) (n := 1) (by simp) (by simp) (by decide), 0, 1, 0, by omega, by decide, by simp [dropB, brs], ?_⟩
      simp [σ0, dropB]
    · rintro q fr σ ⟨k, m, i, hi, hkm, rfl, rfl⟩
      simp -implicitDefEqProofs
      by_cases hlt : i < l.length
      · have hlti : (i : Int) < l.length := by omega
        obtain ⟨⟨a, hh⟩, hp⟩ : ∃ p, l[i]? = some p := ⟨_, List.getElem?_eq_getElem hlt⟩
        have hg := brs_get hp
        have wi : IntKind.i64.wrap ((i : Int) + 1) = (i : Int) + 1 := wrap_id (by omega) (by omega)
        have hla : i < (brs l).length := by omega
        have hle := dropB_len (l.take i) n
        rw [List.length_take] at hle
        have hnx : dropB (l.take (i + 1)) n = dropB (l.take i) n ++ (if a = n then [] else [(a, hh)]) := by
          unfold dropB
          rw [List.take_add_one, hp, List.filter_append]
          by_cases e : a = n <;> simp [e]
        generalize dropB (l.take i) n = P at *
        have hPl := brs_len P
        have hPc := brs_okv P
        by_cases e : a = n
        · subst e
          repeat' first | refine aw_N [] (And.intro @hlti (And.intro @hvl (And.intro @hg (And.intro @hla @wi)))) trivial ?_ | refine aw_cond rfl (fun h => ?_) (fun h => ?_)
          refine ⟨q - 1, by omega, _, le_mkSt (bs := []) (ss := [(k, brs P)]) (n := m) (by simp) (by simp) (by simp), k, m, i + 1, by omega, hkm, ?_, ?_⟩
          · rw [hnx]; simp
          · rw [hnx]; simp
        · repeat' first | refine aw_N [] (And.intro @hlti (And.intro @hvl (And.intro @hg (And.intro @hla (And.intro @wi @e))))) trivial ?_ | refine aw_cond rfl (fun h => ?_) (fun h => ?_)
          refine awl_append [] rfl rfl rfl (xs := brs P) (by simp) (by simp [hPl]) rfl (by simp) te56 tet56 tz106 rfl hPc (by simp) (by simp; omega) (by simp; omega) ?_
          simp -implicitDefEqProofs
          repeat' first | refine aw_N [] @wi trivial ?_ | refine aw_cond rfl (fun h => ?_) (fun h => ?_)
          refine ⟨q - 1, by omega, _, le_mkSt (bs := []) (ss := [(m, (brs P).take P.length ++ [br (a, hh)])]) (n := m + 1) (by simp) (by simp [br]) (by simp), m, m + 1, i + 1, by omega, by omega, ?_, ?_⟩
          · rw [hnx, if_neg e, List.take_of_length_le (by omega)]; simp [brs]
          · rw [hnx, if_neg e]; simp
      · have hlti : ¬ (i : Int) < l.length := by omega
        rw [List.take_of_length_le (by omega)]
        have hPl := brs_len (dropB l n)
        refine aw_freeze (b := k) (xs := brs (dropB l n)) (by simp) ?_
        simp -implicitDefEqProofs [frz, frz1, frz0, hPl]
        repeat' first | refine aw_N [] (And.intro @hlti @hvl) trivial ?_ | refine aw_cond rfl (fun h => ?_) (fun h => ?_)
        simp [tupOf, List.take_of_length_le, hPl]
/-- Is a less than b? -/
def ltS (a b : ByteArray) : Bool := Op.bytesLess a.data.toList b.data.toList
def gtS (a b : ByteArray) : Bool := !(ltS a b || decide (a = b))
def insB : List Br → ByteArray → Int → List Br
  | [], n, h => [(n, h)]
  | (a, g) :: l, n, h => if gtS a n = true then (n, h) :: (a, g) :: l else (a, g) :: insB l n h
def setE (l : List Br) (n : ByteArray) : Int := if nameP n = false then 1 else if gotB l n = none ∧ 16 ≤ l.length then 3 else 0
def setB (l : List Br) (n : ByteArray) (h : Int) : List Br := if setE l n = 0 then insB (dropB l n) n h else l
theorem insB_len (n : ByteArray) (h : Int) : ∀ l, (insB l n h).length = l.length + 1
  | [] => rfl
  | (a, g) :: l => by
    rw [insB]
    split
    · rfl
    · rw [List.length_cons, insB_len n h l, List.length_cons]
def SetI (L : List Br) (n : ByteArray) (h : Int) (q : Nat) (fr : List AV) (σ : ASt) : Prop := ∃ (k m i : Nat) (O : List Br) (d : Bool), i + q = L.length ∧ k < m ∧ O.length + (if d = true then 0 else 1) ≤ i + 1 ∧ O ++ (if d = true then L.drop i else insB (L.drop i) n h) = insB L n h ∧ σ = mkSt [] [(k, brs O)] m ∧ fr = frm 74 [(1, vs n), (2, vi h), (9, .vsl (brs L)), (11, .hsl k 0 O.length), (12, vb d), (13, vi (i : Nat))]
set_option maxHeartbeats 16000000 in
set_option maxRecDepth 100000 in
theorem rset17_ok (l : List Br) (hl : l.length ≤ 1000000) (n : ByteArray) (hn : n.size ≤ 9223372036854775807) (h : Int) : APure Try.prog 26 [.vsl (brs l), vs n, vi h] (.tup [.vsl (brs (setB l n h)), vi (setE l n)]) := by
  have hvl := brs_len l
  have hr := rright17_ok n hn
  have hf := rfind17_ok l hl n
  have hd := rdrop17_ok l hl n
  have hs := ixB_spec n l 0
  have hdl := dropB_len l n
  cases hnm : nameP n with
  | false =>
    rw [hnm] at hr
    have hE : setE l n = 1 := by simp [setE, hnm]
    have hB : setB l n h = l := by simp [setB, hE]
    rw [hE, hB]
    refine apure_in Try.func26 Try.ntmps26 rfl ?_
    repeat' first | refine aw_N [] @hvl (And.intro @hr trivial) ?_ | refine aw_cond rfl (fun h => ?_) (fun h => ?_)
    all_goals simp [tupOf]
  | true =>
    rw [hnm] at hr
    by_cases hful : gotB l n = none ∧ 16 ≤ l.length
    · have hix : ixB l n 0 = none := by
        cases hq : ixB l n 0 with
        | none => rfl
        | some j => rw [hq] at hs; obtain ⟨_, h', e, _⟩ := hs; rw [hful.1] at e; cases e
      rw [hix] at hf
      simp only [ixI] at hf
      have h16 : (16 : Int) ≤ l.length := by omega
      have hE : setE l n = 3 := by simp [setE, hnm, hful]
      have hB : setB l n h = l := by simp [setB, hE]
      rw [hE, hB]
      refine apure_in Try.func26 Try.ntmps26 rfl ?_
      repeat' first | refine aw_N [] (And.intro @hvl @h16) (And.intro @hr (And.intro @hf trivial)) ?_ | refine aw_cond rfl (fun h => ?_) (fun h => ?_)
      all_goals simp [tupOf]
    · have hE : setE l n = 0 := by unfold setE; rw [if_neg (by simp [hnm]), if_neg hful]
      have hB : setB l n h = insB (dropB l n) n h := by simp [setB, hE]
      rw [hE, hB]
      have hc : (decide (ixI (ixB l n 0) < 0) && decide ((16 : Int) ≤ l.length)) = false := by
        cases hq : ixB l n 0 with
        | none =>
          rw [hq] at hs
          have : ¬ 16 ≤ l.length := fun e => hful ⟨hs, e⟩
          simp [ixI]
          omega
        | some j =>
          have : ¬ ((j : Nat) : Int) < 0 := by omega
          simp [ixI, this]
      generalize dropB l n = L at *
      generalize ixI (ixB l n 0) = ii at *
      generalize (if (gotB l n).isSome = true then (0 : Int) else 4) = de at *
      clear hs hful
      have hvL := brs_len L
      refine apure_in Try.func26 Try.ntmps26 rfl ?_
      repeat' first | refine aw_N [] (And.intro @hvl (And.intro @hvL @hc)) (And.intro @hr (And.intro @hf (And.intro @hd trivial))) ?_ | refine aw_cond rfl (fun h => ?_) (fun h => ?_)
      refine aw_open (i := 11) rfl ?_
      refine aw_loopW [1, 2, 9, 11, 12, 13] (fun q fr σ => SetI L n h q fr σ) L.length ?_ ?_
      · refine ⟨_, le_mkSt (bs := []) (ss := [(0, [])]) (n := 1) (by simp) (by simp) (by decide), 0, 1, 0, [], false, by omega, by decide, by simp, by simp, by simp [brs], ?_⟩
        simp [σ0]
      · rintro q fr σ ⟨k, m, i, O, d, hi, hkm, hO, hins, rfl, rfl⟩
        simp -implicitDefEqProofs
        have hOl := brs_len O
        have hOc := brs_okv O
        have hO' : O.length ≤ i + 1 := by omega
        by_cases hlt : i < L.length
        · have hlti : (i : Int) < L.length := by omega
          obtain ⟨⟨a, hh⟩, hp⟩ : ∃ p, L[i]? = some p := ⟨_, List.getElem?_eq_getElem hlt⟩
          have hg := brs_get hp
          have wi : IntKind.i64.wrap ((i : Int) + 1) = (i : Int) + 1 := wrap_id (by omega) (by omega)
          have hla : i < (brs L).length := by omega
          have hcd : L.drop i = (a, hh) :: L.drop (i + 1) := by
            rw [List.drop_eq_getElem_cons hlt]
            congr 1
            rw [List.getElem?_eq_getElem hlt] at hp
            exact Option.some.inj hp
          rw [hcd] at hins
          cases d with
          | true =>
            repeat' first | refine aw_N [] (And.intro @hlti (And.intro @hvL (And.intro @hg @wi))) trivial ?_ | refine aw_cond rfl (fun h => ?_) (fun h => ?_)
            refine awl_append [] rfl rfl rfl (xs := brs O) (by simp) (by simp [hOl]) rfl (by simp) te56 tet56 tz106 rfl hOc (by simp) (by simp; omega) (by simp; omega) ?_
            simp -implicitDefEqProofs
            repeat' first | refine aw_N [] @wi trivial ?_ | refine aw_cond rfl (fun h => ?_) (fun h => ?_)
            refine ⟨q - 1, by omega, _, le_mkSt (bs := []) (ss := [(m, (brs O).take O.length ++ [br (a, hh)])]) (n := m + 1) (by simp) (by simp [br]) (by simp), m, m + 1, i + 1, O ++ [(a, hh)], true, by omega, by omega, by simp at hO ⊢; omega, ?_, ?_, ?_⟩
            · rw [← hins]; simp
            · rw [List.take_of_length_le (by omega)]; simp [brs]
            · simp
          | false =>
            cases hgt : gtS a n with
            | true =>
              have hgt2 := hgt
              unfold gtS ltS at hgt2
              repeat' first | refine aw_N [] (And.intro @hlti (And.intro @hvL (And.intro @hg (And.intro @wi @hgt2)))) trivial ?_ | refine aw_cond rfl (fun h => ?_) (fun h => ?_)
              refine awl_append [] rfl rfl rfl (xs := brs O) (by simp) (by simp [hOl]) rfl (by simp) te56 tet56 tz106 rfl hOc (by simp) (by simp; omega) (by simp; omega) ?_
              simp -implicitDefEqProofs
              repeat' first | refine aw_N [] (And.intro @hlti (And.intro @hvL (And.intro @hg (And.intro @wi @hgt2)))) trivial ?_ | refine aw_cond rfl (fun h => ?_) (fun h => ?_)
              refine awl_append [] rfl rfl rfl (xs := (brs O).take O.length ++ [br (n, h)]) (by simp [br]) (by simp [hOl]) rfl (by simp) te56 tet56 tz106 rfl (okv_snoc hOc rfl) (by simp) (by simp; omega) (by simp; omega) ?_
              simp -implicitDefEqProofs
              repeat' first | refine aw_N [] @wi trivial ?_ | refine aw_cond rfl (fun h => ?_) (fun h => ?_)
              refine ⟨q - 1, by omega, _, le_mkSt (bs := []) (ss := [(m + 1, brs O ++ [br (n, h), br (a, hh)])]) (n := m + 2) (by simp) (by simp [br, List.take_of_length_le, hOl]) (by simp), m + 1, m + 2, i + 1, O ++ [(n, h), (a, hh)], true, by omega, by omega, by simp at hO ⊢; omega, ?_, ?_, ?_⟩
              · rw [← hins]; simp [insB, hgt]
              · simp [brs]
              · simp
            | false =>
              have hgt2 := hgt
              unfold gtS ltS at hgt2
              repeat' first | refine aw_N [] (And.intro @hlti (And.intro @hvL (And.intro @hg (And.intro @wi @hgt2)))) trivial ?_ | refine aw_cond rfl (fun h => ?_) (fun h => ?_)
              refine awl_append [] rfl rfl rfl (xs := brs O) (by simp) (by simp [hOl]) rfl (by simp) te56 tet56 tz106 rfl hOc (by simp) (by simp; omega) (by simp; omega) ?_
              simp -implicitDefEqProofs
              repeat' first | refine aw_N [] @wi trivial ?_ | refine aw_cond rfl (fun h => ?_) (fun h => ?_)
              refine ⟨q - 1, by omega, _, le_mkSt (bs := []) (ss := [(m, (brs O).take O.length ++ [br (a, hh)])]) (n := m + 1) (by simp) (by simp [br]) (by simp), m, m + 1, i + 1, O ++ [(a, hh)], false, by omega, by omega, by simp at hO ⊢; omega, ?_, ?_, ?_⟩
              · rw [← hins]; simp [insB, hgt]
              · rw [List.take_of_length_le (by omega)]; simp [brs]
              · simp
        · have hlti : ¬ (i : Int) < L.length := by omega
          rw [List.drop_eq_nil_of_le (by omega)] at hins
          cases d with
          | true =>
            have hins : O = insB L n h := by rw [← hins]; simp
            subst hins
            refine aw_freeze (b := k) (xs := brs (insB L n h)) (by simp) ?_
            simp -implicitDefEqProofs [frz, frz1, frz0, hOl]
            repeat' first | refine aw_N [] (And.intro @hlti @hvL) trivial ?_ | refine aw_cond rfl (fun h => ?_) (fun h => ?_)
            simp [tupOf, List.take_of_length_le, hOl]
          | false =>
            have hins : O ++ [(n, h)] = insB L n h := by rw [← hins]; simp [insB]
            rw [← hins]
            repeat' first | refine aw_N [] (And.intro @hlti @hvL) trivial ?_ | refine aw_cond rfl (fun h => ?_) (fun h => ?_)
            refine awl_append [] rfl rfl rfl (xs := brs O) (by simp) (by simp [hOl]) rfl (by simp) te56 tet56 tz106 rfl hOc (by simp) (by simp; omega) (by simp; omega) ?_
            simp -implicitDefEqProofs
            refine aw_freeze (b := m) (xs := (brs O).take O.length ++ [br (n, h)]) (by simp [br]) ?_
            simp -implicitDefEqProofs [frz, frz1, frz0, hOl]
            repeat' first | refine aw_N [] trivial trivial ?_ | refine aw_cond rfl (fun h => ?_) (fun h => ?_)
            have e : (brs O).take O.length ++ [br (n, h)] = brs (O ++ [(n, h)]) := by rw [List.take_of_length_le (by omega)]; simp [brs]
            rw [e, List.take_of_length_le (by rw [brs_len]; simp)]
            rfl
end Go.AL
/-! Regions that draw, where two operations may stand in either order: shown for each. -/
namespace Go.AL
set_option linter.unusedVariables false
set_option linter.unusedSimpArgs false
variable {P : Program} {σ : ASt} {D : List Deferred} {Q : Exit → List AV → ASt → Prop} {fr : List AV}
/-! ### in another order of the text -/
/-- Is it one? -/
def isPerm (n : Nat) (ps : List Nat) : Bool := (decide (ps.length = n) && (List.range n).all fun i => ps.contains i) && decide ps.Nodup
section
variable {l : List Oper} {ps : List Nat} (hp : isPerm l.length ps = true)
include hp
end
end Go.AL
/-! What append hands back, closed at once. -/
namespace Go.AL
set_option linter.unusedVariables false
set_option linter.unusedSimpArgs false
variable {P : Program} {σ : ASt} {R : AV → ASt → Prop} {D : List Deferred} {Q : Exit → List AV → ASt → Prop} {fr : List AV} {ops : Array Oper} {o : Oper} {rest : List Oper}
theorem Outc.fin {G w v w'} (h : Outc G w (fun r τ => Fin R r τ) v w') : Outc G w R v w' := by
  obtain ⟨r, G1, σ1, h1, h2, h3, h4⟩ := h
  obtain ⟨r2, G2, σ2, k1, k2, k3, k4⟩ := h4 G1 w' v h2 h3
  exact ⟨r2, G2, σ2, h1.trans k1, k2, k3, k4⟩
theorem OpQ.fin {ρ : Operand → AV} (h : OpQ P o ρ σ fun r τ => Fin R r τ) : OpQ P o ρ σ R := fun G e w h1 h2 => by
  have h := h G e w h1 h2
  generalize (execOp e o).run P w = n at *
  cases n with
  | halt => exact h
  | ok n w' =>
    cases n with
    | value v => exact Outc.fin h
    | skip => exact Outc.fin h
    | enter f args => exact Calls.mono h fun e w'' he => retOf_mono (fun v w' h => Outc.fin h) he
    | round l f tmps assign body => exact RoundIn.mono h fun e w'' he => retOf_mono (fun v w' h => Outc.fin h) he
    | _ => exact h
end Go.AL
/-! delete. -/
namespace Go.AL
set_option linter.unusedVariables false
set_option linter.unusedSimpArgs false
variable {P : Program} {σ : ASt} {R : AV → ASt → Prop} {D : List Deferred} {Q : Exit → List AV → ASt → Prop} {fr : List AV} {ops : Array Oper} {o : Oper} {ρ : Operand → AV} {rest : List Oper}
def amdel (d : TypeDesc) (k : AV) (es : List (AV × AV)) : Option (List (AV × AV)) := (amfind d k es 0).map fun r => match r with
  | none => es
  | some (j, _) => es.eraseIdx j
theorem opq_mapDel {t t2 : TypeId} {m k : Operand} (ho : o.op = .call { callee := .builtin .delete, args := #[m, k], argTypes := #[t, t2] }) {d : TypeDesc} {el : TypeId} (ht : tmap P t = some (d, el)) {b : Nat} (hm : ρ m = .map b) {es es' : List (AV × AV)} (hb : σ.mp b = some es) {kv : Value} (hk : ρ k = .p kv)
    (hf : amdel d (.p kv) es = some es') (hr : R (.p undef) { σ with mp := upd σ.mp b (some es') }) : OpQ P o ρ σ R := by
  obtain ⟨kt, u1, u2, u3⟩ := tmap_spec ht
  intro G e w he hw
  have hm' := he m
  rw [hm] at hm'
  have hk' := he k
  rw [hk] at hk'
  obtain ⟨r, hfd, rfl⟩ := Option.map_eq_some_iff.1 hf
  obtain ⟨μ, ents, clock, g1, g2, g3, g4, g5⟩ := mp_map (hw.mp b es hb) hfd
  generalize hem : e m = vm at hm'
  generalize hek : e k = vk at hk'
  cases hk'
  obtain ⟨μ', rfl, g⟩ : ∃ μ', vm = .map (some μ') ∧ G.mp b = some μ' := by cases hm'; exact ⟨_, rfl, by assumption⟩
  obtain rfl := Option.some.inj (g.symm.trans g1)
  have hfn := findNow_spec (G := G) (w := w) es ents.toList 0 r (by simp [g3]) (fun n k x e a c => by
    have := g4 n k x e a (by simpa using c)
    exact ⟨this.1, this.2.1⟩) hfd
  have key : ∃ ents' clock', (execOp e o).run P w = ((setObj μ' (.map ents' clock')).run P w).andThen (fun _ w' => .ok (.value (.tuple #[])) w') ∧ ents'.size = (match r with | none => es | some (j, _) => es.eraseIdx j).length ∧
      (∀ (i : Nat) k' x' (e' : MapEntry), (match r with | none => es | some (j, _) => es.eraseIdx j)[i]? = some (k', x') → ents'[i]? = some e' → Rep G w k' e'.key ∧ Rep G w x' e'.val ∧ e'.born < clock') ∧ (∀ (i j : Nat) (e e' : MapEntry), ents'[i]? = some e → ents'[j]? = some e' → e.born = e'.born → i = j) := by
    cases r with
    | none =>
      refine ⟨ents, clock, ?_, g3, g4, g5⟩
      rw [execOp_builtin e ho]
      simp [builtin, Builtin.delete_, run_underlying' u1, hem, hek, run_getObj_map g2, run_checkKey u2 u3, run_findKey u2 hfn]
      cases Sem.run P (setObj μ' (.map ents clock)) w <;> rfl
    | some jy =>
      obtain ⟨j, y⟩ := jy
      obtain ⟨e0, _, he0, hre, hfn⟩ := hfn
      have hj : j < es.length := by
        obtain ⟨_, hes, _⟩ := amfind_key es 0 j y hfd
        exact (List.getElem?_eq_some_iff.1 (by simpa using hes)).1
      have hje : j < ents.size := by omega
      have hget : ∀ i : Nat, (ents.eraseIdxIfInBounds j)[i]? = if i < j then ents[i]? else ents[i + 1]? := fun i => by
        rw [Array.eraseIdxIfInBounds_eq, dif_pos hje, Array.getElem?_eraseIdx]
      have hgl : ∀ i : Nat, (es.eraseIdx j)[i]? = if i < j then es[i]? else es[i + 1]? := fun i => List.getElem?_eraseIdx
      refine ⟨ents.eraseIdxIfInBounds j, clock, ?_, ?_, ?_, ?_⟩
      · rw [execOp_builtin e ho]
        simp [builtin, Builtin.delete_, run_underlying' u1, hem, hek, run_getObj_map g2, run_checkKey u2 u3, run_findKey u2 hfn]
        cases Sem.run P (setObj μ' (.map (ents.eraseIdxIfInBounds j) clock)) w <;> rfl
      · rw [Array.eraseIdxIfInBounds_eq, dif_pos hje, Array.size_eraseIdx, List.length_eraseIdx, if_pos hj, g3]
      · intro i k' x' e' a c
        simp only at a
        rw [hgl] at a
        rw [hget] at c
        split at a
        · rename_i hi; rw [if_pos hi] at c; exact g4 i k' x' e' a c
        · rename_i hi; rw [if_neg hi] at c; exact g4 (i + 1) k' x' e' a c
      · intro i i' e1 e2 h1 h2 h3
        rw [hget] at h1 h2
        split at h1 <;> split at h2
        · exact g5 i i' e1 e2 h1 h2 h3
        · have := g5 i (i' + 1) e1 e2 h1 h2 h3; omega
        · have := g5 (i + 1) i' e1 e2 h1 h2 h3; omega
        · have := g5 (i + 1) (i' + 1) e1 e2 h1 h2 h3; omega
  obtain ⟨ents', clock', run, k1, k2, k3⟩ := key
  obtain ⟨w', hset, htouch, hh⟩ := run_setObj (P := P) (o' := .map ents' clock') g2
  rw [run, hset, Result.andThen_ok]
  have hown : Owns G σ μ' (1, b) := .mp b μ' es hb g
  have hl := Le.touch hw hown htouch
  exact ⟨_, G, _, hl, hw.touch_mp hb g htouch (fun hl => .inl ⟨μ', ents', clock', g, hh, k1, fun i k' x' e' a c => ⟨(k2 i k' x' e' a c).1.mono hl, (k2 i k' x' e' a c).2.1.mono hl, (k2 i k' x' e' a c).2.2⟩, k3⟩), .p _, hr⟩
theorem awl_mapDel {t t2 : TypeId} {m k : Operand} (mu : List Nat) (ho : o.op = .call { callee := .builtin .delete, args := #[m, k], argTypes := #[t, t2] }) (hw : awanted ops o fr = some true) {d : TypeDesc} {el : TypeId} (ht : tmap P t = some (d, el)) {b : Nat} (hm : aev fr m = .map b) {es es' : List (AV × AV)} (hb : σ.mp b = some es)
    {kv : Value} (hk : aev fr k = .p kv) (hf : amdel d (.p kv) es = some es') (hk2 : Shut (ARun P D ops Q mu rest (aput fr o.dst (.p undef)) { σ with mp := upd σ.mp b (some es') })) : AWL P D ops Q (o :: rest) fr σ :=
  awl_cons hw (opq_mapDel ho ht hm hb hk hf (awl_run' mu hk2))
end Go.AL
/-! Methods on a variable that holds a map. -/
namespace Go.AL
set_option linter.unusedVariables false
set_option linter.unusedSimpArgs false
variable {P : Program} {σ : ASt} {R : AV → ASt → Prop} {D : List Deferred} {Q : Exit → List AV → ASt → Prop} {fr : List AV} {ops : Array Oper} {o : Oper} {rest : List Oper}
/-- The variable number 0, with the map number 1. -/
def tbS (es : List (AV × AV)) : ASt := ⟨fun i => if i = 0 then some [.map 1] else none, fun i => if i = 1 then some es else none, fun _ => none, 2⟩
@[simp] theorem tbS_bx (es : List (AV × AV)) (i : Nat) : (tbS es).bx i = if i = 0 then some [.map 1] else none := rfl
@[simp] theorem tbS_mp (es : List (AV × AV)) (i : Nat) : (tbS es).mp i = if i = 1 then some es else none := rfl
@[simp] theorem tbS_sl (es : List (AV × AV)) (i : Nat) : (tbS es).sl i = none := rfl
@[simp] theorem tbS_next (es : List (AV × AV)) : (tbS es).next = 2 := rfl
/-- By its address it hands back r, and leaves es'. -/
def TC (P : Program) (f : FuncId) (args : List AV) (es : List (AV × AV)) (r : AV) (es' : List (AV × AV)) : Prop := ACall P f (.ptr 0 0 :: args) (tbS es) fun r' σ' => r' = r ∧ σ'.bx 0 = some [.map 1] ∧ σ'.mp 1 = some es'
theorem TC.call {f : FuncId} {args : List AV} {es es' : List (AV × AV)} {r : AV} {b m : Nat} (h : TC P f args es r es') (ha : ∀ a ∈ args, Cl a) (hr : Cl r) (hes : ∀ p ∈ es, Cl p.1 ∧ Cl p.2) (hes' : ∀ p ∈ es', Cl p.1 ∧ Cl p.2)
    (hne : b ≠ m) (hb : σ.bx b = some [.map m]) (hm : σ.mp m = some es) (z1 : σ.mp b = none) (z2 : σ.sl b = none) (z3 : σ.bx m = none) (z4 : σ.sl m = none) :
    ACall P f (.ptr b 0 :: args) σ fun r' σ' => r' = r ∧ σ' = { σ with mp := upd σ.mp m (some es') } := by
  refine acall_ok fun hok => ?_
  have hbn : b < σ.next := by
    rcases Nat.lt_or_ge b σ.next with h' | h'
    · exact h'
    · rw [hok.bx b h'] at hb; cases hb
  have hmn : m < σ.next := by
    rcases Nat.lt_or_ge m σ.next with h' | h'
    · exact h'
    · rw [hok.mp m h'] at hm; cases hm
  obtain ⟨ρ, hρ⟩ : ∃ ρ, ρ = ridx [b, m] σ.next := ⟨_, rfl⟩
  have r0 : ρ 0 = b := by rw [hρ]; rfl
  have r1 : ρ 1 = m := by rw [hρ]; rfl
  have h0 : ACall P f (.ptr 0 0 :: args) (tbS es) fun r' σ' => r' = r ∧ σ'.bx = (tbS es').bx ∧ σ'.mp = (tbS es').mp ∧ σ'.sl = (tbS es').sl :=
    ACall.low h fun r' τ ⟨e1, e2, e3⟩ => ⟨⟨(tbS es').bx, (tbS es').mp, (tbS es').sl, τ.next⟩, {
      bx := fun i cs e => by
        simp only [tbS_bx] at e
        split at e
        · rename_i hi; subst hi; rw [e2]; exact e
        · cases e
      mp := fun i cs e => by
        simp only [tbS_mp] at e
        split at e
        · rename_i hi; subst hi; rw [e3]; exact e
        · cases e
      sl := fun _ _ e => by cases e
      next := Nat.le_refl _ }, e1, rfl, rfl, rfl⟩
  have h1 := ACall.frame1 (σ := σ) [b, m] (h := h0) rfl ⟨fun i hi => by
      have : ¬ i = 0 := by have : 2 ≤ i := hi; omega
      simp [this], fun i hi => by
      have : ¬ i = 1 := by have : 2 ≤ i := hi; omega
      simp [this], fun _ _ => rfl⟩ (by intro x hx; simp at hx; rcases hx with rfl | rfl <;> assumption) (by simpa using hne) (fun i cs e => by
      simp only [tbS_bx] at e
      split at e
      · rename_i hi; subst hi
        obtain rfl := Option.some.inj e
        rw [← hρ]; simp [rens, ren, r0, r1, hb]
      · cases e) (fun i xs e => by
      simp only [tbS_mp] at e
      split at e
      · rename_i hi; subst hi
        obtain rfl := Option.some.inj e
        rw [← hρ, r1, hm]
        refine congrArg some ?_
        conv => lhs; rw [← List.map_id es]
        exact List.map_congr_left fun p hp => by rw [renE, ren_closed _ (hes p hp).1, ren_closed _ (hes p hp).2]; rfl
      · cases e) (fun i xs e => by cases e) (fun r' τ ⟨e1, e2, e3, e4⟩ => by
      subst e1
      refine ⟨.of_cl hr, fun i cs e hi c hc => ?_, fun i es e hi p hp => ?_, fun i xs e hi => by rw [e4] at e; cases e⟩
      · rw [e2] at e
        simp only [tbS_bx] at e
        split at e
        · obtain rfl := Option.some.inj e
          obtain rfl := List.mem_singleton.1 hc
          intro π hπ
          simp only [ren]
          rw [hπ 1 (by simp)]
        · cases e
      · rw [e3] at e
        simp only [tbS_mp] at e
        split at e
        · obtain rfl := Option.some.inj e
          exact ⟨.of_cl (hes' p hp).1, .of_cl (hes' p hp).2⟩
        · cases e)
  rw [← hρ] at h1
  have ea : rens ρ (.ptr 0 0 :: args) = .ptr b 0 :: args := by
    simp only [rens, ren, r0]
    rw [rens_cl ha]
  rw [ea] at h1
  refine h1.mono fun r' σ' ⟨rc, τ, ⟨e1, e2, e3, e4⟩, e5, e6⟩ => ?_
  subst e1
  refine ⟨by rw [e5, ren_closed _ hr], ?_⟩
  rw [e6]
  unfold back1
  have hmb : ¬ m = b := fun e => hne e.symm
  have f0 : ∀ x, rfind x [b, m] 0 = if x = b then some 0 else if x = m then some 1 else none := fun x => by
    simp only [rfind]
  have esE : es'.map (renE ρ) = es' := by
    conv => rhs; rw [← List.map_id es']
    exact List.map_congr_left fun p hp => by rw [renE, ren_closed _ (hes' p hp).1, ren_closed _ (hes' p hp).2]; rfl
  rw [← hρ]
  congr 1
  · funext x
    rw [f0, e2]
    by_cases q1 : x = b
    · subst q1; simp [rens, ren, r1, hb]
    · by_cases q2 : x = m
      · subst q2; simp [hmb, z3]
      · simp [q1, q2]
  · funext x
    rw [f0, e3]
    by_cases q1 : x = b
    · subst q1; simp [upd, hne, z1]
    · by_cases q2 : x = m
      · subst q2; simp [hmb, upd, esE]
      · simp [q1, q2, upd]
  · funext x
    rw [f0, e4]
    by_cases q1 : x = b
    · subst q1; simp [z2]
    · by_cases q2 : x = m
      · subst q2; simp [hmb, z4]
      · simp [q1, q2]
/-- Such a call, next in a run. -/
theorem awl_tab {f : Operand} {aa : Array Operand} {ts : Array TypeId} (mu : List Nat) (ho : o.op = .call { callee := .value f, args := aa, argTypes := ts }) (hw : awanted ops o fr = some true)
    {F : FuncId} {first cap : List AV} (hf : acallee (aev fr f) = some (F, first, cap)) (hc : callable P F = true) {args : List AV} {es es' : List (AV × AV)} {r : AV} {b m : Nat} (h : TC P F args es r es') (he : first ++ aa.toList.map (aev fr) ++ cap = .ptr b 0 :: args) (ha : ∀ a ∈ args, Cl a) (hr : Cl r) (hes : ∀ p ∈ es, Cl p.1 ∧ Cl p.2) (hes' : ∀ p ∈ es', Cl p.1 ∧ Cl p.2)
    (hne : b ≠ m) (hb : σ.bx b = some [.map m]) (hm : σ.mp m = some es) (z : σ.mp b = none ∧ σ.sl b = none ∧ σ.bx m = none ∧ σ.sl m = none)
    (hk : Shut (ARun P D ops Q mu rest (aput fr o.dst r) { σ with mp := upd σ.mp m (some es') })) : AWL P D ops Q (o :: rest) fr σ :=
  awl_cons hw (opq_call ho hf hc (by rw [he]; exact (h.call ha hr hes hes' hne hb hm z.1 z.2.1 z.2.2.1 z.2.2.2).mono fun r' τ' ⟨e1, e2⟩ => by subst e1; subst e2; exact awl_run' mu hk))
theorem tc_in {f : FuncId} {fn : Func} {c : Code} {n : Nat} {args : List AV} {es es' : List (AV × AV)} {r : AV} {K : Prop} (hf : P.funcs[f]? = some fn) (hn : fn.ntmps = n) (hb : fn.body = some c) (k : K)
    (h : K → AW P [] c (RetQ P fn fun r' σ' => r' = r ∧ σ'.bx 0 = some [.map 1] ∧ σ'.mp 1 = some es') ((.ptr 0 0 :: args) ++ List.replicate (n - (.ptr 0 0 :: args : List AV).length) (.p undef)) (tbS es) := by intro k; simp only [List.length_cons, List.length_nil, List.cons_append, List.nil_append, List.replicate]; exact k) : TC P f args es r es' :=
  acall_of hf hn hb (h k)
end Go.AL
/-! Contracts: branch.Table's methods. -/
namespace Go.AL
open Go.Proofs
set_option linter.unusedSimpArgs false
set_option linter.unusedVariables false
def hes (L : List Br) : List (AV × AV) := L.map fun p => (vs p.1, vi p.2)
theorem cl_hes (L : List Br) : ∀ p ∈ hes L, Cl p.1 ∧ Cl p.2 := fun p hp => by
  obtain ⟨q, _, rfl⟩ := List.mem_map.1 hp
  simp
theorem hes_len (L : List Br) : (hes L).length = L.length := List.length_map _
theorem find_hes (n : ByteArray) : ∀ (L : List Br) (i : Nat), amfind .string (.p (.string n)) (hes L) i = some ((ixB L n i).map fun j => (j, vi ((gotB L n).getD 0)))
  | [], i => rfl
  | (a, h) :: L, i => by
    have ih := find_hes n L (i + 1)
    have e : hes ((a, h) :: L) = (vs a, vi h) :: hes L := rfl
    rw [e, amfind, ixB, gotB]
    by_cases hc : a = n
    · subst hc; simp [akey]
    · have hc' : ¬ n = a := fun e => hc e.symm
      simp [akey, hc, hc', ih]
theorem tbT : tmap Try.prog 101 = some (.string, 3) := by kernel_rfl
theorem ixB_some (L : List Br) (n : ByteArray) : (ixB L n 0).isSome = (gotB L n).isSome := by
  have := ixB_spec n L 0
  cases hq : ixB L n 0 with
  | none => rw [hq] at this; simp only at this; rw [this]; rfl
  | some j => rw [hq] at this; obtain ⟨_, v, hv, _⟩ := this; rw [hv]; rfl
theorem awl_lookupQ {P : Program} {σ : ASt} {D : List Deferred} {Q : Exit → List AV → ASt → Prop} {fr : List AV} {ops : Array Oper} {o : Oper} {rest : List Oper} {t : TypeId} {m k : Operand} {ok : Bool} (mu : List Nat) (ho : o.op = .lookup t m k ok) (hw : awanted ops o fr = some true) {d : TypeDesc} {el : TypeId} (ht : tmap P t = some (d, el)) {b : Nat} (hm : aev fr m = .map b) {es : List (AV × AV)} (hb : σ.mp b = some es)
    {kv : Value} (hk : aev fr k = .p kv) {r : Option (Nat × AV)} (hf : amfind d (.p kv) es 0 = some r) {x : AV} (h1 : ∀ j y, r = some (j, y) → x = y) (h2 : r = none → tzero P el = some x)
    (hk2 : Shut (ARun P D ops Q mu rest (aput fr o.dst (if ok = true then .tup [x, .p (.bool r.isSome)] else x)) σ)) : AWL P D ops Q (o :: rest) fr σ := by
  cases r with
  | none => exact awl_lookup mu ho hw ht hm hb hk hf (h2 rfl) hk2
  | some q => obtain ⟨j, y⟩ := q; exact awl_lookup mu ho hw ht hm hb hk hf (h1 j y rfl) hk2
theorem ixB_none {L : List Br} {n : ByteArray} (h : ixB L n 0 = none) : gotB L n = none := by
  have := ixB_spec n L 0
  rw [h] at this; exact this
set_option maxHeartbeats 8000000 in
set_option maxRecDepth 100000 in
theorem bhead_ok (L : List Br) (n : ByteArray) : TC Try.prog 23 [vs n] (hes L) (.tup [vi ((gotB L n).getD 0), vi (if (gotB L n).isSome = true then 0 else 4)]) (hes L) := by
  have hs := ixB_some L n
  refine tc_in Try.func23 Try.ntmps23 rfl ?_
  repeat' first | refine aw_N [] trivial trivial ?_ | refine aw_cond rfl (fun h => ?_) (fun h => ?_)
  refine awl_lookupQ [] rfl rfl tbT rfl (es := hes L) (by simp) rfl (find_hes n L 0) (x := vi ((gotB L n).getD 0)) (fun j y e => by
    obtain ⟨_, _, e⟩ := Option.map_eq_some_iff.1 e
    cases e; rfl) (fun e => by
    rw [ixB_none (Option.map_eq_none_iff.1 e)]; exact tz3) ?_
  simp -implicitDefEqProofs [hs]
  cases hq : (gotB L n).isSome with
  | true =>
    repeat' first | refine aw_N [] trivial trivial ?_ | refine aw_cond rfl (fun h => ?_) (fun h => ?_)
    exact ⟨rfl, rfl, rfl⟩
  | false =>
    have h0 : gotB L n = none := by simpa using hq
    repeat' first | refine aw_N [] trivial trivial ?_ | refine aw_cond rfl (fun h => ?_) (fun h => ?_)
    rw [h0]; exact ⟨rfl, rfl, rfl⟩
end Go.AL
/-! Contracts: branch.Table's Drop and Set. -/
namespace Go.AL
open Go.Proofs
set_option linter.unusedSimpArgs false
set_option linter.unusedVariables false
variable {P : Program} {σ : ASt} {D : List Deferred} {Q : Exit → List AV → ASt → Prop} {fr : List AV} {ops : Array Oper} {o : Oper} {rest : List Oper}
theorem tbS_upd (es es' : List (AV × AV)) : ({ tbS es with mp := upd (tbS es).mp 1 (some es') } : ASt) = tbS es' := by
  have h : upd (tbS es).mp 1 (some es') = (tbS es').mp := by
    funext i
    by_cases h : i = 1
    · subst h; simp [upd]
    · simp [upd, h]
  show ASt.mk (tbS es).bx (upd (tbS es).mp 1 (some es')) (tbS es).sl (tbS es).next = _
  rw [h]; rfl
theorem awl_tab0 {f : Operand} {aa : Array Operand} {ts : Array TypeId} (mu : List Nat) (ho : o.op = .call { callee := .value f, args := aa, argTypes := ts })
    {F : FuncId} {args : List AV} {L L' : List Br} {r : AV} (h : TC P F args (hes L) r (hes L')) (hw : awanted ops o fr = some true) {first cap : List AV} (hf : acallee (aev fr f) = some (F, first, cap)) (hc : callable P F = true) (he : first ++ aa.toList.map (aev fr) ++ cap = .ptr 0 0 :: args) (ha : ∀ a ∈ args, Cl a) (hr : Cl r)
    (hk : Shut (ARun P D ops Q mu rest (aput fr o.dst r) (tbS (hes L')))) : AWL P D ops Q (o :: rest) fr (tbS (hes L)) :=
  awl_tab mu ho hw hf hc h he ha hr (cl_hes L) (cl_hes L') (by omega) rfl rfl ⟨rfl, rfl, rfl, rfl⟩ (by rw [tbS_upd]; exact hk)
theorem isIt_hes (L : List Br) : isIt (hes L) = false := by cases L <;> rfl
def delB (L : List Br) (n : ByteArray) : List Br := match ixB L n 0 with | none => L | some j => L.eraseIdx j
def putB (L : List Br) (n : ByteArray) (h : Int) : List Br := match ixB L n 0 with | none => L ++ [(n, h)] | some j => L.set j (n, h)
theorem eraseIdx_map' {α β : Type} (f : α → β) : ∀ (l : List α) (i : Nat), (l.map f).eraseIdx i = (l.eraseIdx i).map f
  | [], _ => rfl
  | _ :: _, 0 => rfl
  | a :: l, i + 1 => by simp [eraseIdx_map' f l i]
theorem del_hes (L : List Br) (n : ByteArray) : amdel .string (.p (.string n)) (hes L) = some (hes (delB L n)) := by
  rw [amdel, find_hes, delB]
  cases hq : ixB L n 0 with
  | none => rfl
  | some j => simp [hes, eraseIdx_map']
theorem put_hes (L : List Br) (n : ByteArray) (h : Int) : amput .string (.p (.string n)) (vi h) (hes L) = some (hes (putB L n h)) := by
  rw [amput, find_hes, putB]
  cases hq : ixB L n 0 with
  | none => simp [hes]
  | some j => simp [hes, List.map_set]
theorem TC.fin {es es' : List (AV × AV)} {r r' : AV} (hr : r' = r) (he : es' = es) : r' = r ∧ (tbS es').bx 0 = some [.map 1] ∧ (tbS es').mp 1 = some es := by subst hr; subst he; exact ⟨rfl, rfl, rfl⟩
set_option maxHeartbeats 8000000 in
set_option maxRecDepth 100000 in
theorem bdrop_ok (L : List Br) (n : ByteArray) : TC Try.prog 21 [vs n] (hes L) (vi (if (gotB L n).isSome = true then 0 else 4)) (hes (delB L n)) := by
  refine tc_in Try.func21 Try.ntmps21 rfl ?_
  repeat' first | refine aw_N [] trivial trivial ?_ | refine aw_cond rfl (fun h => ?_) (fun h => ?_)
  refine awl_tab0 [] rfl (bhead_ok L n) rfl rfl rfl rfl (by simp) (by simp) ?_
  simp -implicitDefEqProofs
  cases hq : (gotB L n).isSome with
  | true =>
    repeat' first | refine aw_N [] trivial trivial ?_ | refine aw_cond rfl (fun h => ?_) (fun h => ?_)
    refine awl_mapDel [] rfl rfl tbT rfl (es := hes L) rfl (kv := .string n) rfl (del_hes L n) ?_
    rw [tbS_upd]
    simp -implicitDefEqProofs
    repeat' first | refine aw_N [] trivial trivial ?_ | refine aw_cond rfl (fun h => ?_) (fun h => ?_)
    exact TC.fin rfl rfl
  | false =>
    have h0 : delB L n = L := by
      have h1 : ixB L n 0 = none := by
        have := ixB_some L n
        rw [hq] at this
        simpa using this
      rw [delB, h1]
    rw [h0]
    repeat' first | refine aw_N [] trivial trivial ?_ | refine aw_cond rfl (fun h => ?_) (fun h => ?_)
    exact TC.fin rfl rfl
set_option maxHeartbeats 8000000 in
set_option maxRecDepth 100000 in
theorem bset_ok (L : List Br) (hL : L.length ≤ 1000000) (n : ByteArray) (hn : n.size ≤ 9223372036854775807) (h : Int) : TC Try.prog 25 [vs n, vi h] (hes L) (vi (setE L n)) (hes (if setE L n = 0 then putB L n h else L)) := by
  have hs := ixB_some L n
  have hr := bright_ok n hn
  have hLe := hes_len L
  have hI := isIt_hes L
  unfold setE
  refine tc_in Try.func25 Try.ntmps25 rfl ?_
  cases hnp : nameP n with
  | false =>
    rw [hnp] at hr
    repeat' first | refine aw_N [] trivial (And.intro @hr trivial) ?_ | refine aw_cond rfl (fun h => ?_) (fun h => ?_)
    exact TC.fin rfl rfl
  | true =>
    rw [hnp] at hr
    repeat' first | refine aw_N [] trivial (And.intro @hr trivial) ?_ | refine aw_cond rfl (fun h => ?_) (fun h => ?_)
    refine awl_lookupQ [] rfl rfl tbT rfl (es := hes L) rfl rfl (find_hes n L 0) (x := vi ((gotB L n).getD 0)) (fun j y e => by
      obtain ⟨_, _, e⟩ := Option.map_eq_some_iff.1 e
      cases e; rfl) (fun e => by
      rw [ixB_none (Option.map_eq_none_iff.1 e)]; exact tz3) ?_
    simp -implicitDefEqProofs [hs]
    cases hq : gotB L n with
    | none =>
      by_cases h16 : 16 ≤ L.length
      · have h16' : (16 : Int) ≤ (L.length : Int) := by omega
        rw [hq] at hs
        repeat' first | refine aw_N [] (And.intro @hLe (And.intro @hI (And.intro @h16 @h16'))) trivial ?_ | refine aw_cond rfl (fun h => ?_) (fun h => ?_)
        exact TC.fin rfl (by rw [if_neg (by omega)])
      · have h16' : ¬ (16 : Int) ≤ (L.length : Int) := by omega
        repeat' first | refine aw_N [] (And.intro @hLe (And.intro @hI (And.intro @h16 @h16'))) trivial ?_ | refine aw_cond rfl (fun h => ?_) (fun h => ?_)
        refine awl_mapPut [] (.inr rfl) rfl tbT rfl (es := hes L) rfl (kv := .string n) rfl (put_hes L n h) ?_
        rw [tbS_upd]
        simp -implicitDefEqProofs
        repeat' first | refine aw_N [] trivial trivial ?_ | refine aw_cond rfl (fun h => ?_) (fun h => ?_)
        exact TC.fin rfl (by rw [if_pos (by omega)])
    | some v =>
      repeat' first | refine aw_N [] (And.intro @hLe @hI) trivial ?_ | refine aw_cond rfl (fun h => ?_) (fun h => ?_)
      refine awl_mapPut [] (.inr rfl) rfl tbT rfl (es := hes L) rfl (kv := .string n) rfl (put_hes L n h) ?_
      rw [tbS_upd]
      simp -implicitDefEqProofs
      repeat' first | refine aw_N [] trivial trivial ?_ | refine aw_cond rfl (fun h => ?_) (fun h => ?_)
      exact TC.fin rfl rfl
end Go.AL
/-! slices.Sorted over a map's keys: texts. -/
namespace Go.AL
open Go.Proofs Go.Maps Go.WideElems
open Go.WideShapes (sorted_perm)
open Go.RowKit (Below)
set_option linter.unusedVariables false
set_option linter.unusedSimpArgs false
variable {P : Program} {σ : ASt}
abbrev txt (l : List UInt8) : ByteArray := ⟨l.toArray⟩
def sortS (ns : List ByteArray) : List ByteArray := ((ns.map fun s => s.data.toList).mergeSort leB).map txt
abbrev kRd : Value → Option (DataW Unit × List MemPlace) := fun _ => some (.lit (.bool true), [])
/-- The shelf's contract of slices.Sorted, over the iterator fI with a box that holds a map. -/
def SortsKeys (P : Program) (fS fI : FuncId) (kt : TypeId) : Prop :=
  ∀ (Bm b nn : Nat) (D0 : DataW Unit) (w : World), Bm < w.heap.size → w.cell? ⟨Bm, 0, none⟩ = some (.map (some b)) → w.ownsMap P kt kRd b nn D0 → Maps.size D0 ≤ maxLen → Maps.size D0 * 16 ≤ 140737488355328 →
    Calls P fS #[.func (.func fI) #[] #[.pointer (some ⟨Bm, 0, none⟩)]] w fun e w' => ∃ (v : Value) (ss : List (List UInt8)), e = .returned v ∧ ss.Perm (strKeys D0) ∧
      w'.ownsRow w.heap.size kt 1 v ss.length ((ss.mergeSort leB).map encStr) ∧ Below w.heap.size w w'
theorem owns_keys {G : Ghost} {w : World} {m μ : Nat} {kt : TypeId} (hkt : P.underlying kt = some .string) {es : List (AV × AV)} {ns : List ByteArray} (hk : es.map Prod.fst = ns.map fun s => .p (.string s)) (hnd : ns.Nodup) (hsz : ∀ s ∈ ns, s.size ≤ maxLen) (hl : ns.length ≤ maxLen) (hg : G.mp m = some μ) (h : MpOK G w m es) :
    ∃ D0, w.ownsMap P kt kRd μ ns.length D0 ∧ (strKeys D0).Perm (ns.map fun s => s.data.toList) ∧ Maps.size D0 = ns.length := by
  rcases h with ⟨μ', ents, clock, h1, h2, h3, h4, h5⟩ | ⟨μ', o, fr, h1, h2, h3, h4⟩
  · obtain rfl := Option.some.inj (hg.symm.trans h1)
    have hlen : es.length = ns.length := by have := congrArg List.length hk; simpa using this
    have hkey : ∀ (i : Nat) e, ents[i]? = some e → ∃ s, ns[i]? = some s ∧ e.key = .string s ∧ e.born < clock := fun i e he => by
      have hi : i < es.length := by have := (Array.getElem?_eq_some_iff.1 he).1; omega
      obtain ⟨⟨k, x⟩, hx⟩ : ∃ p, es[i]? = some p := ⟨_, List.getElem?_eq_getElem hi⟩
      have hk' := congrArg (·[i]?) hk
      simp only [List.getElem?_map, hx, Option.map_some] at hk'
      cases hn : ns[i]? with
      | none => rw [hn] at hk'; cases hk'
      | some s =>
        rw [hn] at hk'
        simp only [Option.map_some, Option.some.injEq] at hk'
        subst hk'
        obtain ⟨a, _, b⟩ := h4 i _ x e hx he
        generalize e.key = q at a
        cases a
        exact ⟨s, rfl, rfl, b⟩
    have hmem : ∀ e ∈ ents.toList, ∃ s, s ∈ ns ∧ e.key = .string s ∧ e.born < clock := fun e he => by
      obtain ⟨i, hi, rfl⟩ := List.getElem_of_mem he
      obtain ⟨s, a, b, c⟩ := hkey i ents.toList[i] (by simp at hi; simp [hi])
      exact ⟨s, List.mem_of_getElem? a, b, c⟩
    have hks : ents.toList.map (·.key) = ns.map Value.string := by
      refine List.ext_getElem? fun i => ?_
      simp only [List.getElem?_map, Array.getElem?_toList]
      cases he : ents[i]? with
      | none =>
        have : ns[i]? = none := by
          rw [List.getElem?_eq_none_iff]
          have := Array.getElem?_eq_none_iff.1 he
          omega
        rw [this]; rfl
      | some e =>
        obtain ⟨s, a, b, _⟩ := hkey i e he
        rw [a]; simp [b]
    have hrd : ∀ e ∈ ents.toList, rd P kt kRd e = some (.string (match e.key with | .string s => s.data.toList | _ => []), .lit (.bool true)) := fun e he => by
      obtain ⟨s, hs, e1, _⟩ := hmem e he
      have hm := hsz s hs
      simp [rd, keyOf, hkt, mapKey, e1, hm]
    have F : Fit P kt kRd ents clock := ⟨by omega, ⟨fun e he => (hmem e he).choose_spec.2.2, by
        rw [List.Nodup, List.pairwise_map]
        refine List.pairwise_iff_getElem.2 fun i j hi hj hij e => ?_
        have := h5 i j ents.toList[i] ents.toList[j] (by simp at hi; simp [hi]) (by simp at hj; simp [hj]) e
        omega, by
        rw [hks]
        exact List.Pairwise.map _ (fun a b h e => h (Value.string.inj e)) hnd⟩, fun e he => ⟨_, hrd e he⟩⟩
    refine ⟨_, ⟨ents, clock, h2, F, by omega, rfl⟩, ?_, ?_⟩
    · refine ((sorted_perm _).map _).trans ?_
      rw [List.map_map]
      have : ents.toList.map ((fun p => Go.strOf p.1) ∘ rg P kt kRd) = (ents.toList.map (·.key)).map fun v => match v with | .string s => s.data.toList | _ => [] := by
        rw [List.map_map]
        refine List.map_congr_left fun e he => ?_
        simp [rg, hrd e he, Go.strOf]
      rw [this, hks, List.map_map]
      exact List.Perm.refl _
    · rw [Maps.size_eq, (sorted_perm _).length_eq, List.length_map, Array.length_toList]
      omega
  · exfalso
    subst h4
    cases ns with
    | nil => simp [obE] at hk
    | cons s ns => simp [obE] at hk
theorem acall_sorted {fS fI : FuncId} {kt : TypeId} (hS : SortsKeys P fS fI kt) (hkt : P.underlying kt = some .string) {k m : Nat} {es : List (AV × AV)} {ns : List ByteArray} (hb : σ.bx k = some [.map m]) (hm : σ.mp m = some es) (hk : es.map Prod.fst = ns.map fun s => .p (.string s)) (hnd : ns.Nodup) (hsz : ∀ s ∈ ns, s.size ≤ maxLen) (hl : ns.length ≤ 1000000) :
    ACall P fS [.fn (.func fI) [] [.ptr k 0]] σ fun r τ => r = .vsl ((sortS ns).map fun s => .p (.string s)) ∧ τ = σ := by
  intro G w vs hv hw
  obtain ⟨hv1, hv2⟩ := hv
  obtain ⟨v0, rfl⟩ : ∃ v0, vs = #[v0] := by
    obtain ⟨l⟩ := vs
    match l, hv1 with
    | [v0], _ => exact ⟨v0, rfl⟩
  have hr := hv2 0 _ v0 rfl rfl
  obtain ⟨μ, β, arr, el, hg, hβ, harr, hcell, hlt⟩ : ∃ μ β arr el, G.mp m = some μ ∧ G.bx k = some β ∧ w.heap[β]? = some (.cells arr el (0, 0)) ∧ arr[0]? = some (.map (some μ)) ∧ β < w.heap.size := by
    obtain ⟨β, arr, el, g1, g2, g3, g4⟩ := hw.bx k _ hb
    obtain ⟨v, hv⟩ : ∃ v, arr[0]? = some v := ⟨_, Array.getElem?_eq_getElem (by rw [g3]; simp)⟩
    have := g4 0 _ v rfl hv
    generalize hq : v = q at this
    cases this with
    | map _ μ h => exact ⟨μ, β, arr, el, h, g1, g2, by rw [hv, hq], (Array.getElem?_eq_some_iff.1 g2).1⟩
  obtain rfl : v0 = .func (.func fI) #[] #[.pointer (some ⟨β, 0, none⟩)] := by
    cases hr with
    | fn f aa bs us vs h1 h2 h3 h4 =>
      obtain rfl : us = #[] := Array.eq_empty_of_size_eq_zero h1.symm
      obtain ⟨x, rfl⟩ : ∃ x, vs = #[x] := by
        obtain ⟨l⟩ := vs
        match l, h2 with
        | [v0], _ => exact ⟨v0, rfl⟩
      have hx := h4 0 _ x rfl rfl
      cases hx with
      | ptr _ _ β' h =>
        obtain rfl := Option.some.inj (h.symm.trans hβ)
        rfl
  obtain ⟨D0, hown, hperm, hsize⟩ := owns_keys (P := P) (kt := kt) hkt hk hnd hsz (by unfold maxLen; omega) hg (hw.mp m es hm)
  refine Calls.mono (hS β μ _ D0 w hlt (by simp [World.cell?, harr, hcell]) hown (by rw [hsize]; unfold maxLen; omega) (by rw [hsize]; omega)) fun e w' he => ?_
  obtain ⟨v, ss, rfl, hp, hrow, hbl⟩ := he
  have hpp := hp.trans hperm
  have hsort : ss.mergeSort leB = (ns.map fun s => s.data.toList).mergeSort leB := mergeSort_of_perm hpp
  have hav : (sortS ns).map (fun s => (.p (.string s) : AV)) = (ss.mergeSort leB).map fun l => .p (encStr l) := by
    rw [sortS, ← hsort, List.map_map]; rfl
  rw [hav]
  generalize hM : ss.mergeSort leB = M at *
  have hlenM : M.length = ss.length := by rw [← hM]; exact List.length_mergeSort _
  obtain ⟨_, hrow⟩ := hrow
  rcases hrow with ⟨rfl, h0⟩ | ⟨g, cap, cur, rfl, hge, hheap, hn, hcap, hcs, htake⟩
  · obtain rfl : M = [] := List.eq_nil_of_length_eq_zero (by omega)
    exact ⟨_, G, σ, Le.grow hw hbl, hw.grow hbl, .vnil _ _, rfl, rfl⟩
  · have hl := Le.addSt hw hbl (fun β _ => β = g) fun β o e => by subst e; exact hge
    have hglt : g < w'.heap.size := (Array.getElem?_eq_some_iff.1 hheap).1
    refine ⟨_, G.addSt fun β _ => β = g, σ, hl, hw.addSt hbl _ (fun β o e => by subst e; exact ⟨hge, hglt⟩), ?_, rfl, rfl⟩
    have hcell : ∀ (i j : Nat) c, rowCell (M.map fun l => (.p (encStr l) : AV)) i j = some c → ∃ l, j = 0 ∧ M[i]? = some l ∧ c = .p (encStr l) ∧ cur[i]? = some (encStr l) := fun i j c h => by
      unfold rowCell at h
      rw [List.getElem?_map] at h
      cases hq : M[i]? with
      | none => rw [hq] at h; cases h
      | some l =>
        rw [hq] at h
        match j, h with
        | 0, h =>
          refine ⟨l, rfl, rfl, by simpa [AV.cells] using h.symm, ?_⟩
          have := congrArg (·[i]?) htake
          have hi : i < ss.length := by have := (List.getElem?_eq_some_iff.1 hq).1; omega
          simp only [Nat.mul_one, List.getElem?_take, hi, if_true, Array.getElem?_toList, List.getElem?_map, hq, Option.map_some] at this
          exact this
        | j + 1, h => simp [AV.cells] at h
    rw [← hlenM]
    have := Rep.vsl (G := G.addSt fun β _ => β = g) (w := w') (M.map fun l => (.p (encStr l) : AV)) g 0 1 cap (fun i _ => (cur[i]?).getD default) (by simp; omega) (fun i x hx => by
      rw [List.getElem?_map] at hx
      obtain ⟨l, _, rfl⟩ := Option.map_eq_some_iff.1 hx
      rfl) (fun i j c h => by
      obtain ⟨l, rfl, h1, rfl, h2⟩ := hcell i j c h
      refine ⟨.inr rfl, ?_⟩
      simp [World.cell?, hheap, h2]) (fun i j c h => by
      obtain ⟨l, rfl, h1, rfl, h2⟩ := hcell i j c h
      rw [h2]; exact .p _)
    simpa using this
end Go.AL
/-! Contracts: branch.Table's Names and Heads. -/
namespace Go.AL
open Go.Proofs
set_option linter.unusedSimpArgs false
set_option linter.unusedVariables false
set_option maxHeartbeats 8000000 in
set_option maxRecDepth 100000 in
theorem bkeys_ok (m : Nat) (σ : ASt) : ACall Try.prog 50 [.map m] σ fun r τ => r = .fn (.func 74) [] [.ptr σ.next 0] ∧ τ = σ.addBx [.map m] := by
  refine acall_of Try.func50 Try.ntmps50 rfl ?_
  simp only [List.length_cons, List.length_nil, List.cons_append, List.nil_append, List.replicate]
  repeat' first | refine aw_N [1] trivial trivial ?_ | refine aw_cond rfl (fun h => ?_) (fun h => ?_)
  exact ⟨rfl, rfl⟩
theorem names_hes (L : List Br) : (hes L).map Prod.fst = (L.map Prod.fst).map fun s => .p (.string s) := by
  simp [hes]
set_option maxHeartbeats 8000000 in
set_option maxRecDepth 100000 in
theorem bnames_ok (hS : SortsKeys Try.prog 49 74 9) (L : List Br) (hnd : (L.map Prod.fst).Nodup) (hsz : ∀ s ∈ L.map Prod.fst, s.size ≤ 9223372036854775807) (hL : L.length ≤ 1000000) :
    TC Try.prog 30 [] (hes L) (.vsl ((sortS (L.map Prod.fst)).map vs)) (hes L) := by
  refine tc_in Try.func30 Try.ntmps30 rfl ?_
  repeat' first | refine aw_N [] trivial trivial ?_ | refine aw_cond rfl (fun h => ?_) (fun h => ?_)
  refine awl_cons rfl (opq_call rfl rfl rfl ((bkeys_ok 1 _).mono fun r τ ⟨e1, e2⟩ => ?_))
  subst e1 e2
  simp -implicitDefEqProofs only [aput, List.set]
  refine awl_cons rfl (opq_call rfl rfl rfl ((acall_sorted hS Try.underlying9 (k := 2) (m := 1) (es := hes L) (ns := L.map Prod.fst) rfl rfl (names_hes L) hnd hsz (by simpa using hL)).mono fun r τ ⟨e1, e2⟩ => ?_))
  subst e1 e2
  refine awl_run' [] ?_
  simp -implicitDefEqProofs
  repeat' first | refine aw_N [] trivial trivial ?_ | refine aw_cond rfl (fun h => ?_) (fun h => ?_)
  exact ⟨rfl, rfl, rfl⟩
end Go.AL
