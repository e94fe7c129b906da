/- Parts of the proof of ArenaPlays: the logic, contracts, plain laws. -/
import Derived.Test.YtofopejmidlceaaDoorZArenaPlays19
/-! The document's arena against the program's: wrong, Get, Live. -/
namespace Go.AL
open Go.Proofs
set_option linter.unusedSimpArgs false
set_option linter.unusedVariables false
@[simp] theorem cl_rcV' (size : Int) (nds : List Nd) (is : List Bool) : Cl (rcV size nds is) = True := eq_true (cl_rcV size nds is)
/-- The document's lists say what the program's map says. -/
structure Rel (M : Nods) (nds : List Nd) (is : List Bool) : Prop where
  len : nds.length = is.length
  pos : 1 ≤ is.length
  at_ : ∀ h : Nat, 1 ≤ h → gotK M h = if is[h]? = some true then nds[h]? else none
theorem Rel.got {M : Nods} {nds : List Nd} {is : List Bool} (hR : Rel M nds is) {h : Nat} (h1 : 1 ≤ h) (hi : is[h]? = some true) : ∃ x, nds[h]? = some x ∧ gotK M h = some x := by
  have h2 := (List.getElem?_eq_some_iff.1 hi).1
  have h3 := hR.len
  refine ⟨_, List.getElem?_eq_getElem (by omega), ?_⟩
  rw [hR.at_ h h1, if_pos hi, List.getElem?_eq_getElem (by omega)]
theorem Rel.has {M : Nods} {N : Nms} {c : Int} {nds : List Nd} {is : List Bool} (hA : AI M N c) (hR : Rel M nds is) (h : Int) : hasR is h = (gotK M h).isSome := by
  unfold hasR
  by_cases h1 : 1 ≤ h
  · obtain ⟨n, rfl⟩ : ∃ n : Nat, h = n := ⟨h.toNat, by omega⟩
    rw [hR.at_ n (by omega)]
    have hl := hR.len
    by_cases h2 : n < is.length
    · have hb : is[n]? = some is[n] := List.getElem?_eq_getElem h2
      have h3 : nds[n]? = some nds[n] := List.getElem?_eq_getElem (by omega)
      obtain ⟨b, hb1⟩ : ∃ b, is[n] = b := ⟨_, rfl⟩
      rw [hb1] at hb
      rw [hb, h3]
      cases b <;> simp [h1, h2, hb1]
    · have hb : is[n]? = none := List.getElem?_eq_none (by omega)
      simp [hb]
  · have : gotK M h = none := by
      cases hq : gotK M h with
      | none => rfl
      | some x => have := (hA.pos h x hq).1; omega
    simp [h1, this]
/-- The document's word for a Ref that is none. -/
def badD (is : List Bool) (k x : Int) : Bool := decide (0 < x) && !hasR is x || decide (x < -k)
def badDL (is : List Bool) : List Nd → Nat → Bool
  | [], _ => false
  | x :: l, i => x.refs.any (badD is i) || badDL is l (i + 1)
theorem badDL_eq {M : Nods} {N : Nms} {c : Int} {nds : List Nd} {is : List Bool} (hA : AI M N c) (hR : Rel M nds is) : ∀ (l : List Nd) (i : Nat), badDL is l i = badL M l i
  | [], _ => rfl
  | x :: l, i => by
    rw [badDL, badL, badDL_eq hA hR l (i + 1)]
    congr 1
    congr 1
    funext r
    rw [badD, badR, hR.has hA]
def WrI (size : Int) (nds : List Nd) (is : List Bool) (l : List Nd) (W : Bool) (q : Nat) (fr : List AV) (σ : ASt) : Prop := ∃ i M : Nat, i + q = l.length ∧ badDL is (l.drop i) i = W ∧ σ = mkSt [] [] M ∧ fr = frm 48 [(0, rcV size nds is), (1, .vsl (l.map ndA)), (4, vb false), (5, vi (i : Nat))]
def WrJ (size : Int) (nds : List Nd) (is : List Bool) (l : List Nd) (W : Bool) (i : Nat) (x : Nd) (q : Nat) (fr : List AV) (σ : ASt) : Prop := ∃ j M : Nat, j + q = x.refs.length ∧ ((x.refs.drop j).any (badD is i) || badDL is (l.drop (i + 1)) (i + 1)) = W ∧ σ = mkSt [] [] M ∧ fr = frm 48 [(0, rcV size nds is), (1, .vsl (l.map ndA)), (4, vb false), (5, vi (i : Nat)), (6, vi (j : Nat))]
set_option maxHeartbeats 8000000 in
set_option maxRecDepth 100000 in
theorem rwrong_ok (size : Int) (nds : List Nd) (is : List Bool) (l : List Nd) (hl : l.length ≤ 1000000) (hx : ∀ x ∈ l, NdOk x) : APure Tryd.prog 37 [rcV size nds is, .vsl (l.map ndA)] (vb (badDL is l 0)) := by
  have hlv : (l.map ndA).length = l.length := List.length_map _
  obtain ⟨W, hW⟩ : ∃ W, badDL is l 0 = W := ⟨_, rfl⟩
  rw [hW]
  refine apure_in Tryd.func37 Tryd.ntmps37 rfl ?_
  repeat' first | refine aw_N [] trivial trivial ?_ | refine aw_cond rfl (fun h => ?_) (fun h => ?_)
  refine aw_loopW [0, 1, 4, 5] (fun q fr σ => WrI size nds is l W q fr σ) l.length ?_ ?_
  · exact ⟨mkSt [] [] 0, le_mkSt (by simp) (by simp) (by simp [σ0]), 0, 0, by omega, hW, rfl, by simp⟩
  · rintro q fr σ ⟨i, m, hi, hw, rfl, rfl⟩
    simp -implicitDefEqProofs
    by_cases hlt : i < l.length
    · have hlti : (i : Int) < l.length := by omega
      obtain ⟨x, hx1⟩ : ∃ x, l[i] = x := ⟨_, rfl⟩
      have hxg : l[i]? = some x := by rw [List.getElem?_eq_getElem hlt, hx1]
      have hxo := hx x (List.mem_of_getElem? hxg)
      have hrl := hxo.rl
      have wi : IntKind.i64.wrap ((i : Int) + 1) = (i : Int) + 1 := wrap_id (by omega) (by omega)
      have wn : IntKind.i64.wrap (-(i : Int)) = -(i : Int) := wrap_id (by omega) (by omega)
      have hnd : ndA x = .agg [vi x.k, .vsl (x.refs.map vi), .vsl (x.nums.map vi), vs x.text] := rfl
      rw [List.drop_eq_getElem_cons hlt, hx1, badDL] at hw
      repeat' first | refine aw_N [] (And.intro @hlt (And.intro @hlti @hlv)) trivial ?_ | refine aw_cond rfl (fun h => ?_) (fun h => ?_)
      refine aw_loopW [0, 1, 4, 5, 6] (fun q fr σ => WrJ size nds is l W i x q fr σ) x.refs.length ?_ ?_
      · exact ⟨mkSt [] [] m, le_mkSt (by simp) (by simp) (by simp), 0, m, by omega, hw, rfl, by simp⟩
      · clear hw
        rintro q2 fr σ ⟨j, m, hj, hw, rfl, rfl⟩
        simp -implicitDefEqProofs
        have hrv : (x.refs.map vi).length = x.refs.length := List.length_map _
        by_cases hlt2 : j < x.refs.length
        · have hlti2 : (j : Int) < x.refs.length := by omega
          obtain ⟨r, hr1⟩ : ∃ r, x.refs[j] = r := ⟨_, rfl⟩
          have hrg : x.refs[j]? = some r := by rw [List.getElem?_eq_getElem hlt2, hr1]
          have wj : IntKind.i64.wrap ((j : Int) + 1) = (j : Int) + 1 := wrap_id (by omega) (by omega)
          rw [List.drop_eq_getElem_cons hlt2, hr1, List.any_cons] at hw
          have hh := rhas09_ok size nds is r
          obtain ⟨H, hH⟩ : ∃ H, hasR is r = H := ⟨_, rfl⟩
          rw [hH] at hh
          have hbd : badD is i r = (decide (0 < r) && !H || decide (r < -(i : Int))) := by rw [badD, hH]
          rw [hbd] at hw
          by_cases h0 : 0 < r
          · cases H with
            | true =>
              by_cases hni : r < -(i : Int)
              · omega
              · repeat' first | refine aw_N [] (And.intro @hlt (And.intro @hlti (And.intro @hx1 (And.intro @hxg (And.intro @hlv (And.intro @hnd (And.intro @hlt2 (And.intro @hlti2 (And.intro @hr1 (And.intro @hrg (And.intro @hrv (And.intro @h0 (And.intro @wn (And.intro @hni @wj)))))))))))))) (And.intro @hh trivial) ?_ | refine aw_cond rfl (fun h => ?_) (fun h => ?_)
                simp [h0, hni] at hw
                exact ⟨q2 - 1, by omega, mkSt [] [] m, le_mkSt (by simp) (by simp) (by simp), j + 1, m, by omega, by simpa using hw, rfl, by simp⟩
            | false =>
              repeat' first | refine aw_N [] (And.intro @hlt (And.intro @hlti (And.intro @hx1 (And.intro @hxg (And.intro @hlv (And.intro @hnd (And.intro @hlt2 (And.intro @hlti2 (And.intro @hr1 (And.intro @hrg (And.intro @hrv (And.intro @h0 @wn)))))))))))) (And.intro @hh trivial) ?_ | refine aw_cond rfl (fun h => ?_) (fun h => ?_)
              simp [h0] at hw
              rw [← hw]
              all_goals first | rfl | (simp [tupOf]; done) | trace_state
          · by_cases hni : r < -(i : Int)
            · repeat' first | refine aw_N [] (And.intro @hlt (And.intro @hlti (And.intro @hx1 (And.intro @hxg (And.intro @hlv (And.intro @hnd (And.intro @hlt2 (And.intro @hlti2 (And.intro @hr1 (And.intro @hrg (And.intro @hrv (And.intro @h0 (And.intro @wn @hni))))))))))))) (And.intro @hh trivial) ?_ | refine aw_cond rfl (fun h => ?_) (fun h => ?_)
              simp [h0, hni] at hw
              rw [← hw]
              all_goals first | rfl | (simp [tupOf]; done) | trace_state
            · repeat' first | refine aw_N [] (And.intro @hlt (And.intro @hlti (And.intro @hx1 (And.intro @hxg (And.intro @hlv (And.intro @hnd (And.intro @hlt2 (And.intro @hlti2 (And.intro @hr1 (And.intro @hrg (And.intro @hrv (And.intro @h0 (And.intro @wn (And.intro @hni @wj)))))))))))))) (And.intro @hh trivial) ?_ | refine aw_cond rfl (fun h => ?_) (fun h => ?_)
              simp [h0, hni] at hw
              exact ⟨q2 - 1, by omega, mkSt [] [] m, le_mkSt (by simp) (by simp) (by simp), j + 1, m, by omega, by simpa using hw, rfl, by simp⟩
        · have hlti2 : ¬ (j : Int) < x.refs.length := by omega
          repeat' first | refine aw_N [] (And.intro @hlt (And.intro @hlti (And.intro @hx1 (And.intro @hxg (And.intro @hlv (And.intro @hnd (And.intro @hlti2 (And.intro @hrv @wi)))))))) trivial ?_ | refine aw_cond rfl (fun h => ?_) (fun h => ?_)
          rw [List.drop_eq_nil_of_le (by omega), List.any_nil, Bool.false_or] at hw
          exact ⟨q - 1, by omega, mkSt [] [] m, le_mkSt (by simp) (by simp) (by simp), i + 1, m, by omega, hw, rfl, by simp⟩
    · have hlti : ¬ (i : Int) < l.length := by omega
      rw [List.drop_eq_nil_of_le (by omega), badDL] at hw
      rw [← hw]
      repeat' first | refine aw_N [] (And.intro @hlti @hlv) trivial ?_ | refine aw_cond rfl (fun h => ?_) (fun h => ?_)
      all_goals first | rfl | (simp [tupOf]; done) | trace_state
set_option maxHeartbeats 8000000 in
set_option maxRecDepth 100000 in
theorem rget_ok {M : Nods} {N : Nms} {c : Int} {nds : List Nd} {is : List Bool} (hA : AI M N c) (hR : Rel M nds is) (size : Int) (h : Int) (x : Nd) (hg : gotK M h = some x) (k1 k2 m : Nat) (hn : RcN k1 k2 m [] []) :
    ACall Tryd.prog 16 [.ptr 0 0, vi h] (rcS size nds is k1 k2 [] [] m) fun r τ => r = .tup [ndA x, vi 0] ∧ ∃ m', m ≤ m' ∧ (rcS size nds is k1 k2 [] [] m').Le τ := by
  have hnk : ¬ k2 = k1 := fun e => hn.n e.symm
  have h1 := (hA.pos h x hg).1
  obtain ⟨n, rfl⟩ : ∃ n : Nat, h = n := ⟨h.toNat, by omega⟩
  have hat := hR.at_ n (by omega)
  rw [hg] at hat
  have hin : is[n]? = some true := by
    by_cases e : is[n]? = some true
    · exact e
    · rw [if_neg e] at hat; cases hat
  rw [if_pos hin] at hat
  have hlt := (List.getElem?_eq_some_iff.1 hat.symm).1
  have hx1 : nds[n] = x := by rw [List.getElem?_eq_getElem hlt] at hat; exact (Option.some.inj hat).symm
  have hlti : (n : Int) < nds.length := by omega
  have hnv : (nds.map ndA).length = nds.length := List.length_map _
  have hnd : ndA x = .agg [vi x.k, .vsl (x.refs.map vi), .vsl (x.nums.map vi), vs x.text] := rfl
  have hh := rhas09_ok size nds is n
  rw [hR.has hA, hg] at hh
  refine acall_of Tryd.func16 Tryd.ntmps16 rfl ?_
  simp only [List.length_cons, List.length_nil, List.cons_append, List.nil_append, List.replicate]
  have m0 : ¬ m = 0 := by have := hn.l1; omega
  have m0' : ¬ 0 = m := by omega
  repeat' first | refine aw_N [4] trivial trivial ?_ | refine aw_cond rfl (fun h => ?_) (fun h => ?_)
  have hn' : RcN k1 k2 (m + 1) [(m, [vi 0, .p (.slice none 0 0), .p (.slice none 0 0), vs ⟨#[]⟩])] [] := ⟨by have := hn.l1; omega, by have := hn.l2; omega, hn.n, by simp, by simp, by simp; omega, by simp⟩
  refine AWL.less (τ := rcS size nds is k1 k2 [(m, [vi 0, .p (.slice none 0 0), .p (.slice none 0 0), vs ⟨#[]⟩])] [] (m + 1)) (le_rcS (by simp [upd, m0']) (by simp) (by simp [hnk]) (by simp) (by simp [upd]) (by simp)) ?_
  refine awl_lendD 2 [4] rfl rfl rfl (by kernel_rfl) (args := [.ptr 0 0, vi n]) rfl (args' := [rcV size nds is, vi n]) (by
    simp only [List.map_cons, List.map_nil]
    rw [cloD_rc hn']
    simp [cloD]) hh (by simp) (by simp) ?_
  simp -implicitDefEqProofs
  repeat' first | refine aw_N [4] (And.intro @hx1 (And.intro @hlt (And.intro @hlti (And.intro @hnv (And.intro @hnd (And.intro @m0 @m0')))))) trivial ?_ | refine aw_cond rfl (fun h => ?_) (fun h => ?_)
  exact ⟨by simp [tupOf], m + 1, by omega, le_rcS (by simp [upd, m0']) (by simp) (by simp [hnk]) (by simp) (by simp) (by simp)⟩
set_option maxHeartbeats 8000000 in
set_option maxRecDepth 100000 in
theorem rgetE_ok {M : Nods} {N : Nms} {c : Int} {nds : List Nd} {is : List Bool} (hA : AI M N c) (hR : Rel M nds is) (size : Int) (h : Int) (hg : gotK M h = none) (k1 k2 m : Nat) (hn : RcN k1 k2 m [] []) :
    ACall Tryd.prog 16 [.ptr 0 0, vi h] (rcS size nds is k1 k2 [] [] m) fun r τ => r = .tup [nd0, vi 4] ∧ ∃ m', m ≤ m' ∧ (rcS size nds is k1 k2 [] [] m').Le τ := by
  have hnk : ¬ k2 = k1 := fun e => hn.n e.symm
  have hh := rhas09_ok size nds is h
  rw [hR.has hA, hg] at hh
  refine acall_of Tryd.func16 Tryd.ntmps16 rfl ?_
  simp only [List.length_cons, List.length_nil, List.cons_append, List.nil_append, List.replicate]
  have m0 : ¬ m = 0 := by have := hn.l1; omega
  have m0' : ¬ 0 = m := by omega
  repeat' first | refine aw_N [4] trivial trivial ?_ | refine aw_cond rfl (fun h => ?_) (fun h => ?_)
  have hn' : RcN k1 k2 (m + 1) [(m, [vi 0, .p (.slice none 0 0), .p (.slice none 0 0), vs ⟨#[]⟩])] [] := ⟨by have := hn.l1; omega, by have := hn.l2; omega, hn.n, by simp, by simp, by simp; omega, by simp⟩
  refine AWL.less (τ := rcS size nds is k1 k2 [(m, [vi 0, .p (.slice none 0 0), .p (.slice none 0 0), vs ⟨#[]⟩])] [] (m + 1)) (le_rcS (by simp [upd, m0']) (by simp) (by simp [hnk]) (by simp) (by simp [upd]) (by simp)) ?_
  refine awl_lendD 2 [4] rfl rfl rfl (by kernel_rfl) (args := [.ptr 0 0, vi h]) rfl (args' := [rcV size nds is, vi h]) (by
    simp only [List.map_cons, List.map_nil]
    rw [cloD_rc hn']
    simp [cloD]) hh (by simp) (by simp) ?_
  simp -implicitDefEqProofs
  repeat' first | refine aw_N [4] (And.intro @m0 @m0') trivial ?_ | refine aw_cond rfl (fun h => ?_) (fun h => ?_)
  exact ⟨by simp [tupOf, nd0], m + 1, by omega, le_rcS (by simp [upd, m0']) (by simp) (by simp [hnk]) (by simp) (by simp) (by simp)⟩
/-- The handles of marks. -/
def liveR : List Bool → Nat → List Int
  | [], _ => []
  | b :: l, i => if b = true then (i : Int) :: liveR l (i + 1) else liveR l (i + 1)
theorem liveR_mem : ∀ (l : List Bool) (i : Nat) (x : Int), x ∈ liveR l i ↔ ∃ j : Nat, l[j]? = some true ∧ x = (i + j : Nat)
  | [], i, x => by simp [liveR]
  | b :: l, i, x => by
    have ih := liveR_mem l (i + 1) x
    have key : (∃ j : Nat, (b :: l)[j]? = some true ∧ x = ((i + j : Nat) : Int)) ↔ (b = true ∧ x = (i : Int)) ∨ ∃ j : Nat, l[j]? = some true ∧ x = ((i + 1 + j : Nat) : Int) := by
      constructor
      · rintro ⟨j, h1, h2⟩
        cases j with
        | zero => simp at h1; exact .inl ⟨h1, by simpa using h2⟩
        | succ j => exact .inr ⟨j, by simpa using h1, by rw [h2]; congr 1; omega⟩
      · rintro (⟨h1, h2⟩ | ⟨j, h1, h2⟩)
        · exact ⟨0, by simp [h1], by simpa using h2⟩
        · exact ⟨j + 1, by simpa using h1, by rw [h2]; congr 1; omega⟩
    rw [key, liveR]
    cases b <;> simp [ih]
theorem liveR_lt : ∀ (l : List Bool) (i : Nat), (liveR l i).Pairwise (· < ·)
  | [], i => by simp [liveR]
  | b :: l, i => by
    have ih := liveR_lt l (i + 1)
    rw [liveR]
    split
    · refine List.pairwise_cons.2 ⟨fun x hx => ?_, ih⟩
      obtain ⟨j, _, rfl⟩ := (liveR_mem l (i + 1) x).1 hx
      omega
    · exact ih
theorem Rel.live {M : Nods} {N : Nms} {c : Int} {nds : List Nd} {is : List Bool} (hA : AI M N c) (hR : Rel M nds is) : liveR (is.drop 1) 1 = livL M := by
  refine rise_ext (liveR_lt _ _) (livL_lt hA.ndM) fun x => ?_
  rw [liveR_mem, mem_livL]
  constructor
  · rintro ⟨j, h1, rfl⟩
    rw [List.getElem?_drop] at h1
    obtain ⟨y, _, h2⟩ := hR.got (by omega) h1
    rw [h2]; rfl
  · intro h
    have h1 : 1 ≤ x := by
      cases hq : gotK M x with
      | none => rw [hq] at h; cases h
      | some y => exact (hA.pos x y hq).1
    obtain ⟨n, rfl⟩ : ∃ n : Nat, x = n := ⟨x.toNat, by omega⟩
    rw [hR.at_ n (by omega)] at h
    refine ⟨n - 1, ?_, by congr 1; omega⟩
    rw [List.getElem?_drop, show 1 + (n - 1) = n by omega]
    by_cases e : is[n]? = some true
    · exact e
    · rw [if_neg e] at h; cases h
def RlI (size : Int) (nds : List Nd) (is : List Bool) (k1 k2 m : Nat) (q : Nat) (fr : List AV) (σ : ASt) : Prop := ∃ (i ko T : Nat) (us : List Int), 1 ≤ i ∧ i + q = is.length ∧ us ++ liveR (is.drop i) i = liveR (is.drop 1) 1 ∧ m ≤ ko ∧ ko < T ∧ us.length ≤ i ∧ σ = rcS size nds is k1 k2 [] [(ko, us.map vi)] T ∧ fr = frm 26 [(0, .ptr 0 0), (3, .hsl ko 0 us.length), (4, vi (i : Nat))]
set_option maxHeartbeats 8000000 in
set_option maxRecDepth 100000 in
theorem rlive_ok (size : Int) (nds : List Nd) (is : List Bool) (hl : nds.length = is.length) (h0 : 1 ≤ is.length) (hlb : is.length ≤ 1000000) (k1 k2 m : Nat) (hn : RcN k1 k2 m [] []) :
    ACall Tryd.prog 12 [.ptr 0 0] (rcS size nds is k1 k2 [] [] m) fun r τ => r = .vsl ((liveR (is.drop 1) 1).map vi) ∧ ∃ m', m ≤ m' ∧ (rcS size nds is k1 k2 [] [] m').Le τ := by
  have hnk : ¬ k2 = k1 := fun e => hn.n e.symm
  have a1 := hn.l1
  have a2 := hn.l2
  have hv2 : (is.map fun b => (vb b : AV)).length = is.length := List.length_map _
  refine acall_of Tryd.func12 Tryd.ntmps12 rfl ?_
  simp only [List.length_cons, List.length_nil, List.cons_append, List.nil_append, List.replicate]
  repeat' first | refine aw_N [] trivial trivial ?_ | refine aw_cond rfl (fun h => ?_) (fun h => ?_)
  refine aw_nilH (i := 3) rfl ?_
  simp -implicitDefEqProofs only [List.set]
  refine aw_loopW [0, 3, 4] (fun q fr σ => RlI size nds is k1 k2 m q fr σ) (is.length - 1) ?_ ?_
  · exact ⟨rcS size nds is k1 k2 [] [(m, [])] (m + 1), le_rcS (by simp [ASt.addSl]) (by simp [ASt.addSl, upd, show ¬ k1 = m by omega]) (by simp [ASt.addSl, upd, hnk, show ¬ k2 = m by omega]) (by simp [ASt.addSl]) (by simp) (by simp [ASt.addSl]), 1, m, m + 1, [], by omega, by omega, by simp, by omega, by omega, by simp, by simp, by simp⟩
  · rintro q fr σ ⟨i, ko, T, us, hi1, hi, hu, hk, hkT, hul, rfl, rfl⟩
    simp -implicitDefEqProofs
    have e1 : ¬ ko = k1 := by omega
    have e2 : ¬ ko = k2 := by omega
    by_cases hlt : i < is.length
    · have hlti : (i : Int) < is.length := by omega
      obtain ⟨b, hb⟩ : ∃ b, is[i] = b := ⟨_, rfl⟩
      have hbg : is[i]? = some b := by rw [List.getElem?_eq_getElem hlt, hb]
      have wi : IntKind.i64.wrap ((i : Int) + 1) = (i : Int) + 1 := wrap_id (by omega) (by omega)
      rw [List.drop_eq_getElem_cons hlt, hb, liveR] at hu
      cases b with
      | true =>
        rw [if_pos rfl] at hu
        repeat' first | refine aw_N [] (And.intro @hlt (And.intro @hlti (And.intro @hb (And.intro @hbg (And.intro @hv2 @hnk))))) trivial ?_ | refine aw_cond rfl (fun h => ?_) (fun h => ?_)
        refine awl_append [] rfl rfl rfl (b := ko) (xs := us.map vi) (by simp [e1, e2]) (by simp) rfl (by simp) te33 tet33 tz3 rfl (fun y hy => by obtain ⟨_, _, rfl⟩ := List.mem_map.1 hy; rfl) (by simp) (by simp; omega) (by simp; omega) ?_
        simp -implicitDefEqProofs
        repeat' first | refine aw_N [] @wi trivial ?_ | refine aw_cond rfl (fun h => ?_) (fun h => ?_)
        exact ⟨q - 1, by omega, rcS size nds is k1 k2 [] [(T, (us ++ [(i : Int)]).map vi)] (T + 1), le_rcS (by simp [ASt.addSl, ASt.dropSl]) (by simp [ASt.addSl, ASt.dropSl, upd, show ¬ k1 = T by omega, Ne.symm e1]) (by simp [ASt.addSl, ASt.dropSl, upd, hnk, show ¬ k2 = T by omega, Ne.symm e2]) (by simp [ASt.addSl, ASt.dropSl, upd, List.take_of_length_le]) (by simp) (by simp [ASt.addSl]), i + 1, T, T + 1, us ++ [(i : Int)], by omega, by omega, by simpa using hu, by omega, by omega, by simp; omega, rfl, by simp⟩
      | false =>
        rw [if_neg (by simp)] at hu
        repeat' first | refine aw_N [] (And.intro @hlt (And.intro @hlti (And.intro @hb (And.intro @hbg (And.intro @hv2 (And.intro @hnk @wi)))))) trivial ?_ | refine aw_cond rfl (fun h => ?_) (fun h => ?_)
        exact ⟨q - 1, by omega, _, le_same _, i + 1, ko, T, us, by omega, by omega, hu, hk, hkT, by omega, rfl, by simp⟩
    · have hlti : ¬ (i : Int) < is.length := by omega
      rw [List.drop_eq_nil_of_le (by omega), liveR, List.append_nil] at hu
      refine aw_freeze (b := ko) (xs := us.map vi) (by simp [e1, e2]) ?_
      simp -implicitDefEqProofs [frz, frz1, frz0, List.take_of_length_le]
      repeat' first | refine aw_N [] @hlti trivial ?_ | refine aw_cond rfl (fun h => ?_) (fun h => ?_)
      have hu' : us = liveR is.tail 1 := by simpa using hu
      exact ⟨by rw [← hu']; simp [tupOf], T, by omega, le_rcS (by simp) (by simp [upd, Ne.symm e1]) (by simp [upd, hnk, Ne.symm e2]) (by simp) (by simp) (by simp)⟩
end Go.AL
/-! The document's arena: Put. -/
namespace Go.AL
open Go.Proofs
set_option linter.unusedSimpArgs false
set_option linter.unusedVariables false
/-- The document's arena, and the handles of those ahead. -/
structure RS where
  nds : List Nd
  is : List Bool
  out : List Int
/-- One put; none: there is no room. -/
def RS.one (size : Int) (s : RS) (x : Nd) : Option RS :=
  if findR (resN s.out x) (s.nds.drop 1) (s.is.drop 1) 1 = 0 then
    match freeR (s.is.drop 1) 1 with
    | some h => some ⟨s.nds.set h (resN s.out x), s.is.set h true, s.out ++ [(h : Int)]⟩
    | none => if size < (s.is.length : Int) then none else some ⟨s.nds ++ [resN s.out x], s.is ++ [true], s.out ++ [(s.is.length : Int)]⟩
  else some { s with out := s.out ++ [findR (resN s.out x) (s.nds.drop 1) (s.is.drop 1) 1] }
theorem freeR_lt : ∀ (l : List Bool) (i h : Nat), freeR l i = some h → i ≤ h ∧ h < i + l.length ∧ l[h - i]? = some false
  | [], i, h, e => by cases e
  | b :: l, i, h, e => by
    rw [freeR] at e
    split at e
    · obtain ⟨h1, h2, h3⟩ := freeR_lt l (i + 1) h e
      refine ⟨by omega, by simp; omega, ?_⟩
      rw [show h - i = (h - (i + 1)) + 1 by omega, List.getElem?_cons_succ]; exact h3
    · rename_i hb
      cases e
      refine ⟨by omega, by simp, ?_⟩
      simp at hb
      simp [hb]
theorem findR_nn (x : Nd) : ∀ (nds : List Nd) (is : List Bool) (i : Nat), findR x nds is i = 0 ∨ ∃ h : Nat, i ≤ h ∧ h < i + is.length ∧ findR x nds is i = (h : Int)
  | [], is, i => .inl (by simp [findR])
  | y :: nds, [], i => .inl (by simp [findR])
  | y :: nds, b :: is, i => by
    rw [findR]
    split
    · exact .inr ⟨i, Nat.le_refl _, by simp, rfl⟩
    · rcases findR_nn x nds is (i + 1) with h | ⟨h, h1, h2, h3⟩
      · exact .inl h
      · exact .inr ⟨h, by omega, by simp; omega, h3⟩
/-- As it may be, behind n. -/
structure RSOk (n : Nat) (s : RS) : Prop where
  len : s.nds.length = s.is.length
  pos : 1 ≤ s.is.length
  lb : s.is.length ≤ 70000 + s.out.length
  nd : ∀ y ∈ s.nds, NdL y
  hs : ∀ h ∈ s.out, 0 ≤ h ∧ h ≤ 100000
  ol : s.out.length = n
theorem RSOk.one {n : Nat} {size : Int} {s s' : RS} {x : Nd} (h : RSOk n s) (hn : n ≤ 10000) (hx : NdOk x) (e : s.one size x = some s') : RSOk (n + 1) s' := by
  have h1 := h.len
  have h2 := h.pos
  have h3 := h.lb
  have h4 := h.ol
  have hy : NdL (resN s.out x) := ⟨by have := hx.rl; simp [resN]; omega, by have := hx.nl; simp [resN]; omega⟩
  unfold RS.one at e
  split at e
  · split at e
    · rename_i k hk
      obtain ⟨k1, k2, _⟩ := freeR_lt _ _ _ hk
      simp at k2
      cases e
      refine ⟨by simp [h1], by simp; exact h2, by simp; omega, fun y hy2 => ?_, fun k' hk' => ?_, by simp [h4]⟩
      · rcases List.mem_or_eq_of_mem_set hy2 with hy2 | rfl
        · exact h.nd y hy2
        · exact hy
      · rcases List.mem_append.1 hk' with hk' | hk'
        · exact h.hs k' hk'
        · obtain rfl := List.mem_singleton.1 hk'; omega
    · split at e
      · cases e
      · cases e
        refine ⟨by simp [h1], by simp, by simp; omega, fun y hy2 => ?_, fun k' hk' => ?_, by simp [h4]⟩
        · rcases List.mem_append.1 hy2 with hy2 | hy2
          · exact h.nd y hy2
          · obtain rfl := List.mem_singleton.1 hy2; exact hy
        · rcases List.mem_append.1 hk' with hk' | hk'
          · exact h.hs k' hk'
          · obtain rfl := List.mem_singleton.1 hk'; omega
  · rename_i hf
    cases e
    refine ⟨h1, h2, by simp; omega, h.nd, fun k' hk' => ?_, by simp [h4]⟩
    rcases List.mem_append.1 hk' with hk' | hk'
    · exact h.hs k' hk'
    · obtain rfl := List.mem_singleton.1 hk'
      rcases findR_nn (resN s.out x) (s.nds.drop 1) (s.is.drop 1) 1 with h5 | ⟨k, h5, h6, h7⟩
      · exact absurd h5 hf
      · rw [h7]; simp at h6; omega
theorem RS.one_len {size : Int} {s s' : RS} {x : Nd} (e : s.one size x = some s') : s.is.length ≤ s'.is.length := by
  unfold RS.one at e
  split at e
  · split at e
    · cases e; simp
    · split at e
      · cases e
      · cases e; simp
  · cases e; exact Nat.le_refl _
theorem RS.one_is {size : Int} {s s' : RS} {x : Nd} (e : s.one size x = some s') {k : Nat} (hk : s.is[k]? = some true) : s'.is[k]? = some true := by
  unfold RS.one at e
  split at e
  · split at e
    · rename_i h _
      cases e
      rw [List.getElem?_set]
      split
      · rename_i e; subst e
        rw [if_pos (List.getElem?_eq_some_iff.1 hk).1]
      · exact hk
    · split at e
      · cases e
      · cases e
        rw [List.getElem?_append_left (List.getElem?_eq_some_iff.1 hk).1]; exact hk
  · cases e; exact hk
theorem RS.one_keep {size : Int} {s s' : RS} {x : Nd} (hl : s.nds.length = s.is.length) (e : s.one size x = some s') {k : Nat} (hk : s.is[k]? = some true) : s'.nds[k]? = s.nds[k]? := by
  have hkl := (List.getElem?_eq_some_iff.1 hk).1
  unfold RS.one at e
  split at e
  · split at e
    · rename_i h hf
      cases e
      obtain ⟨q1, q2, q3⟩ := freeR_lt _ _ _ hf
      rw [List.getElem?_drop, show 1 + (h - 1) = h by omega] at q3
      rw [List.getElem?_set, if_neg]
      intro e; subst e
      rw [hk] at q3; cases q3
    · split at e
      · cases e
      · cases e
        rw [List.getElem?_append_left (by omega)]
  · cases e; rfl
/-- Its call, whatever it answers. -/
theorem rone_ok (size : Int) (n : Nat) (s : RS) (hs : RSOk n s) (hnb : n ≤ 10000) (k1 k2 : Nat) (ss : List (Nat × List AV)) (m : Nat) (hn : RcN k1 k2 m [] ss) (x : Nd) (hx : NdOk x) (ka : Nat) (ha : (ka, s.out.map vi) ∈ ss) (hr : ∀ r ∈ x.refs, -1 - r < s.out.length) :
    ACall Tryd.prog 38 [.ptr 0 0, ndA x, .hsl ka 0 s.out.length] (rcS size s.nds s.is k1 k2 [] ss m) fun r τ => match s.one size x with
      | some s' => ∃ h : Nat, r = .tup [vi (h : Nat), vi 0] ∧ s'.out = s.out ++ [(h : Int)] ∧ ∃ k1' k2' m', RcN k1' k2' m' [] ss ∧ (rcS size s'.nds s'.is k1' k2' [] ss m').Le τ
      | none => r = .tup [vi 0, vi 3] ∧ ∃ m', RcN k1 k2 m' [] ss ∧ (rcS size s.nds s.is k1 k2 [] ss m').Le τ := by
  have h1 := hs.len
  have h2 := hs.pos
  have h3 := hs.lb
  have h4 := hs.ol
  unfold RS.one
  rcases findR_nn (resN s.out x) (s.nds.drop 1) (s.is.drop 1) 1 with hf | ⟨h, h5, h6, hf⟩
  · rw [if_pos hf]
    cases hfr : freeR (s.is.drop 1) 1 with
    | some h =>
      obtain ⟨q1, q2, _⟩ := freeR_lt _ _ _ hfr
      simp at q2
      refine (rone3_ok size s.nds s.is k1 k2 ss m hn h1 h2 (by omega) x hx s.out ka ha hr (by omega) hs.nd hf h (by omega) (by omega) hfr).mono fun r τ ⟨e1, e2⟩ => ?_
      exact ⟨h, e1, rfl, e2⟩
    | none =>
      by_cases hsz : size < (s.is.length : Int)
      · simp only [if_pos hsz]
        exact rone2_ok size s.nds s.is k1 k2 ss m hn h1 h2 (by omega) x hx s.out ka ha hr (by omega) hs.nd hf hfr hsz
      · simp only [if_neg hsz]
        refine (rone4_ok size s.nds s.is k1 k2 ss m hn h1 h2 (by omega) x hx s.out ka ha hr (by omega) hs.nd hf hfr (by omega)).mono fun r τ ⟨e1, e2⟩ => ?_
        exact ⟨s.is.length, e1, rfl, e2⟩
  · rw [if_neg (by omega)]
    refine (rone1_ok size s.nds s.is k1 k2 ss m hn h1 h2 (by omega) x hx s.out ka ha hr (by omega) hs.nd h (by omega) hf).mono fun r τ ⟨e1, e2⟩ => ?_
    exact ⟨h, e1, by rw [hf], k1, k2, e2⟩
def RS.puts (size : Int) : RS → List Nd → Option RS
  | s, [] => some s
  | s, x :: l => (s.one size x).bind fun s' => s'.puts size l
theorem badDL_at (is : List Bool) : ∀ (l : List Nd) (i j : Nat) (x : Nd), badDL is l i = false → l[j]? = some x → x.refs.any (badD is ((i + j : Nat) : Int)) = false
  | [], _, _, _, _, h => by cases h
  | y :: l, i, 0, x, h, hx => by
    simp at hx; subst hx
    simp only [badDL, Bool.or_eq_false_iff] at h
    exact h.1
  | y :: l, i, j + 1, x, h, hx => by
    simp only [badDL, Bool.or_eq_false_iff] at h
    have := badDL_at is l (i + 1) j x h.2 (by simpa using hx)
    rwa [show i + 1 + j = i + (j + 1) by omega] at this
def RpI (size : Int) (l : List Nd) (was : List Bool) (nds0 : List Nd) (m : Nat) (F : Option RS) (q : Nat) (fr : List AV) (σ : ASt) : Prop := ∃ (i k1 k2 kw ko T : Nat) (s : RS), i + q = l.length ∧ RSOk i s ∧ was.length ≤ s.is.length ∧ s.puts size (l.drop i) = F ∧ RcN k1 k2 T [] [(kw, was.map fun b => vb b), (ko, s.out.map vi)] ∧ σ = rcS size s.nds s.is k1 k2 [] [(kw, was.map fun b => vb b), (ko, s.out.map vi)] T ∧
  (∀ h : Nat, was[h]? = some true → s.nds[h]? = nds0[h]?) ∧ (∀ h : Nat, was[h]? = some true → s.is[h]? = some true) ∧ fr = frm 60 [(0, .ptr 0 0), (1, .vsl (l.map ndA)), (4, .p (.slice none 0 0)), (5, vi 0), (7, .hsl kw 0 was.length), (8, .hsl ko 0 s.out.length), (9, vi (i : Nat))]
/-- What is behind a list put. -/
def RpPost (size : Int) (nds : List Nd) (is : List Bool) (F : Option RS) (r : AV) (τ : ASt) : Prop := match F with
      | some s => r = .tup [.vsl (s.out.map vi), vi 0] ∧ ∃ k1' k2' m', RcN k1' k2' m' [] [] ∧ (rcS size s.nds s.is k1' k2' [] [] m').Le τ
      | none => r = .tup [.p (.slice none 0 0), vi 3] ∧ ∃ nds' k1' k2' m', nds'.length = is.length ∧ (∀ h : Nat, is[h]? = some true → nds'[h]? = nds[h]?) ∧ (∀ y ∈ nds', NdL y) ∧ RcN k1' k2' m' [] [] ∧ (rcS size nds' is k1' k2' [] [] m').Le τ
set_option maxHeartbeats 8000000 in
set_option maxRecDepth 100000 in
theorem rputBad_ok (size : Int) (nds : List Nd) (is : List Bool) (hs : RSOk 0 ⟨nds, is, []⟩) (k1 k2 m : Nat) (hn : RcN k1 k2 m [] []) (l : List Nd) (hl : l.length ≤ 10000) (hx : ∀ x ∈ l, NdOk x) (hb : badDL is l 0 = true) :
    ACall Tryd.prog 24 [.ptr 0 0, .vsl (l.map ndA)] (rcS size nds is k1 k2 [] [] m) fun r τ => r = .tup [.p (.slice none 0 0), vi 1] ∧ ∃ m', m ≤ m' ∧ (rcS size nds is k1 k2 [] [] m').Le τ := by
  have hw := rwrong_ok size nds is l (by omega) hx
  have hnk : ¬ k2 = k1 := fun e => hn.n e.symm
  have a1 := hn.l1
  have a2 := hn.l2
  have h1 := hs.len
  have h2 := hs.pos
  have h3 := hs.lb
  have h4 := hs.ol
  have hv2 : (is.map fun b => (vb b : AV)).length = is.length := List.length_map _
  have hlv : (l.map ndA).length = l.length := List.length_map _
  simp only at h1 h2 h3 h4
  refine acall_of Tryd.func24 Tryd.ntmps24 rfl ?_
  simp only [List.length_cons, List.length_nil, List.cons_append, List.nil_append, List.replicate]
  repeat' first | refine aw_N [16] trivial trivial ?_ | refine aw_cond rfl (fun h => ?_) (fun h => ?_)
  refine awl_lendD 2 [] rfl rfl rfl (by kernel_rfl) (args := [.ptr 0 0, .vsl (l.map ndA)]) rfl (args' := [rcV size nds is, .vsl (l.map ndA)]) (by
    simp only [List.map_cons, List.map_nil]
    rw [cloD_rc hn]
    simp [cloD]) hw (by simp) (by simp) ?_
  rw [hb]
  simp -implicitDefEqProofs
  repeat' first | refine aw_N [16] trivial trivial ?_ | refine aw_cond rfl (fun h => ?_) (fun h => ?_)
  exact ⟨by simp [tupOf], m, by omega, le_same _⟩
set_option maxHeartbeats 8000000 in
set_option maxRecDepth 100000 in
theorem rput_ok (size : Int) (nds : List Nd) (is : List Bool) (hs : RSOk 0 ⟨nds, is, []⟩) (k1 k2 m : Nat) (hn : RcN k1 k2 m [] []) (l : List Nd) (hl : l.length ≤ 10000) (hx : ∀ x ∈ l, NdOk x) (hb : badDL is l 0 = false) (F : Option RS) (hF : RS.puts size ⟨nds, is, []⟩ l = F) :
    ACall Tryd.prog 24 [.ptr 0 0, .vsl (l.map ndA)] (rcS size nds is k1 k2 [] [] m) fun r τ => RpPost size nds is F r τ := by
  have hw := rwrong_ok size nds is l (by omega) hx
  have hnk : ¬ k2 = k1 := fun e => hn.n e.symm
  have a1 := hn.l1
  have a2 := hn.l2
  have h1 := hs.len
  have h2 := hs.pos
  have h3 := hs.lb
  have h4 := hs.ol
  have hv2 : (is.map fun b => (vb b : AV)).length = is.length := List.length_map _
  have hlv : (l.map ndA).length = l.length := List.length_map _
  simp only at h1 h2 h3 h4
  refine acall_of Tryd.func24 Tryd.ntmps24 rfl ?_
  simp only [List.length_cons, List.length_nil, List.cons_append, List.nil_append, List.replicate]
  repeat' first | refine aw_N [16] trivial trivial ?_ | refine aw_cond rfl (fun h => ?_) (fun h => ?_)
  refine awl_lendD 2 [] rfl rfl rfl (by kernel_rfl) (args := [.ptr 0 0, .vsl (l.map ndA)]) rfl (args' := [rcV size nds is, .vsl (l.map ndA)]) (by
    simp only [List.map_cons, List.map_nil]
    rw [cloD_rc hn]
    simp [cloD]) hw (by simp) (by simp) ?_
  rw [hb]
  simp -implicitDefEqProofs
  repeat' first | refine aw_N [16] trivial trivial ?_ | refine aw_cond rfl (fun h => ?_) (fun h => ?_)
  have mk1 : ¬ m = k1 := by omega
  have mk2 : ¬ m = k2 := by omega
  have k1m : ¬ k1 = m := by omega
  have k2m : ¬ k2 = m := by omega
  refine awl_append [] rfl rfl rfl (b := m) (xs := []) (ys := is.map fun b => vb b) (by simp) (by simp) (by simp [asrc, upd, k2m, hnk, hv2, List.take_of_length_le]) (by simp; intro e; rw [e] at h2; simp at h2) te61 tet61 tz4 rfl (by simp) (fun y hy => by obtain ⟨_, _, rfl⟩ := List.mem_map.1 hy; exact ⟨rfl, rfl⟩) (by simp; omega) (by simp; omega) ?_
  simp -implicitDefEqProofs [ASt.dropSl, ASt.addSl]
  repeat' first | refine aw_N [16] trivial trivial ?_ | refine aw_cond rfl (fun h => ?_) (fun h => ?_)
  refine aw_nilH (i := 8) rfl ?_
  simp -implicitDefEqProofs only [List.set]
  refine aw_loopW [0, 1, 4, 5, 7, 8, 9] (fun q fr σ => RpI size l is nds m F q fr σ) l.length ?_ ?_
  · refine ⟨rcS size nds is k1 k2 [] [(m + 1, is.map fun b => vb b), (m + 2, [])] (m + 3), le_rcS (by simp [ASt.addSl]) (by simp [ASt.addSl, upd, k1m, show ¬ k1 = m + 1 by omega, show ¬ k1 = m + 2 by omega]) (by simp [ASt.addSl, upd, hnk, k2m, show ¬ k2 = m + 1 by omega, show ¬ k2 = m + 2 by omega]) (by simp [ASt.addSl, upd]) (by simp) (by simp [ASt.addSl]), 0, k1, k2, m + 1, m + 2, m + 3, ⟨nds, is, []⟩, by omega, hs, Nat.le_refl _, hF, ⟨by omega, by omega, hn.n, by simp; omega, by simp, by simp, by simp⟩, rfl, fun _ _ => rfl, fun _ h => h, by simp⟩
  · clear hw hF hs hn hnk a1 a2 mk1 mk2 k1m k2m
    rintro q fr σ ⟨i, k1, k2, kw, ko, T, s, hi, hs, hwl, hF, hn, rfl, hkeep, hgot, rfl⟩
    simp -implicitDefEqProofs
    have hnk : ¬ k2 = k1 := fun e => hn.n e.symm
    have a1 := hn.l1
    have a2 := hn.l2
    obtain ⟨b1, b2, b3, b4⟩ := hn.s _ (List.mem_cons_self (a := (kw, is.map fun b => (vb b : AV))))
    obtain ⟨c1, c2, c3, c4⟩ := hn.s (ko, s.out.map vi) (by simp)
    have hnd0 := hn.nd
    simp at b1 b2 b3 b4 c1 c2 c3 c4 hnd0
    have ol := hs.ol
    have okw : ¬ ko = kw := fun e => hnd0 e.symm
    by_cases hlt : i < l.length
    · have hlti : (i : Int) < l.length := by omega
      obtain ⟨x, hx1⟩ : ∃ x, l[i] = x := ⟨_, rfl⟩
      have hxg : l[i]? = some x := by rw [List.getElem?_eq_getElem hlt, hx1]
      have hxo := hx x (List.mem_of_getElem? hxg)
      have wi : IntKind.i64.wrap ((i : Int) + 1) = (i : Int) + 1 := wrap_id (by omega) (by omega)
      have hnd : ndA x = .agg [vi x.k, .vsl (x.refs.map vi), .vsl (x.nums.map vi), vs x.text] := rfl
      have hbx := badDL_at is l 0 i x hb hxg
      have hr : ∀ r ∈ x.refs, -1 - r < s.out.length := fun r hr => by
        rw [List.any_eq_false] at hbx
        have := hbx r hr
        simp [badD] at this
        omega
      rw [List.drop_eq_getElem_cons hlt, hx1, RS.puts] at hF
      have h1o := rone_ok size i s hs (by omega) k1 k2 _ T hn x hxo ko (by simp) hr
      repeat' first | refine aw_N [16] (And.intro @hlt (And.intro @hlti (And.intro @hx1 (And.intro @hxg (And.intro @hlv @hnd))))) trivial ?_ | refine aw_cond rfl (fun h => ?_) (fun h => ?_)
      rw [← hnd]
      refine awl_cons rfl (opq_call rfl rfl rfl (h1o.mono fun r τ hq => ?_))
      cases ho : s.one size x with
      | some s' =>
        rw [ho] at hq hF
        obtain ⟨h, rfl, hso, k1', k2', T', hn', hle⟩ := hq
        refine AWL.less hle ?_
        refine awl_run' [] ?_
        simp -implicitDefEqProofs
        repeat' first | refine aw_N [16] trivial trivial ?_ | refine aw_cond rfl (fun h => ?_) (fun h => ?_)
        have hnk' : ¬ k2' = k1' := fun e => hn'.n e.symm
        obtain ⟨d1, d2, d3, d4⟩ := hn'.s _ (List.mem_cons_self (a := (kw, is.map fun b => (vb b : AV))))
        obtain ⟨f1, f2, f3, f4⟩ := hn'.s (ko, s.out.map vi) (by simp)
        simp at d1 d2 d3 d4 f1 f2 f3 f4
        have g1 := hn'.l1
        have g2 := hn'.l2
        refine awl_append [] rfl rfl rfl (b := ko) (xs := s.out.map vi) (by simp [f3, f4, okw]) (by simp) rfl (by simp) te33 tet33 tz3 rfl (fun y hy => by obtain ⟨_, _, rfl⟩ := List.mem_map.1 hy; rfl) (by simp) (by simp; omega) (by simp; omega) ?_
        simp -implicitDefEqProofs
        repeat' first | refine aw_N [16] @wi trivial ?_ | refine aw_cond rfl (fun h => ?_) (fun h => ?_)
        have hsl : s'.out.length = s.out.length + 1 := by rw [hso]; simp
        refine ⟨q - 1, by omega, rcS size s'.nds s'.is k1' k2' [] [(kw, is.map fun b => vb b), (T', s'.out.map vi)] (T' + 1), le_rcS (by simp [ASt.addSl, ASt.dropSl]) (by simp [ASt.addSl, ASt.dropSl, upd, show ¬ k1' = T' by omega, Ne.symm f3]) (by simp [ASt.addSl, ASt.dropSl, upd, hnk', show ¬ k2' = T' by omega, Ne.symm f4]) ?_ (by simp) (by simp [ASt.addSl]), i + 1, k1', k2', kw, T', T' + 1, s', by omega, hs.one (by omega) hxo ho, by have := RS.one_len ho; omega, hF, ⟨by omega, by omega, hn'.n, by simp; omega, by simp; omega, by simp, by simp⟩, rfl, fun k hk => ?_, fun k hk => RS.one_is ho (hgot k hk), by simp [hsl]⟩
        · rw [hso]
          simp [ASt.addSl, ASt.dropSl, upd, d3, d4, show ¬ kw = T' by omega, show ¬ kw = ko by omega, List.take_of_length_le]
        · rw [← hkeep k hk]
          exact RS.one_keep hs.len ho (hgot k hk)
      | none =>
        rw [ho] at hq hF
        obtain ⟨rfl, T', hn', hle⟩ := hq
        refine AWL.less hle ?_
        have hwn : is.length ≤ s.nds.length := by rw [hs.len]; exact hwl
        have hwni : (is.length : Int) ≤ s.nds.length := by omega
        refine awl_softSl k1 (xs := s.nds.map ndA) (xs' := (s.nds.take is.length).map ndA) (by simp) (by rw [List.map_take]; exact .take (by omega) (by simpa using hwn)) ?_
        refine awl_run' [] ?_
        simp -implicitDefEqProofs
        repeat' first | refine aw_N [16] (And.intro @hwn @hwni) trivial ?_ | refine aw_cond rfl (fun h => ?_) (fun h => ?_)
        simp only [Option.bind_none] at hF
        subst hF
        have g1 := hn'.l1
        have g2 := hn'.s (kw, is.map fun b => (vb b : AV)) (by simp)
        simp only at g2
        refine ⟨by simp [tupOf], s.nds.take is.length, k1, kw, T', by simp; omega, fun k hk => ?_, fun y hy => hs.nd y (List.mem_of_mem_take hy), ⟨by omega, by omega, by omega, by simp, by simp, by simp, by simp⟩, le_rcS (by simp [Nat.min_eq_left hwn]) (by simp [ASt.setSl, List.map_take]) (by simp [ASt.setSl, upd, b3, b4]) (by simp) (by simp) (by simp [ASt.setSl])⟩
        rw [List.getElem?_take, if_pos (List.getElem?_eq_some_iff.1 hk).1, hkeep k hk]
    · have hlti : ¬ (i : Int) < l.length := by omega
      rw [List.drop_eq_nil_of_le (by omega), RS.puts] at hF
      subst hF
      refine aw_freeze (b := ko) (xs := s.out.map vi) (by simp [c3, c4, okw]) ?_
      simp -implicitDefEqProofs [frz, frz1, frz0, List.take_of_length_le]
      repeat' first | refine aw_N [16] (And.intro @hlti @hlv) trivial ?_ | refine aw_cond rfl (fun h => ?_) (fun h => ?_)
      exact ⟨by simp [tupOf], k1, k2, T, ⟨a1, a2, hn.n, by simp, by simp, by simp, by simp⟩, le_rcS (by simp) (by simp [upd, Ne.symm c3]) (by simp [upd, hnk, Ne.symm c4]) (by simp) (by simp) (by simp)⟩
end Go.AL
