/- Parts of the proof of MonoHolds: the logic, contracts, plain laws. -/
import Derived.Test.YtjldlcakinmajaaZMonoHolds14
import Derived.Test.YtjldlcakinmajaaZMonoHolds13
import Derived.Test.YtjldlcakinmajaaZMonoHolds7
/-! Contracts: the form of a place's text, by gridironref02. -/
namespace Go.AL
open Go.Proofs
set_option linter.unusedSimpArgs false
set_option linter.unusedVariables false
def digitB (b : UInt8) : Bool := decide (48 ≤ (b.toNat : Int)) && decide ((b.toNat : Int) ≤ 57)
def formedL : List UInt8 → Bool
  | a :: b :: t => decide (t.length ≤ 2) && decide (65 ≤ (a.toNat : Int)) && decide ((a.toNat : Int) ≤ 90) && !decide ((b.toNat : Int) = 48) && (b :: t).all digitB
  | _ => false
def formedP (s : ByteArray) : Bool := formedL s.data.toList
theorem bsize_mk (a : Array UInt8) : (⟨a⟩ : ByteArray).size = a.size := rfl
set_option maxRecDepth 100000 in
theorem rformed_ok (s : ByteArray) (hsz : s.size ≤ 9223372036854775807) : APure Try.prog 148 [vs s] (vb (formedP s)) := by
  obtain ⟨⟨l⟩⟩ := s
  unfold formedP
  match l, hsz with
  | [], _ =>
    refine apure_in Try.func148 Try.ntmps148 rfl ?_
    repeat' first | refine aw_N [] @bsize_mk trivial ?_ | refine aw_cond rfl (fun h => ?_) (fun h => ?_)
    all_goals first | (cases h; done) | simp [tupOf, formedL]
  | [a], _ =>
    refine apure_in Try.func148 Try.ntmps148 rfl ?_
    repeat' first | refine aw_N [] @bsize_mk trivial ?_ | refine aw_cond rfl (fun h => ?_) (fun h => ?_)
    all_goals first | (cases h; done) | simp [tupOf, formedL]
  | a :: b :: t, hsz =>
    simp [bsize_mk] at hsz
    refine apure_in Try.func148 Try.ntmps148 rfl ?_
    refine aw_seq (aw_run [] ?_)
    simp -implicitDefEqProofs
    refine aw_seq (aw_seq (aw_run [] ?_))
    simp -implicitDefEqProofs [bsize_mk]
    refine aw_cond rfl (fun h => ?_) (fun h => aw_skip ?_)
    · repeat' first | refine aw_N [] @bsize_mk trivial ?_ | refine aw_cond rfl (fun h => ?_) (fun h => ?_)
      simp [tupOf, formedL] at h ⊢
      intro h1 h2 h3 h4
      omega
    · simp at h
      simp -implicitDefEqProofs [bsize_mk]
      refine aw_seq (aw_seq (aw_run [] ?_))
      simp -implicitDefEqProofs [bsize_mk]
      refine aw_block (aw_loopK [0, 2, 3] (fun n fr σ => σ = σ0 ∧ ∃ i : Nat, i + n = t.length + 2 ∧ 1 ≤ i ∧ ((b :: t).take (i - 1)).all digitB = true ∧ fr = frm 43 [(0, vs ⟨⟨a :: b :: t⟩⟩), (2, vb false), (3, vi (i : Nat))]) (t.length + 1) ?_ ?_)
      · refine ⟨rfl, 1, by omega, by omega, by simp, by simp⟩
      · rintro n fr σ ⟨rfl, i, hi, h1, hall, rfl⟩
        simp
        refine aw_seq (aw_seq (aw_run [] ?_))
        simp -implicitDefEqProofs [bsize_mk]
        refine aw_cond rfl (fun h => aw_skip ?_) (fun h => aw_exit ?_)
        · have hlt : i < t.length + 2 := by simp at h; omega
          obtain ⟨x, hx⟩ : ∃ x, (a :: b :: t)[i]? = some x := ⟨(a :: b :: t)[i], by simp [hlt]⟩
          have hx1 : (b :: t)[i - 1]? = some x := by
            rw [show i = (i - 1) + 1 by omega, List.getElem?_cons_succ] at hx
            exact hx
          have hnx : IntKind.i64.wrap ((i : Int) + 1) = ((i + 1 : Nat) : Int) := by rw [wrap_id (by omega) (by omega)]; simp
          simp -implicitDefEqProofs
          refine aw_seq (aw_block (aw_seq (aw_run [] ?_)))
          simp -implicitDefEqProofs [hx]
          refine aw_cond rfl (fun h2 => ?_) (fun h2 => aw_skip ?_)
          · repeat' first | refine aw_N [] trivial trivial ?_ | refine aw_cond rfl (fun h => ?_) (fun h => ?_)
            simp [tupOf] at h2 ⊢
            have hm : x ∈ b :: t := List.mem_of_getElem? hx1
            cases hq : formedL (a :: b :: t) with
            | false => rfl
            | true =>
              simp only [formedL, Bool.and_eq_true, List.all_eq_true] at hq
              have := hq.2 x hm
              simp [digitB] at this
              omega
          · simp -implicitDefEqProofs
            refine aw_run [] ?_
            simp -implicitDefEqProofs
            refine ⟨n - 1, by omega, i + 1, by omega, by omega, ?_, by simp [hnx]⟩
            have he : (b :: t).take (i + 1 - 1) = (b :: t).take (i - 1) ++ [x] := by
              rw [show i + 1 - 1 = (i - 1) + 1 by omega, List.take_add_one, hx1]; rfl
            intro y hy
            rw [he, List.mem_append] at hy
            rcases hy with hy | hy
            · exact List.all_eq_true.1 hall y hy
            · obtain rfl : y = x := by simpa using hy
              simp [digitB] at h2 ⊢
              omega
        · have hi2 : i = t.length + 2 := by simp at h; omega
          simp -implicitDefEqProofs
          repeat' first | refine aw_N [] trivial trivial ?_ | refine aw_cond rfl (fun h => ?_) (fun h => ?_)
          have hl : (b :: t).take (i - 1) = b :: t := List.take_of_length_le (by simp; omega)
          rw [hl] at hall
          rename_i h9 _
          have : formedL (a :: b :: t) = true := by
            simp only [formedL, hall, Bool.and_true]
            simp
            omega
          simp [tupOf, this]
end Go.AL
/-! Contracts: gridironref02.Parse. -/
namespace Go.AL
open Go.Proofs
set_option linter.unusedSimpArgs false
set_option linter.unusedVariables false
def isText (s : ByteArray) (i : Nat) : Bool := decide (textP (atC (i : Int)) (atR (i : Int)) = s)
/-- The first place with this text. -/
def findT (s : ByteArray) : Option Nat := (List.range 1024).find? (isText s)
def parseI (s : ByteArray) : Nat := (findT s).getD 0
def parseB (s : ByteArray) : Bool := formedP s && (findT s).isSome
def parseE (s : ByteArray) : Int := if formedP s = true then (if (findT s).isSome = true then 0 else 4) else 2
set_option maxRecDepth 100000 in
theorem rparse_ok (s : ByteArray) (hsz : s.size ≤ 9223372036854775807) : APure Try.prog 104 [vs s] (.tup [place (z (parseB s) (atC (parseI s))) (z (parseB s) (atR (parseI s))), vi (parseE s)]) := by
  refine apure_in Try.func104 Try.ntmps104 rfl ?_
  repeat' first | refine aw_N [2, 6] trivial (And.intro (rformed_ok s hsz) trivial) ?_ | refine aw_cond rfl (fun h => ?_) (fun h => ?_)
  · have hf : formedP s = false := by simpa using h
    simp [tupOf, parseB, parseE, hf]
  · have hf : formedP s = true := by simpa using h
    refine aw_loopW [0, 2, 5] (fun n fr σ => ∃ i m : Nat, i + n = 1024 ∧ 1 ≤ m ∧ (∀ j, j < i → isText s j = false) ∧ σ = mkSt [(0, [vi 0, vi 0])] [] m ∧ fr = frm 30 [(0, vs s), (2, .ptr 0 0), (5, vi (i : Nat))]) 1024 ?_ ?_
    · refine ⟨mkSt [(0, [vi 0, vi 0])] [] 1, le_mkSt (by simp [σ0]) (by simp) (by simp [σ0]), 0, 1, by omega, by omega, by omega, rfl, ?_⟩
      simp [σ0]
    · rintro n fr σ ⟨i, m, hi, hm, hno, rfl, rfl⟩
      simp
      have hm0 : ¬ 0 = m := by omega
      refine aw_seq (aw_seq (aw_run [2, 6] ?_))
      simp -implicitDefEqProofs
      refine aw_cond rfl (fun h => aw_skip ?_) (fun h => aw_exit ?_)
      · have hlt : i < 1024 := by simp at h; omega
        have hnx : IntKind.i64.wrap ((i : Int) + 1) = ((i + 1 : Nat) : Int) := by rw [wrap_id (by omega) (by omega)]; simp
        simp -implicitDefEqProofs
        repeat' (first
          | refine aw_seq ?_
          | (refine aw_run [2, 6] ?_; try simp -implicitDefEqProofs (maxSteps := 1000000) [List.lookup, hm0])
          | ((first | refine awl_skip' [2, 6] rfl ?_ | refine awl_pure_guard [2, 6] rfl rfl rfl (by first | assumption | kernel_rfl) rfl (fun hc => by first | exact rat_ok _ | exact rtext_ok _ _) (by simp) (by simp) (by simp) ?_ | refine awl_pure' [2, 6] rfl rfl rfl (by first | assumption | kernel_rfl) rfl (by first | exact rat_ok _ | exact rtext_ok _ _) (by simp) (by simp) ?_ | refine aw_skip ?_ | refine aw_exit ?_); try simp -implicitDefEqProofs (maxSteps := 1000000) [List.lookup, hm0])
          | (refine aw_cond rfl (fun h => ?_) (fun h => ?_) <;> try (with_reducible first | exact ff_tt h | exact tt_ff h))
          | refine aw_block ?_
          | refine aw_ret (ret_of (.inr rfl) (by simp [Try.results104]; rfl) (Fin.of ?_))
          | refine ret_of (.inl rfl) (by simp [Try.results104]; rfl) (Fin.of ?_))
        · have hi1 : isText s i = true := h
          have hfd : findT s = some i := by
            unfold findT
            rw [List.find?_range_eq_some]
            exact ⟨hi1, by simp [hlt], fun j hj => by simp [hno j hj]⟩
          simp [tupOf, parseB, parseE, parseI, hf, hfd]
        · refine ⟨n - 1, by omega, mkSt [(0, [vi 0, vi 0])] [] (m + 1), le_mkSt (by simp [List.lookup, hm0]) (by simp) (by simp), i + 1, by omega, m + 1, by omega, ?_, rfl, by simp [hnx]⟩
          intro j hj
          by_cases hji : j < i
          · exact hno j hji
          · obtain rfl : j = i := by omega
            exact h
      · simp -implicitDefEqProofs
        repeat' (first
          | refine aw_seq ?_
          | (refine aw_run [2, 6] ?_; try simp -implicitDefEqProofs (maxSteps := 1000000) [List.lookup])
          | ((first | refine awl_skip' [2, 6] rfl ?_ | refine aw_skip ?_ | refine aw_exit ?_); try simp -implicitDefEqProofs (maxSteps := 1000000) [List.lookup])
          | (refine aw_cond rfl (fun h => ?_) (fun h => ?_) <;> try (with_reducible first | exact ff_tt h | exact tt_ff h))
          | refine aw_block ?_
          | refine aw_ret (ret_of (.inr rfl) (by simp [Try.results104]; rfl) (Fin.of ?_))
          | refine ret_of (.inl rfl) (by simp [Try.results104]; rfl) (Fin.of ?_))
        have hfd : findT s = none := by
          unfold findT
          rw [List.find?_range_eq_none]
          intro j hj
          have : j < i := by simp at h; omega
          simp [hno j this]
        simp [tupOf, parseB, parseE, parseI, hf, hfd]
end Go.AL
/-! Contracts: place.formed. -/
namespace Go.AL
open Go.Proofs
set_option linter.unusedSimpArgs false
set_option linter.unusedVariables false
end Go.AL
/-! Contracts: place.Text, place.Parse. -/
namespace Go.AL
open Go.Proofs
set_option linter.unusedSimpArgs false
set_option linter.unusedVariables false
end Go.AL
/-! Contracts: place.Parse. -/
namespace Go.AL
open Go.Proofs Go.Proofs.Ytjldlcakinmajaa.Dec Go.Lib
set_option linter.unusedSimpArgs false
set_option linter.unusedVariables false
end Go.AL
/-! Contracts: lexer.name. -/
namespace Go.AL
open Go.Proofs
set_option linter.unusedSimpArgs false
set_option linter.unusedVariables false
def nameR (c : Int) : Bool := letR c || figR c
def isWord (t : ByteArray) : Prop := t = ⟨#[73, 70]⟩ ∨ t = ⟨#[83, 85, 77]⟩ ∨ t = ⟨#[77, 73, 78]⟩ ∨ t = ⟨#[77, 65, 88]⟩ ∨ t = ⟨#[67, 79, 85, 78, 84]⟩
end Go.AL
/-! Contracts: lexer.next. -/
namespace Go.AL
open Go.Proofs
set_option linter.unusedSimpArgs false
set_option linter.unusedVariables false
/-- A token but for where it stands, and how long it is; 0: there is none. -/
structure Tok where
  k : Int
  n : Int
  c : Int
  r : Int
  t : ByteArray
  len : Nat
def Tok.av (x : Tok) (f : Int) : AV := token x.k x.n x.c x.r x.t f
def noTok : Tok := ⟨0, 0, 0, 0, ⟨#[]⟩, 0⟩
instance (t : ByteArray) : Decidable (isWord t) := by unfold isWord; infer_instance
def placeTok (s : ByteArray) (c r e : Int) : Tok := ⟨if e = 0 then 2 else if e = 4 then 3 else 0, 0, if e = 0 then c else 0, if e = 0 then r else 0, ⟨#[]⟩, if e = 0 ∨ e = 4 then leadL nameR s else 0⟩
def nextT (s : ByteArray) (b : UInt8) : Tok :=
  if figR b.toNat = true then (match Lib.atoiAll (leadS figR s).data.toList with | .ok v => ⟨1, v, 0, 0, ⟨#[]⟩, leadL figR s⟩ | _ => noTok)
  else if letR b.toNat = true then (if isWord (leadS nameR s) then ⟨4, 0, 0, 0, leadS nameR s, leadL nameR s⟩
    else placeTok s (z (parseB (leadS nameR s)) (atC (parseI (leadS nameR s)))) (z (parseB (leadS nameR s)) (atR (parseI (leadS nameR s)))) (parseE (leadS nameR s)))
  else if hasPre s ⟨#[35, 82, 69, 70]⟩ = true then ⟨3, 0, 0, 0, ⟨#[]⟩, 4⟩
  else ⟨if markN s.data.toList = 0 then 0 else 5, 0, 0, 0, s.extract 0 (markN s.data.toList), markN s.data.toList⟩
end Go.AL
/-! Contracts: lexer.Scan. -/
namespace Go.AL
open Go.Proofs
set_option linter.unusedSimpArgs false
set_option linter.unusedVariables false
/-- A token, where it stands. -/
def tokA (p : Tok × Nat) : AV := p.1.av (p.2 : Nat)
def scanK (p : Tok × Nat) (r : List (Tok × Nat) × Nat × Int) : List (Tok × Nat) × Nat × Int := if r.2.2 = 0 then (p :: r.1, 0, 0) else ([], r.2)
/-- The tokens of a text's rest, the place of a fault, its number. -/
def scanL (sz : Nat) : Nat → List UInt8 → List (Tok × Nat) × Nat × Int
  | 0, _ => ([], 0, 0)
  | _ + 1, [] => ([], 0, 0)
  | n + 1, b :: l => if b = 32 then scanL sz n l else
    if (nextT ⟨⟨b :: l⟩⟩ b).len = 0 then ([], sz - (l.length + 1), 2) else scanK (nextT ⟨⟨b :: l⟩⟩ b, sz - (l.length + 1)) (scanL sz n ((b :: l).drop (nextT ⟨⟨b :: l⟩⟩ b).len))
def scanS (s : ByteArray) : List (Tok × Nat) × Nat × Int := if 200 < s.size then ([], 0, 3) else scanL s.size s.size s.data.toList
theorem scanL_fuel (sz : Nat) : ∀ (n m : Nat) (l : List UInt8), l.length ≤ n → l.length ≤ m → scanL sz n l = scanL sz m l
  | 0, m, [], _, _ => by cases m <;> rfl
  | 0, _, _ :: _, h, _ => by simp at h
  | n + 1, m, [], _, _ => by cases m <;> rfl
  | n + 1, 0, _ :: _, _, h => by simp at h
  | n + 1, m + 1, b :: l, h1, h2 => by
    simp only [List.length_cons] at h1 h2
    unfold scanL
    split
    · exact scanL_fuel sz n m l (by omega) (by omega)
    · split
      · rfl
      · rename_i hx
        rw [scanL_fuel sz n m _ (by simp [List.length_drop]; omega) (by simp [List.length_drop]; omega)]
@[simp] theorem tok_cl (x : Tok) (f : Int) : Cl (x.av f) := by
  refine .agg _ fun c hc => ?_
  simp at hc
  rcases hc with rfl | rfl | rfl | rfl | rfl | rfl <;> exact .p _
def scanAcc (ts : List (Tok × Nat)) (r : List (Tok × Nat) × Nat × Int) : List (Tok × Nat) × Nat × Int := if r.2.2 = 0 then (ts ++ r.1, 0, 0) else ([], r.2)
theorem scanAcc_K (ts : List (Tok × Nat)) (p : Tok × Nat) (r : List (Tok × Nat) × Nat × Int) : scanAcc ts (scanK p r) = scanAcc (ts ++ [p]) r := by
  unfold scanAcc scanK
  by_cases h : r.2.2 = 0 <;> simp [h]
theorem scanL_zero (sz : Nat) : ∀ (n : Nat) (l : List UInt8), (scanL sz n l).2.2 = 0 → (scanL sz n l).2.1 = 0
  | 0, _, _ => rfl
  | _ + 1, [], _ => rfl
  | n + 1, b :: l, h => by
    unfold scanL at h ⊢
    split
    · rename_i hb; rw [if_pos hb] at h; exact scanL_zero sz n l h
    · rename_i hb
      rw [if_neg hb] at h
      split
      · rename_i hx; rw [if_pos hx] at h; simp at h
      · rename_i hx
        rw [if_neg hx] at h
        unfold scanK at h ⊢
        split
        · rfl
        · rename_i hr; rw [if_neg hr] at h; exact absurd h hr
theorem scanAcc_nil (sz n : Nat) (l : List UInt8) : scanAcc [] (scanL sz n l) = scanL sz n l := by
  unfold scanAcc
  split
  · rename_i h
    have := scanL_zero sz n l h
    generalize scanL sz n l = r at *
    obtain ⟨a, b, c⟩ := r
    simp at h this ⊢
    exact ⟨this.symm, h.symm⟩
  · rename_i h
    have hz : ∀ n l, (scanL sz n l).2.2 ≠ 0 → (scanL sz n l).1 = [] := by
      intro n
      induction n with
      | zero => intro l h; rfl
      | succ n ih =>
        intro l h
        match l, h with
        | [], h => rfl
        | b :: l, h =>
          unfold scanL at h ⊢
          split
          · rename_i hb; rw [if_pos hb] at h; exact ih l h
          · rename_i hb
            rw [if_neg hb] at h
            split
            · rfl
            · rename_i hx
              rw [if_neg hx] at h
              unfold scanK at h ⊢
              split
              · rename_i hr; rw [if_pos hr] at h; simp at h
              · rfl
    have := hz n l h
    generalize scanL sz n l = r at *
    obtain ⟨a, b, c⟩ := r
    simp at this ⊢
    exact this
theorem markN_le (l : List UInt8) : markN l ≤ l.length := by
  cases l with
  | nil => simp [markN]
  | cons b l =>
    have h1 : ∀ p : ByteArray, hasPre ⟨⟨l⟩⟩ p = true → p.size ≤ l.length := fun p h => by
      simp only [hasPre, Bool.and_eq_true, decide_eq_true_eq] at h
      simpa [bsizeL] using h.1
    have h2 : ∀ p : ByteArray, hasPre ⟨⟨b :: l⟩⟩ p = true → p.size ≤ l.length + 1 := fun p h => by
      simp only [hasPre, Bool.and_eq_true, decide_eq_true_eq] at h
      simpa [bsizeL] using h.1
    simp only [markN, List.length_cons]
    split
    · split
      · rename_i h
        rcases h with h | h
        · have := h2 _ h; simp [bsizeL] at this; omega
        · have := h1 _ h; simp [bsizeL] at this; omega
      · omega
    · split
      · split
        · rename_i h
          have := h1 _ h; simp [bsizeL] at this; omega
        · omega
      · split <;> omega
theorem nextT_len (b : UInt8) (l : List UInt8) : (nextT ⟨⟨b :: l⟩⟩ b).len ≤ l.length + 1 := by
  have h1 := leadL_le figR ⟨⟨b :: l⟩⟩
  have h2 := leadL_le nameR ⟨⟨b :: l⟩⟩
  have h3 := markN_le (b :: l)
  simp only [bsizeL, List.size_toArray, List.length_cons] at h1 h2 h3
  unfold nextT
  split
  · split
    · exact h1
    · exact Nat.zero_le _
  · split
    · split
      · exact h2
      · unfold placeTok
        simp only
        split
        · exact h2
        · exact Nat.zero_le _
    · split
      · rename_i h
        simp only [hasPre, Bool.and_eq_true, decide_eq_true_eq] at h
        have := h.1
        simpa [bsizeL] using this
      · exact h3
end Go.AL
/-! Contracts: gridironref04's small functions. -/
namespace Go.AL
open Go.Proofs Go.Proofs.Ytjldlcakinmajaa.Dec Go.Lib
set_option linter.unusedSimpArgs false
set_option linter.unusedVariables false
set_option maxRecDepth 100000 in
theorem rfigure_ok (c : UInt8) : APure Try.prog 101 [vbyte c] (vb (figR c.toNat)) := by
  refine apure_in Try.func101 Try.ntmps101 rfl ?_
  repeat' first | refine aw_N [] trivial trivial ?_ | refine aw_cond rfl (fun h => ?_) (fun h => ?_)
  rfl
set_option maxRecDepth 100000 in
theorem rnamed_ok (c : UInt8) : APure Try.prog 103 [vbyte c] (vb (nameR c.toNat)) := by
  refine apure_in Try.func103 Try.ntmps103 rfl ?_
  repeat' first | refine aw_N [] trivial trivial ?_ | refine aw_cond rfl (fun h => ?_) (fun h => ?_)
  simp [tupOf, nameR, letR, figR]
set_option maxRecDepth 100000 in
theorem rword_ok (s : ByteArray) : APure Try.prog 105 [vs s] (vb (decide (isWord s))) := by
  refine apure_in Try.func105 Try.ntmps105 rfl ?_
  repeat' first | refine aw_N [] trivial trivial ?_ | refine aw_cond rfl (fun h => ?_) (fun h => ?_)
  simp [tupOf, isWord]
  grind
theorem fig_iff (c : UInt8) : fig c = figR c.toNat := by
  unfold fig figR
  by_cases h1 : 48 ≤ c.toNat <;> by_cases h2 : c.toNat ≤ 57 <;> simp [h1, h2] <;> omega
theorem parse_big (l : List UInt8) : ∀ acc, acc < 18446744073709551616 → l.all fig = true → 18446744073709551616 ≤ fval acc l → parseUint10 acc l = .range := by
  induction l with
  | nil => intro acc h0 _ hv; rw [fval_nil] at hv; omega
  | cons c r ih =>
    intro acc h0 ha hv
    simp only [List.all_cons, Bool.and_eq_true] at ha
    have hc : 48 ≤ c.toNat ∧ c.toNat ≤ 57 := of_fig ha.1
    rw [fval_cons] at hv
    simp only [parseUint10]
    rw [if_pos hc]
    split
    · rfl
    · split
      · rfl
      · exact ih _ (by omega) ha.2 hv
/-- Figures, read as a number. -/
theorem atoi_figs {l : List UInt8} (h0 : l ≠ []) (ha : l.all fig = true) :
    (fval 0 l ≤ 9223372036854775807 ∧ atoiAll l = .ok (fval 0 l)) ∨ (9223372036854775807 < fval 0 l ∧ ∀ v, atoiAll l ≠ .ok v) := by
  by_cases hv : fval 0 l < 18446744073709551616
  · rw [atoi_plain h0 ha hv]
    by_cases h : 9223372036854775808 ≤ fval 0 l
    · right; rw [if_pos h]; exact ⟨by omega, fun v e => by cases e⟩
    · left; rw [if_neg h]; exact ⟨by omega, rfl⟩
  · right
    refine ⟨by omega, fun v e => ?_⟩
    have hb := parse_big l 0 (by omega) ha (by omega)
    have hm : parseMag l = .range := by unfold parseMag; rw [if_neg h0, hb]
    cases l with
    | nil => exact h0 rfl
    | cons c r =>
      have hc := fig_head ha (c := c) rfl
      simp only [atoiAll] at e
      rw [if_neg (by omega), hm] at e
      cases e
theorem fval_take {l : List UInt8} {i : Nat} {c : UInt8} (h : l[i]? = some c) : fval 0 (l.take (i + 1)) = fval 0 (l.take i) * 10 + (c.toNat - 48) := by
  obtain ⟨hi, he⟩ := List.getElem?_eq_some_iff.1 h
  rw [List.take_add_one, h]
  simp [fval_append, fval_cons, fval_nil]
theorem fval_mono (l : List UInt8) (i : Nat) : fval 0 (l.take i) ≤ fval 0 l := by
  conv => rhs; rw [← List.take_append_drop i l, fval_append]
  exact fval_ge _ _
set_option maxHeartbeats 4000000 in
set_option maxRecDepth 100000 in
theorem rnumber_ok (l : List UInt8) (hl : l.length ≤ 281474976710656) (ha : l.all fig = true) :
    APure Try.prog 102 [vs ⟨⟨l⟩⟩] (.tup [vi (if fval 0 l ≤ 9223372036854775807 then (fval 0 l : Int) else 0), vb (decide (fval 0 l ≤ 9223372036854775807))]) := by
  refine apure_in Try.func102 Try.ntmps102 rfl ?_
  refine aw_seq (aw_run [] ?_)
  simp -implicitDefEqProofs
  refine aw_seq (aw_run [] ?_)
  simp -implicitDefEqProofs
  refine aw_seq (aw_seq (aw_run [] ?_))
  simp -implicitDefEqProofs
  refine aw_block (aw_loopK [0, 4, 5] (fun n fr σ => σ = σ0 ∧ ∃ i : Nat, i + n = l.length ∧ fval 0 (l.take i) ≤ 9223372036854775807 ∧ fr = frm 28 [(0, vs ⟨⟨l⟩⟩), (4, vi (fval 0 (l.take i) : Nat)), (5, vi (i : Nat))]) l.length ?_ ?_)
  · exact ⟨rfl, 0, by omega, by simp [fval_nil], by simp [fval_nil]⟩
  · rintro n fr σ ⟨rfl, i, hi, hb, rfl⟩
    simp
    by_cases hlt : i < l.length
    · obtain ⟨c, hcc⟩ : ∃ c, l[i] = c := ⟨_, rfl⟩
      have hc : l[i]? = some c := by rw [List.getElem?_eq_getElem hlt, hcc]
      have hf : fig c = true := List.all_eq_true.1 ha c (List.mem_of_getElem? hc)
      have h48 := of_fig hf
      have hft := fval_take hc
      have w1 : IntKind.u8.wrap ((c.toNat : Int) - 48) = ((c.toNat - 48 : Nat) : Int) := by rw [bwrap_id (by omega) (by omega)]; omega
      have w2 : IntKind.i64.wrap ((c.toNat - 48 : Nat) : Int) = ((c.toNat - 48 : Nat) : Int) := wrap_id (by omega) (by omega)
      have w3 : IntKind.i64.wrap (9223372036854775807 - ((c.toNat - 48 : Nat) : Int)) = 9223372036854775807 - ((c.toNat - 48 : Nat) : Int) := wrap_id (by omega) (by omega)
      have w4 : IntKind.i64.wrap (Int.tdiv (9223372036854775807 - ((c.toNat - 48 : Nat) : Int)) 10) = ((9223372036854775807 - (c.toNat - 48)) / 10 : Nat) := by
        rw [Int.tdiv_eq_ediv_of_nonneg (by omega), wrap_id (by omega) (by omega)]; omega
      have w7 : IntKind.i64.wrap ((i : Int) + 1) = ((i + 1 : Nat) : Int) := by rw [wrap_id (by omega) (by omega)]; omega
      by_cases hov : (9223372036854775807 - (c.toNat - 48)) / 10 < fval 0 (l.take i)
      · have hm := fval_mono l (i + 1)
        have hno : ¬ fval 0 l ≤ 9223372036854775807 := by omega
        rw [if_neg hno, decide_eq_false hno]
        repeat' first | refine aw_N [] (And.intro @bsizeL (And.intro @hlt (And.intro @hcc (And.intro @w1 (And.intro @w2 (And.intro @w3 (And.intro @w4 @hov))))))) trivial ?_ | refine aw_cond rfl (fun h => ?_) (fun h => ?_)
        · rfl
        · simp at h; omega
      · have w5 : IntKind.i64.wrap (10 * (fval 0 (l.take i) : Int)) = 10 * (fval 0 (l.take i) : Int) := wrap_id (by omega) (by omega)
        have w6 : IntKind.i64.wrap (10 * (fval 0 (l.take i) : Int) + ((c.toNat - 48 : Nat) : Int)) = (fval 0 (l.take (i + 1)) : Nat) := by rw [wrap_id (by omega) (by omega)]; omega
        repeat' first | refine aw_N [] (And.intro @bsizeL (And.intro @hlt (And.intro @hcc (And.intro @w1 (And.intro @w2 (And.intro @w3 (And.intro @w4 (And.intro @w5 (And.intro @w6 (And.intro @w7 @hov)))))))))) trivial ?_ | refine aw_cond rfl (fun h => ?_) (fun h => ?_)
        · simp at h; omega
        · exact ⟨n - 1, by omega, i + 1, by omega, by omega, rfl, by omega⟩
    · have hi2 : i = l.length := by omega
      subst hi2
      simp only [List.take_length] at *
      rw [if_pos hb, decide_eq_true hb]
      repeat' first | refine aw_N [] @bsizeL trivial ?_ | refine aw_cond rfl (fun h => ?_) (fun h => ?_)
      rfl
end Go.AL
/-! Contracts: gridironref04.mark. -/
namespace Go.AL
open Go.Proofs Go.Proofs.Ytjldlcakinmajaa.Dec Go.Lib
set_option linter.unusedSimpArgs false
set_option linter.unusedVariables false
def markD (b d : UInt8) : Nat := if (b = 60 ∧ (d = 61 ∨ d = 62)) ∨ (b = 62 ∧ d = 61) then 2 else if b = 43 ∨ b = 45 ∨ b = 42 ∨ b = 47 ∨ b = 40 ∨ b = 41 ∨ b = 44 ∨ b = 58 ∨ b = 60 ∨ b = 61 ∨ b = 62 then 1 else 0
theorem extract_take (l : List UInt8) (n : Nat) : (⟨⟨l⟩⟩ : ByteArray).extract 0 n = ⟨⟨l.take n⟩⟩ := by
  apply ByteArray.ext
  simp [ByteArray.data_extract, List.take_of_length_le]
theorem hasPre_iff (l p : List UInt8) : hasPre ⟨⟨l⟩⟩ ⟨⟨p⟩⟩ = true ↔ l.take p.length = p := by
  simp only [hasPre, Bool.and_eq_true, decide_eq_true_eq, bsizeL, List.size_toArray, extract_take]
  constructor
  · rintro ⟨_, h⟩; simpa using h
  · intro h
    refine ⟨?_, by rw [h]⟩
    have := congrArg List.length h
    simp at this; omega
theorem markN_D (b : UInt8) (l : List UInt8) : markN (b :: l) = markD b (l.head?.getD 0) := by
  have h1 : (hasPre ⟨⟨l⟩⟩ ⟨#[61]⟩ = true) ↔ l.head?.getD 0 = 61 := by
    rw [hasPre_iff]
    cases l with
    | nil => simp
    | cons d l => simp
  have h2 : (hasPre ⟨⟨b :: l⟩⟩ ⟨#[60, 62]⟩ = true) ↔ b = 60 ∧ l.head?.getD 0 = 62 := by
    rw [hasPre_iff]
    cases l with
    | nil => simp
    | cons d l => simp
  simp only [markN, h1, h2, markD]
  generalize l.head?.getD 0 = d
  by_cases e : b = 60
  · subst e
    by_cases e1 : d = 61 <;> by_cases e2 : d = 62 <;> simp [e1, e2]
  · by_cases e : b = 62
    · subst e
      by_cases e1 : d = 61 <;> simp [e1]
    · simp [*]
theorem at0 (pre : List UInt8) (b : UInt8) (l : List UInt8) : (pre ++ b :: l)[pre.length]? = some b := by simp
theorem at1 (pre : List UInt8) (b d : UInt8) (l : List UInt8) : (pre ++ b :: d :: l)[pre.length + 1]? = some d := by simp
theorem cn (c : UInt8) (n : Nat) (hn : n < 256) : ((c.toNat : Int) = (n : Int)) ↔ c = UInt8.ofNat n := by
  constructor
  · intro h; apply UInt8.toNat_inj.1; rw [u8_of n hn]; omega
  · intro h; rw [h, u8_of n hn]
set_option maxHeartbeats 4000000 in
set_option maxRecDepth 100000 in
theorem rmark_ok (pre : List UInt8) (b : UInt8) (l : List UInt8) (hs : (pre ++ b :: l).length ≤ 281474976710656) :
    APure Try.prog 106 [vs ⟨⟨pre ++ b :: l⟩⟩, vi (pre.length : Nat)] (vi (markN (b :: l) : Nat)) := by
  have h1 : IntKind.i64.wrap ((pre.length : Int) + 1) = ((pre.length + 1 : Nat) : Int) := by simp at hs; rw [wrap_id (by omega) (by omega)]; omega
  have hp : (0 : Int) ≤ pre.length := by omega
  have h0 := at0 pre b l
  rw [markN_D]
  have q43 : ((b.toNat : Int) = 43) ↔ b = 43 := u8c (c := 43)
  have q45 : ((b.toNat : Int) = 45) ↔ b = 45 := u8c (c := 45)
  have q42 : ((b.toNat : Int) = 42) ↔ b = 42 := u8c (c := 42)
  have q47 : ((b.toNat : Int) = 47) ↔ b = 47 := u8c (c := 47)
  have q40 : ((b.toNat : Int) = 40) ↔ b = 40 := u8c (c := 40)
  have q41 : ((b.toNat : Int) = 41) ↔ b = 41 := u8c (c := 41)
  have q44 : ((b.toNat : Int) = 44) ↔ b = 44 := u8c (c := 44)
  have q58 : ((b.toNat : Int) = 58) ↔ b = 58 := u8c (c := 58)
  have q60 : ((b.toNat : Int) = 60) ↔ b = 60 := u8c (c := 60)
  have q61 : ((b.toNat : Int) = 61) ↔ b = 61 := u8c (c := 61)
  have q62 : ((b.toNat : Int) = 62) ↔ b = 62 := u8c (c := 62)
  cases l with
  | nil =>
    have d61 : True := trivial
    have d62 : True := trivial
    refine apure_in Try.func106 Try.ntmps106 rfl ?_
    repeat' first | refine aw_N [] (And.intro @bsizeL (And.intro @h1 (And.intro @hp @h0))) trivial ?_ | refine aw_cond rfl (fun h => ?_) (fun h => ?_)
    all_goals first | (exfalso; simp at h; omega) | skip
    all_goals
      simp [q43, q45, q42, q47, q40, q41, q44, q58, q60, q61, q62, d61, d62] at h
      simp only [tupOf, AV.p.injEq, Value.int.injEq, true_and]
      simp only [markD]
      grind
  | cons d l =>
    have h2 := at1 pre b d l
    have d61 : ((d.toNat : Int) = 61) ↔ d = 61 := u8c (c := 61)
    have d62 : ((d.toNat : Int) = 62) ↔ d = 62 := u8c (c := 62)
    refine apure_in Try.func106 Try.ntmps106 rfl ?_
    repeat' first | refine aw_N [] (And.intro @bsizeL (And.intro @h1 (And.intro @hp (And.intro @h0 @h2)))) trivial ?_ | refine aw_cond rfl (fun h => ?_) (fun h => ?_)
    all_goals first | (exfalso; simp at h; omega) | skip
    all_goals
      simp [q43, q45, q42, q47, q40, q41, q44, q58, q60, q61, q62, d61, d62] at h
      simp only [tupOf, AV.p.injEq, Value.int.injEq, true_and]
      simp only [markD]
      grind
end Go.AL
/-! Contracts: gridironref04.one. -/
namespace Go.AL
open Go.Proofs Go.Proofs.Ytjldlcakinmajaa.Dec Go.Lib
set_option linter.unusedSimpArgs false
set_option linter.unusedVariables false
theorem leadL_at {p : Int → Bool} {L : List UInt8} {n : Nat} (h : ∀ x ∈ L.take n, p x.toNat = true) (hn : n ≤ L.length) (hs : n = L.length ∨ ∃ x, L[n]? = some x ∧ p x.toNat = false) : leadL p ⟨⟨L⟩⟩ = n := by
  show (L.takeWhile fun b => p b.toNat).length = n
  rw [← List.take_append_drop n L, List.takeWhile_append_of_pos h]
  rcases hs with h1 | ⟨x, hx, hp⟩
  · rw [h1, List.drop_length]; simp
  · have : L.drop n = x :: L.drop (n + 1) := by
      obtain ⟨hlt, he⟩ := List.getElem?_eq_some_iff.1 hx
      rw [List.drop_eq_getElem_cons hlt, he]
    rw [this, List.takeWhile_cons_of_neg (by simp [hp])]
    simp; omega
theorem leadS_eq (p : Int → Bool) (L : List UInt8) : leadS p ⟨⟨L⟩⟩ = ⟨⟨L.take (leadL p ⟨⟨L⟩⟩)⟩⟩ := extract_take _ _
theorem leadL_take (p : Int → Bool) (L : List UInt8) : ∀ x ∈ L.take (leadL p ⟨⟨L⟩⟩), p x.toNat = true := by
  intro x hx
  have key : ∀ L : List UInt8, ∀ x ∈ L.take (L.takeWhile fun b => p b.toNat).length, p x.toNat = true := by
    intro L
    induction L with
    | nil => intro x hx; simp at hx
    | cons b l ih =>
      intro x hx
      by_cases hb : p b.toNat = true
      · rw [List.takeWhile_cons_of_pos (by simpa using hb)] at hx
        simp at hx
        rcases hx with rfl | hx
        · exact hb
        · exact ih x hx
      · rw [List.takeWhile_cons_of_neg (by simpa using hb)] at hx
        simp at hx
  exact key L x hx
theorem leadL_pos {p : Int → Bool} {b : UInt8} {l : List UInt8} (h : p b.toNat = true) : 0 < leadL p ⟨⟨b :: l⟩⟩ := by
  show 0 < ((b :: l).takeWhile fun b => p b.toNat).length
  rw [List.takeWhile_cons_of_pos (by simpa using h)]; simp
theorem xmid (pre L : List UInt8) (n : Nat) : (⟨⟨pre ++ L⟩⟩ : ByteArray).extract pre.length (pre.length + n) = ⟨⟨L.take n⟩⟩ := by
  apply ByteArray.ext
  simp [ByteArray.data_extract]
theorem atN (pre L : List UInt8) (n : Nat) : (pre ++ L)[pre.length + n]? = L[n]? := by
  rw [List.getElem?_append_right (by omega)]; congr 1; omega
theorem take_snoc {p : Int → Bool} {L : List UInt8} {n : Nat} {x : UInt8} (h : ∀ x ∈ L.take n, p x.toNat = true) (hx : L[n]? = some x) (hp : p x.toNat = true) : ∀ x ∈ L.take (n + 1), p x.toNat = true := by
  intro y hy
  rw [List.take_add_one, hx] at hy
  simp at hy
  rcases hy with hy | rfl
  · exact h y hy
  · exact hp
set_option maxHeartbeats 4000000 in
set_option maxRecDepth 100000 in
theorem rone_num (pre : List UInt8) (b : UInt8) (l : List UInt8) (hs : (pre ++ b :: l).length ≤ 281474976710656) (hf : figR b.toNat = true) (x : Tok) (hx : x = nextT ⟨⟨b :: l⟩⟩ b) :
    APure Try.prog 75 [vs ⟨⟨pre ++ b :: l⟩⟩, vi (pre.length : Nat)] (.tup [x.av (if x.len = 0 then 0 else (pre.length : Nat)), vi (x.len : Nat)]) := by
  have hp : (0 : Int) ≤ pre.length := by omega
  have h0 := at0 pre b l
  obtain ⟨L, hL⟩ : ∃ L, L = b :: l := ⟨_, rfl⟩
  have hlL : L.length = l.length + 1 := by rw [hL]; rfl
  have hs2 : pre.length + L.length ≤ 281474976710656 := by simp at hs; omega
  have hfg := rfigure_ok b
  rw [hf] at hfg
  obtain ⟨N, hN⟩ : ∃ N, N = leadL figR ⟨⟨L⟩⟩ := ⟨_, rfl⟩
  have hNp : 0 < N := by rw [hN, hL]; exact leadL_pos hf
  have hNl : N ≤ L.length := by rw [hN]; have := leadL_le figR ⟨⟨L⟩⟩; have e : (⟨⟨L⟩⟩ : ByteArray).size = L.length := rfl; omega
  have hall : (L.take N).all fig = true := by
    rw [List.all_eq_true]; intro y hy; rw [fig_iff]; rw [hN] at hy; exact leadL_take _ _ y hy
  have hnum := rnumber_ok (L.take N) (by rw [List.length_take]; omega) hall
  have hat := atoi_figs (l := L.take N) (fun h => by have := congrArg List.length h; rw [List.length_take, List.length_nil] at this; omega) hall
  have hxx : x = (if fval 0 (L.take N) ≤ 9223372036854775807 then ⟨1, fval 0 (L.take N), 0, 0, ⟨#[]⟩, N⟩ else noTok) := by
    rw [hx, nextT, if_pos hf, leadS_eq, ← hL, ← hN]
    rcases hat with ⟨h1, h2⟩ | ⟨h1, h2⟩
    · rw [if_pos h1, show (ByteArray.data ⟨⟨L.take N⟩⟩).toList = L.take N from rfl, h2]
    · rw [if_neg (by omega)]
      split
      · rename_i v hv; exact absurd hv (h2 v)
      · rfl
  have hxm := xmid pre L N
  have wN : IntKind.i64.wrap ((pre.length : Int) + (N : Int)) = ((pre.length + N : Nat) : Int) := by rw [wrap_id (by omega) (by omega)]; omega
  rw [← hL] at h0 ⊢
  clear hs
  refine apure_in Try.func75 Try.ntmps75 rfl ?_
  repeat' first | refine aw_N [4, 11] (And.intro @bsizeL (And.intro @hp @h0)) (And.intro @hfg trivial) ?_ | refine aw_cond rfl (fun h => ?_) (fun h => ?_)
  refine (aw_loopW [0, 1, 4, 6] (fun n fr σ => ∃ i m : Nat, i + n = L.length ∧ 1 ≤ m ∧ (∀ y ∈ L.take i, figR y.toNat = true) ∧ σ = mkSt [(0, [vi 0, vi 0, vi 0, vi 0, vs ⟨#[]⟩, vi 0])] [] m ∧ fr = frm 148 [(0, vs ⟨⟨pre ++ L⟩⟩), (1, vi (pre.length : Nat)), (4, .ptr 0 0), (6, vi (i : Nat))]) L.length ?_ ?_)
  · refine ⟨mkSt [(0, [vi 0, vi 0, vi 0, vi 0, vs ⟨#[]⟩, vi 0])] [] 1, le_mkSt (by simp [σ0]) (by simp) (by simp [σ0]), 0, 1, by omega, by omega, by simp, rfl, by simp [σ0]⟩
  · rintro n fr σ ⟨i, m, hi, hm, hall2, rfl, rfl⟩
    simp
    have w1 : IntKind.i64.wrap ((pre.length : Int) + (i : Int)) = (pre.length : Int) + (i : Int) := wrap_id (by omega) (by omega)
    have w3 : ((pre.length : Int) + (i : Int)).toNat = pre.length + i := by omega
    have hi0 : (0 : Int) ≤ (pre.length : Int) + (i : Int) := by omega
    have hai := atN pre L i
    have w2 : IntKind.i64.wrap ((i : Int) + 1) = ((i + 1 : Nat) : Int) := by rw [wrap_id (by omega) (by omega)]; omega
    by_cases hlt : i < L.length
    · obtain ⟨y, hy⟩ : ∃ y, L[i] = y := ⟨_, rfl⟩
      have hy2 : L[i]? = some y := by rw [List.getElem?_eq_getElem hlt, hy]
      rw [hy2] at hai
      by_cases hfy : figR y.toNat = true
      · have h48 : (48 : Int) ≤ y.toNat ∧ (y.toNat : Int) ≤ 57 := by simpa [figR] using hfy
        repeat' first | refine aw_N [4, 11] (And.intro @bsizeL (And.intro @w1 (And.intro @w2 (And.intro @w3 (And.intro @hi0 (And.intro @hy (And.intro @hlt (And.intro @h48.1 @h48.2)))))))) trivial ?_ | refine aw_cond rfl (fun h => ?_) (fun h => ?_)
        exact ⟨n - 1, by omega, _, le_mkSt (bs := [(0, [vi 0, vi 0, vi 0, vi 0, vs ⟨#[]⟩, vi 0])]) (ss := []) (n := m) (by simp) (by simp) (by simp), i + 1, by omega, m, hm, take_snoc hall2 hy2 hfy, rfl, rfl⟩
      · have hn48 : ¬ ((48 : Int) ≤ y.toNat ∧ (y.toNat : Int) ≤ 57) := by simpa [figR] using hfy
        by_cases h48 : (48 : Int) ≤ y.toNat
        · have h57 : ¬ (y.toNat : Int) ≤ 57 := fun h => hn48 ⟨h48, h⟩
          have hNi : N = i := by rw [hN]; exact leadL_at hall2 (by omega) (.inr ⟨y, hy2, by simpa using hfy⟩)
          subst hNi
          rcases hat with ⟨h1, h2⟩ | ⟨h1, h2⟩
          · rw [if_pos h1, decide_eq_true h1] at hnum
            rw [if_pos h1] at hxx
            rw [hxx]
            have hNz : ¬ N = 0 := by omega
            repeat' first | refine aw_N [4, 11] (And.intro @bsizeL (And.intro @w1 (And.intro @hp (And.intro @w3 (And.intro @hi0 (And.intro @hlt (And.intro @hy (And.intro @h48 (And.intro @h57 (And.intro @hxm (And.intro @hNl @hNp))))))))))) (And.intro @hnum trivial) ?_ | refine aw_cond rfl (fun h => ?_) (fun h => ?_)
            simp [tupOf, Tok.av, hNz]
          · rw [if_neg (by omega), decide_eq_false (by omega)] at hnum
            rw [if_neg (by omega)] at hxx
            rw [hxx]
            repeat' first | refine aw_N [4, 11] (And.intro @bsizeL (And.intro @w1 (And.intro @hp (And.intro @w3 (And.intro @hi0 (And.intro @hlt (And.intro @hy (And.intro @h48 (And.intro @h57 (And.intro @hxm (And.intro @hNl @hNp))))))))))) (And.intro @hnum trivial) ?_ | refine aw_cond rfl (fun h => ?_) (fun h => ?_)
            simp [tupOf, Tok.av, noTok]
        · have h57 : True := trivial
          have hNi : N = i := by rw [hN]; exact leadL_at hall2 (by omega) (.inr ⟨y, hy2, by simpa using hfy⟩)
          subst hNi
          rcases hat with ⟨h1, h2⟩ | ⟨h1, h2⟩
          · rw [if_pos h1, decide_eq_true h1] at hnum
            rw [if_pos h1] at hxx
            rw [hxx]
            have hNz : ¬ N = 0 := by omega
            repeat' first | refine aw_N [4, 11] (And.intro @bsizeL (And.intro @w1 (And.intro @hp (And.intro @w3 (And.intro @hi0 (And.intro @hlt (And.intro @hy (And.intro @h48 (And.intro @h57 (And.intro @hxm (And.intro @hNl @hNp))))))))))) (And.intro @hnum trivial) ?_ | refine aw_cond rfl (fun h => ?_) (fun h => ?_)
            simp [tupOf, Tok.av, hNz]
          · rw [if_neg (by omega), decide_eq_false (by omega)] at hnum
            rw [if_neg (by omega)] at hxx
            rw [hxx]
            repeat' first | refine aw_N [4, 11] (And.intro @bsizeL (And.intro @w1 (And.intro @hp (And.intro @w3 (And.intro @hi0 (And.intro @hlt (And.intro @hy (And.intro @h48 (And.intro @h57 (And.intro @hxm (And.intro @hNl @hNp))))))))))) (And.intro @hnum trivial) ?_ | refine aw_cond rfl (fun h => ?_) (fun h => ?_)
            simp [tupOf, Tok.av, noTok]
    · have hil : i = L.length := by omega
      have hNi : N = i := by rw [hN]; exact leadL_at hall2 (by omega) (.inl hil)
      subst hNi
      rcases hat with ⟨h1, h2⟩ | ⟨h1, h2⟩
      · rw [if_pos h1, decide_eq_true h1] at hnum
        rw [if_pos h1] at hxx
        rw [hxx]
        have hNz : ¬ N = 0 := by omega
        repeat' first | refine aw_N [4, 11] (And.intro @bsizeL (And.intro @w1 (And.intro @hp (And.intro @w3 (And.intro @hi0 (And.intro @hlt (And.intro @hxm (And.intro @hNl @hNp)))))))) (And.intro @hnum trivial) ?_ | refine aw_cond rfl (fun h => ?_) (fun h => ?_)
        simp [tupOf, Tok.av, hNz]
      · rw [if_neg (by omega), decide_eq_false (by omega)] at hnum
        rw [if_neg (by omega)] at hxx
        rw [hxx]
        repeat' first | refine aw_N [4, 11] (And.intro @bsizeL (And.intro @w1 (And.intro @hp (And.intro @w3 (And.intro @hi0 (And.intro @hlt (And.intro @hxm (And.intro @hNl @hNp)))))))) (And.intro @hnum trivial) ?_ | refine aw_cond rfl (fun h => ?_) (fun h => ?_)
        simp [tupOf, Tok.av, noTok]
set_option maxHeartbeats 4000000 in
set_option maxRecDepth 100000 in
theorem rone_name (pre : List UInt8) (b : UInt8) (l : List UInt8) (hs : (pre ++ b :: l).length ≤ 281474976710656) (hf : figR b.toNat = false) (hle : letR b.toNat = true) (x : Tok) (hx : x = nextT ⟨⟨b :: l⟩⟩ b) :
    APure Try.prog 75 [vs ⟨⟨pre ++ b :: l⟩⟩, vi (pre.length : Nat)] (.tup [x.av (if x.len = 0 then 0 else (pre.length : Nat)), vi (x.len : Nat)]) := by
  have hp : (0 : Int) ≤ pre.length := by omega
  have h0 := at0 pre b l
  obtain ⟨L, hL⟩ : ∃ L, L = b :: l := ⟨_, rfl⟩
  have hlL : L.length = l.length + 1 := by rw [hL]; rfl
  have hs2 : pre.length + L.length ≤ 281474976710656 := by simp at hs; omega
  have hfg := rfigure_ok b
  rw [hf] at hfg
  have hl2 : (65 : Int) ≤ b.toNat ∧ (b.toNat : Int) ≤ 90 := by simpa [letR] using hle
  obtain ⟨l65, l90⟩ := hl2
  obtain ⟨N, hN⟩ : ∃ N, N = leadL nameR ⟨⟨L⟩⟩ := ⟨_, rfl⟩
  have hNp : 0 < N := by rw [hN, hL]; exact leadL_pos (by simp [nameR, hle])
  have hNz : ¬ N = 0 := by omega
  have hNl : N ≤ L.length := by rw [hN]; have := leadL_le nameR ⟨⟨L⟩⟩; have e : (⟨⟨L⟩⟩ : ByteArray).size = L.length := rfl; omega
  have hwd := rword_ok ⟨⟨L.take N⟩⟩
  have hpa := rparse_ok ⟨⟨L.take N⟩⟩ (by simp only [bsizeL, List.size_toArray, List.length_take]; omega)
  have hxx : x = (if isWord ⟨⟨L.take N⟩⟩ then ⟨4, 0, 0, 0, ⟨⟨L.take N⟩⟩, N⟩ else placeTok ⟨⟨L⟩⟩ (z (parseB ⟨⟨L.take N⟩⟩) (atC (parseI ⟨⟨L.take N⟩⟩))) (z (parseB ⟨⟨L.take N⟩⟩) (atR (parseI ⟨⟨L.take N⟩⟩))) (parseE ⟨⟨L.take N⟩⟩)) := by
    rw [hx, nextT, if_neg (by simp [hf]), if_pos hle, leadS_eq, ← hL, ← hN]
  have hplace : ∀ c r e, placeTok ⟨⟨L⟩⟩ c r e = ⟨if e = 0 then 2 else if e = 4 then 3 else 0, 0, if e = 0 then c else 0, if e = 0 then r else 0, ⟨#[]⟩, if e = 0 ∨ e = 4 then N else 0⟩ := fun c r e => by rw [placeTok, ← hN]
  rw [hplace] at hxx
  generalize z (parseB ⟨⟨L.take N⟩⟩) (atC (parseI ⟨⟨L.take N⟩⟩)) = pc at *
  generalize z (parseB ⟨⟨L.take N⟩⟩) (atR (parseI ⟨⟨L.take N⟩⟩)) = pr at *
  generalize parseE ⟨⟨L.take N⟩⟩ = pe at *
  have hxm := xmid pre L N
  rw [← hL] at h0 ⊢
  clear hs
  refine apure_in Try.func75 Try.ntmps75 rfl ?_
  repeat' first | refine aw_N [4, 11] (And.intro @bsizeL (And.intro @hp (And.intro @h0 (And.intro @l65 @l90)))) (And.intro @hfg trivial) ?_ | refine aw_cond rfl (fun h => ?_) (fun h => ?_)
  refine (aw_loopW [0, 1, 4, 6] (fun n fr σ => ∃ i m : Nat, i + n = L.length ∧ 1 ≤ m ∧ (∀ y ∈ L.take i, nameR y.toNat = true) ∧ σ = mkSt [(0, [vi 0, vi 0, vi 0, vi 0, vs ⟨#[]⟩, vi 0])] [] m ∧ fr = frm 148 [(0, vs ⟨⟨pre ++ L⟩⟩), (1, vi (pre.length : Nat)), (4, .ptr 0 0), (6, vi (i : Nat))]) L.length ?_ ?_)
  · refine ⟨mkSt [(0, [vi 0, vi 0, vi 0, vi 0, vs ⟨#[]⟩, vi 0])] [] 1, le_mkSt (by simp [σ0]) (by simp) (by simp [σ0]), 0, 1, by omega, by omega, by simp, rfl, by simp [σ0]⟩
  · rintro n fr σ ⟨i, m, hi, hm, hall2, rfl, rfl⟩
    simp
    have w1 : IntKind.i64.wrap ((pre.length : Int) + (i : Int)) = (pre.length : Int) + (i : Int) := wrap_id (by omega) (by omega)
    have w3 : ((pre.length : Int) + (i : Int)).toNat = pre.length + i := by omega
    have hi0 : (0 : Int) ≤ (pre.length : Int) + (i : Int) := by omega
    have w2 : IntKind.i64.wrap ((i : Int) + 1) = ((i + 1 : Nat) : Int) := by rw [wrap_id (by omega) (by omega)]; omega
    have hm0 : ¬ 0 = m := by omega
    by_cases hlt : i < L.length
    · obtain ⟨y, hy⟩ : ∃ y, L[i] = y := ⟨_, rfl⟩
      have hy2 : L[i]? = some y := by rw [List.getElem?_eq_getElem hlt, hy]
      have hnd := rnamed_ok y
      by_cases hfy : nameR y.toNat = true
      · rw [hfy] at hnd
        repeat' first | refine aw_N [4, 11] (And.intro @bsizeL (And.intro @w1 (And.intro @w2 (And.intro @w3 (And.intro @hi0 (And.intro @hy @hlt)))))) (And.intro @hnd trivial) ?_ | refine aw_cond rfl (fun h => ?_) (fun h => ?_)
        exact ⟨n - 1, by omega, _, le_mkSt (bs := [(0, [vi 0, vi 0, vi 0, vi 0, vs ⟨#[]⟩, vi 0])]) (ss := []) (n := m) (by simp) (by simp) (by simp), i + 1, by omega, m, hm, take_snoc hall2 hy2 hfy, rfl, rfl⟩
      · have hfy' : nameR y.toNat = false := by simpa using hfy
        rw [hfy'] at hnd
        have hNi : N = i := by rw [hN]; exact leadL_at hall2 (by omega) (.inr ⟨y, hy2, hfy'⟩)
        subst hNi
        by_cases hw : isWord ⟨⟨L.take N⟩⟩
        · rw [decide_eq_true hw] at hwd
          rw [if_pos hw] at hxx
          rw [hxx]
          repeat' first | refine aw_N [4, 11] (And.intro @bsizeL (And.intro @w1 (And.intro @hp (And.intro @w3 (And.intro @hi0 (And.intro @hlt (And.intro @hy (And.intro @hm0 (And.intro @hxm (And.intro @hNl @hNp)))))))))) (And.intro @hnd (And.intro @hpa (And.intro @hwd trivial))) ?_ | refine aw_cond rfl (fun h => ?_) (fun h => ?_)
          simp [tupOf, Tok.av, hNz]
        · rw [decide_eq_false hw] at hwd
          rw [if_neg hw] at hxx
          by_cases e0 : pe = 0
          · rw [hxx, e0]
            rw [e0] at hpa
            repeat' first | refine aw_N [4, 11] (And.intro @bsizeL (And.intro @w1 (And.intro @hp (And.intro @w3 (And.intro @hi0 (And.intro @hlt (And.intro @hy (And.intro @hm0 (And.intro @hxm (And.intro @hNl @hNp)))))))))) (And.intro @hnd (And.intro @hpa (And.intro @hwd trivial))) ?_ | refine aw_cond rfl (fun h => ?_) (fun h => ?_)
            simp [tupOf, Tok.av, hNz, placeTok]
          · by_cases e4 : pe = 4
            · rw [hxx, e4]
              rw [e4] at hpa
              repeat' first | refine aw_N [4, 11] (And.intro @bsizeL (And.intro @w1 (And.intro @hp (And.intro @w3 (And.intro @hi0 (And.intro @hlt (And.intro @hy (And.intro @hm0 (And.intro @hxm (And.intro @hNl @hNp)))))))))) (And.intro @hnd (And.intro @hpa (And.intro @hwd trivial))) ?_ | refine aw_cond rfl (fun h => ?_) (fun h => ?_)
              simp [tupOf, Tok.av, hNz, placeTok]
            · rw [hxx]
              repeat' first | refine aw_N [4, 11] (And.intro @bsizeL (And.intro @w1 (And.intro @hp (And.intro @w3 (And.intro @hi0 (And.intro @hlt (And.intro @hy (And.intro @hm0 (And.intro @hxm (And.intro @hNl (And.intro @hNp (And.intro @e0 @e4)))))))))))) (And.intro @hnd (And.intro @hpa (And.intro @hwd trivial))) ?_ | refine aw_cond rfl (fun h => ?_) (fun h => ?_)
              simp [tupOf, Tok.av, placeTok, e0, e4]
    · have hil : i = L.length := by omega
      have hNi : N = i := by rw [hN]; exact leadL_at hall2 (by omega) (.inl hil)
      subst hNi
      by_cases hw : isWord ⟨⟨L.take N⟩⟩
      · rw [decide_eq_true hw] at hwd
        rw [if_pos hw] at hxx
        rw [hxx]
        repeat' first | refine aw_N [4, 11] (And.intro @bsizeL (And.intro @w1 (And.intro @hp (And.intro @w3 (And.intro @hi0 (And.intro @hlt (And.intro @hm0 (And.intro @hxm (And.intro @hNl @hNp))))))))) (And.intro @hpa (And.intro @hwd trivial)) ?_ | refine aw_cond rfl (fun h => ?_) (fun h => ?_)
        simp [tupOf, Tok.av, hNz]
      · rw [decide_eq_false hw] at hwd
        rw [if_neg hw] at hxx
        by_cases e0 : pe = 0
        · rw [hxx, e0]
          rw [e0] at hpa
          repeat' first | refine aw_N [4, 11] (And.intro @bsizeL (And.intro @w1 (And.intro @hp (And.intro @w3 (And.intro @hi0 (And.intro @hlt (And.intro @hm0 (And.intro @hxm (And.intro @hNl @hNp))))))))) (And.intro @hpa (And.intro @hwd trivial)) ?_ | refine aw_cond rfl (fun h => ?_) (fun h => ?_)
          simp [tupOf, Tok.av, hNz, placeTok]
        · by_cases e4 : pe = 4
          · rw [hxx, e4]
            rw [e4] at hpa
            repeat' first | refine aw_N [4, 11] (And.intro @bsizeL (And.intro @w1 (And.intro @hp (And.intro @w3 (And.intro @hi0 (And.intro @hlt (And.intro @hm0 (And.intro @hxm (And.intro @hNl @hNp))))))))) (And.intro @hpa (And.intro @hwd trivial)) ?_ | refine aw_cond rfl (fun h => ?_) (fun h => ?_)
            simp [tupOf, Tok.av, hNz, placeTok]
          · rw [hxx]
            repeat' first | refine aw_N [4, 11] (And.intro @bsizeL (And.intro @w1 (And.intro @hp (And.intro @w3 (And.intro @hi0 (And.intro @hlt (And.intro @hm0 (And.intro @hxm (And.intro @hNl (And.intro @hNp (And.intro @e0 @e4))))))))))) (And.intro @hpa (And.intro @hwd trivial)) ?_ | refine aw_cond rfl (fun h => ?_) (fun h => ?_)
            simp [tupOf, Tok.av, placeTok, e0, e4]
set_option maxHeartbeats 4000000 in
set_option maxRecDepth 100000 in
theorem rone_other (pre : List UInt8) (b : UInt8) (l : List UInt8) (hs : (pre ++ b :: l).length ≤ 281474976710656) (hf : figR b.toNat = false) (hle : letR b.toNat = false) (x : Tok) (hx : x = nextT ⟨⟨b :: l⟩⟩ b) :
    APure Try.prog 75 [vs ⟨⟨pre ++ b :: l⟩⟩, vi (pre.length : Nat)] (.tup [x.av (if x.len = 0 then 0 else (pre.length : Nat)), vi (x.len : Nat)]) := by
  have hp : (0 : Int) ≤ pre.length := by omega
  have h0 := at0 pre b l
  obtain ⟨L, hL⟩ : ∃ L, L = b :: l := ⟨_, rfl⟩
  have hlL : L.length = l.length + 1 := by rw [hL]; rfl
  have hs2 : pre.length + L.length ≤ 281474976710656 := by simp at hs; omega
  have hfg := rfigure_ok b
  rw [hf] at hfg
  have hmk := rmark_ok pre b l hs
  have hl2 : ¬ ((65 : Int) ≤ b.toNat ∧ (b.toNat : Int) ≤ 90) := by simpa [letR] using hle
  have wl : IntKind.i64.wrap ((pre.length : Int) + (L.length : Int) - (pre.length : Int)) = (L.length : Int) := by rw [wrap_id (by omega) (by omega)]; omega
  have w4 : IntKind.i64.wrap ((pre.length : Int) + 4) = (pre.length : Int) + 4 := wrap_id (by omega) (by omega)
  have p4 : (0 : Int) ≤ (pre.length : Int) + 4 := by omega
  have t4 : ((pre.length : Int) + 4).toNat = pre.length + 4 := by omega
  have hx4 := xmid pre L 4
  have hpre : hasPre ⟨⟨L⟩⟩ ⟨#[35, 82, 69, 70]⟩ = (decide (4 ≤ L.length) && decide ((⟨⟨L.take 4⟩⟩ : ByteArray) = ⟨#[35, 82, 69, 70]⟩)) := by
    unfold hasPre
    rw [show (⟨#[35, 82, 69, 70]⟩ : ByteArray).size = 4 from rfl, extract_take]
    rfl
  obtain ⟨M, hM⟩ : ∃ M, M = markN L := ⟨_, rfl⟩
  have hMl : M ≤ L.length := by rw [hM]; exact markN_le L
  have hxM := xmid pre L M
  have wM : IntKind.i64.wrap ((pre.length : Int) + (M : Int)) = (pre.length : Int) + (M : Int) := wrap_id (by omega) (by omega)
  have tM : ((pre.length : Int) + (M : Int)).toNat = pre.length + M := by omega
  have pM : (0 : Int) ≤ (pre.length : Int) + (M : Int) := by omega
  rw [nextT, if_neg (by simp [hf]), if_neg (by simp [hle]), ← hL, hpre, show (ByteArray.data ⟨⟨L⟩⟩).toList = L from rfl, ← hM, extract_take] at hx
  rw [← hL, ← hM] at hmk
  rw [← hL] at h0 ⊢
  clear hs
  by_cases l65 : (65 : Int) ≤ b.toNat
  · have l90 : ¬ (b.toNat : Int) ≤ 90 := fun h => hl2 ⟨l65, h⟩
    by_cases h4 : 4 ≤ L.length
    · have h4i : (4 : Int) ≤ (L.length : Int) := by omega
      by_cases hr : (⟨⟨L.take 4⟩⟩ : ByteArray) = ⟨#[35, 82, 69, 70]⟩
      · rw [if_pos (by simp [h4, hr])] at hx
        rw [hx]
        refine apure_in Try.func75 Try.ntmps75 rfl ?_
        repeat' first | refine aw_N [4, 11] (And.intro @bsizeL (And.intro @hp (And.intro @h0 (And.intro @l65 (And.intro @l90 (And.intro @wl (And.intro @w4 (And.intro @p4 (And.intro @t4 (And.intro @hx4 (And.intro @h4 (And.intro @h4i @hr)))))))))))) (And.intro @hfg (And.intro @hmk trivial)) ?_ | refine aw_cond rfl (fun h => ?_) (fun h => ?_)
        simp [tupOf, Tok.av]
      · rw [if_neg (by simp [hr])] at hx
        by_cases hM0 : M = 0
        · rw [hM0] at hmk hx
          rw [hx]
          refine apure_in Try.func75 Try.ntmps75 rfl ?_
          repeat' first | refine aw_N [4, 11] (And.intro @bsizeL (And.intro @hp (And.intro @h0 (And.intro @l65 (And.intro @l90 (And.intro @wl (And.intro @w4 (And.intro @p4 (And.intro @t4 (And.intro @hx4 (And.intro @h4 (And.intro @h4i @hr)))))))))))) (And.intro @hfg (And.intro @hmk trivial)) ?_ | refine aw_cond rfl (fun h => ?_) (fun h => ?_)
          simp [tupOf, Tok.av]
        · rw [hx]
          refine apure_in Try.func75 Try.ntmps75 rfl ?_
          repeat' first | refine aw_N [4, 11] (And.intro @bsizeL (And.intro @hp (And.intro @h0 (And.intro @l65 (And.intro @l90 (And.intro @wl (And.intro @w4 (And.intro @p4 (And.intro @t4 (And.intro @hx4 (And.intro @h4 (And.intro @h4i (And.intro @hr (And.intro @hM0 (And.intro @hxM (And.intro @wM (And.intro @tM (And.intro @pM @hMl)))))))))))))))))) (And.intro @hfg (And.intro @hmk trivial)) ?_ | refine aw_cond rfl (fun h => ?_) (fun h => ?_)
          simp [tupOf, Tok.av, hM0]
    · have h4i : ¬ (4 : Int) ≤ (L.length : Int) := by omega
      rw [if_neg (by simp [h4])] at hx
      by_cases hM0 : M = 0
      · rw [hM0] at hmk hx
        rw [hx]
        refine apure_in Try.func75 Try.ntmps75 rfl ?_
        repeat' first | refine aw_N [4, 11] (And.intro @bsizeL (And.intro @hp (And.intro @h0 (And.intro @l65 (And.intro @l90 (And.intro @wl (And.intro @w4 (And.intro @p4 (And.intro @t4 (And.intro @h4 @h4i)))))))))) (And.intro @hfg (And.intro @hmk trivial)) ?_ | refine aw_cond rfl (fun h => ?_) (fun h => ?_)
        simp [tupOf, Tok.av]
      · rw [hx]
        refine apure_in Try.func75 Try.ntmps75 rfl ?_
        repeat' first | refine aw_N [4, 11] (And.intro @bsizeL (And.intro @hp (And.intro @h0 (And.intro @l65 (And.intro @l90 (And.intro @wl (And.intro @w4 (And.intro @p4 (And.intro @t4 (And.intro @h4 (And.intro @h4i (And.intro @hM0 (And.intro @hxM (And.intro @wM (And.intro @tM (And.intro @pM @hMl)))))))))))))))) (And.intro @hfg (And.intro @hmk trivial)) ?_ | refine aw_cond rfl (fun h => ?_) (fun h => ?_)
        simp [tupOf, Tok.av, hM0]
  · have l90 : True := trivial
    by_cases h4 : 4 ≤ L.length
    · have h4i : (4 : Int) ≤ (L.length : Int) := by omega
      by_cases hr : (⟨⟨L.take 4⟩⟩ : ByteArray) = ⟨#[35, 82, 69, 70]⟩
      · rw [if_pos (by simp [h4, hr])] at hx
        rw [hx]
        refine apure_in Try.func75 Try.ntmps75 rfl ?_
        repeat' first | refine aw_N [4, 11] (And.intro @bsizeL (And.intro @hp (And.intro @h0 (And.intro @l65 (And.intro @l90 (And.intro @wl (And.intro @w4 (And.intro @p4 (And.intro @t4 (And.intro @hx4 (And.intro @h4 (And.intro @h4i @hr)))))))))))) (And.intro @hfg (And.intro @hmk trivial)) ?_ | refine aw_cond rfl (fun h => ?_) (fun h => ?_)
        simp [tupOf, Tok.av]
      · rw [if_neg (by simp [hr])] at hx
        by_cases hM0 : M = 0
        · rw [hM0] at hmk hx
          rw [hx]
          refine apure_in Try.func75 Try.ntmps75 rfl ?_
          repeat' first | refine aw_N [4, 11] (And.intro @bsizeL (And.intro @hp (And.intro @h0 (And.intro @l65 (And.intro @l90 (And.intro @wl (And.intro @w4 (And.intro @p4 (And.intro @t4 (And.intro @hx4 (And.intro @h4 (And.intro @h4i @hr)))))))))))) (And.intro @hfg (And.intro @hmk trivial)) ?_ | refine aw_cond rfl (fun h => ?_) (fun h => ?_)
          simp [tupOf, Tok.av]
        · rw [hx]
          refine apure_in Try.func75 Try.ntmps75 rfl ?_
          repeat' first | refine aw_N [4, 11] (And.intro @bsizeL (And.intro @hp (And.intro @h0 (And.intro @l65 (And.intro @l90 (And.intro @wl (And.intro @w4 (And.intro @p4 (And.intro @t4 (And.intro @hx4 (And.intro @h4 (And.intro @h4i (And.intro @hr (And.intro @hM0 (And.intro @hxM (And.intro @wM (And.intro @tM (And.intro @pM @hMl)))))))))))))))))) (And.intro @hfg (And.intro @hmk trivial)) ?_ | refine aw_cond rfl (fun h => ?_) (fun h => ?_)
          simp [tupOf, Tok.av, hM0]
    · have h4i : ¬ (4 : Int) ≤ (L.length : Int) := by omega
      rw [if_neg (by simp [h4])] at hx
      by_cases hM0 : M = 0
      · rw [hM0] at hmk hx
        rw [hx]
        refine apure_in Try.func75 Try.ntmps75 rfl ?_
        repeat' first | refine aw_N [4, 11] (And.intro @bsizeL (And.intro @hp (And.intro @h0 (And.intro @l65 (And.intro @l90 (And.intro @wl (And.intro @w4 (And.intro @p4 (And.intro @t4 (And.intro @h4 @h4i)))))))))) (And.intro @hfg (And.intro @hmk trivial)) ?_ | refine aw_cond rfl (fun h => ?_) (fun h => ?_)
        simp [tupOf, Tok.av]
      · rw [hx]
        refine apure_in Try.func75 Try.ntmps75 rfl ?_
        repeat' first | refine aw_N [4, 11] (And.intro @bsizeL (And.intro @hp (And.intro @h0 (And.intro @l65 (And.intro @l90 (And.intro @wl (And.intro @w4 (And.intro @p4 (And.intro @t4 (And.intro @h4 (And.intro @h4i (And.intro @hM0 (And.intro @hxM (And.intro @wM (And.intro @tM (And.intro @pM @hMl)))))))))))))))) (And.intro @hfg (And.intro @hmk trivial)) ?_ | refine aw_cond rfl (fun h => ?_) (fun h => ?_)
        simp [tupOf, Tok.av, hM0]
theorem rone_ok (pre : List UInt8) (b : UInt8) (l : List UInt8) (hs : (pre ++ b :: l).length ≤ 281474976710656) (x : Tok) (hx : x = nextT ⟨⟨b :: l⟩⟩ b) :
    APure Try.prog 75 [vs ⟨⟨pre ++ b :: l⟩⟩, vi (pre.length : Nat)] (.tup [x.av (if x.len = 0 then 0 else (pre.length : Nat)), vi (x.len : Nat)]) := by
  cases hf : figR b.toNat with
  | true => exact rone_num pre b l hs hf x hx
  | false =>
    cases hl : letR b.toNat with
    | true => exact rone_name pre b l hs hf hl x hx
    | false => exact rone_other pre b l hs hf hl x hx
end Go.AL
