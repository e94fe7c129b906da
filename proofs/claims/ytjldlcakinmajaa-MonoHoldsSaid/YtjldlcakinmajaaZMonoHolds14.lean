/- Parts of the proof of MonoHolds: the logic, contracts, plain laws. -/
import Derived.Test.YtjldlcakinmajaaZMonoHolds13
import Derived.Test.YtjldlcakinmajaaZMonoHolds7
import Derived.Laws.RangeAny
import Derived.Laws.RangeString
/-! Contracts: gridironref03.Do, Neg. -/
namespace Go.AL
open Go.Proofs
set_option linter.unusedSimpArgs false
set_option linter.unusedVariables false
set_option maxRecDepth 100000 in
theorem rtold_ok (c : Int) : APure Try.prog 113 [vi (z (inI c) c), vb (inI c)] (value (z (inI c) c) (z (!inI c) 1)) := by
  cases inI c
  · refine apure_in Try.func113 Try.ntmps113 rfl ?_
    repeat' first | refine aw_N [4] trivial trivial ?_ | refine aw_cond rfl (fun h => ?_) (fun h => ?_)
    rfl
  · refine apure_in Try.func113 Try.ntmps113 rfl ?_
    repeat' first | refine aw_N [4] trivial trivial ?_ | refine aw_cond rfl (fun h => ?_) (fun h => ?_)
    rfl
set_option maxRecDepth 100000 in
theorem rtruth_ok (b : Bool) : APure Try.prog 118 [vb b] (value (z b 1) 0) := by
  cases b
  · refine apure_in Try.func118 Try.ntmps118 rfl ?_
    repeat' first | refine aw_N [2] trivial trivial ?_ | refine aw_cond rfl (fun h => ?_) (fun h => ?_)
    rfl
  · refine apure_in Try.func118 Try.ntmps118 rfl ?_
    repeat' first | refine aw_N [2] trivial trivial ?_ | refine aw_cond rfl (fun h => ?_) (fun h => ?_)
    rfl
def numN (k : Nat) (a b : Int) : Int := if k = 10 then 0 else numK k a b
def numF (k : Nat) (a b : Int) : Int := if k = 10 then 0 else fltK k a b
set_option maxHeartbeats 8000000 in
set_option maxRecDepth 100000 in
theorem numbers_ok (s : ByteArray) (a b : Int) (ha : In64 a) (hb : In64 b) : APure Try.prog 84 [vs s, vi a, vi b] (.tup [value (numN (doK s) a b) (numF (doK s) a b), vb (doB (doK s))]) := by
  by_cases h0 : s = ⟨#[43]⟩
  · subst h0
    have hc := radd_ok ha hb
    rw [show doK ⟨#[43]⟩ = 0 by decide]
    refine apure_in Try.func84 Try.ntmps84 rfl ?_
    repeat' (first
      | refine aw_seq ?_
      | (refine aw_run [6] ?_; try simp -implicitDefEqProofs (maxSteps := 1000000) [Nat.lt_irrefl])
      | ((first | refine awl_skip' [6] rfl ?_ | refine awl_pure_guard [6] rfl rfl rfl (by first | assumption | kernel_rfl) rfl (fun hc => by first | exact hc | exact rtold_ok _ | exact rtruth_ok _) (by simp) (by simp) (by simp) ?_ | refine awl_pure' [6] rfl rfl rfl (by first | assumption | kernel_rfl) rfl (by first | exact hc | exact rtold_ok _ | exact rtruth_ok _) (by simp) (by simp) ?_ | refine aw_skip ?_ | refine aw_exit ?_); try simp -implicitDefEqProofs (maxSteps := 1000000) [Nat.lt_irrefl])
      | (refine aw_cond rfl (fun h => ?_) (fun h => ?_) <;> try (with_reducible first | exact ff_tt h | exact tt_ff h))
      | refine aw_block ?_
      | refine aw_ret (ret_of (.inr rfl) (by simp [Try.results84]; rfl) (Fin.of ?_))
      | refine ret_of (.inl rfl) (by simp [Try.results84]; rfl) (Fin.of ?_))
    all_goals simp [tupOf, numN, numF, numK, fltK, doB, Nat.lt_irrefl]
  by_cases h1 : s = ⟨#[45]⟩
  · subst h1
    have hc := rsub_ok ha hb
    rw [show doK ⟨#[45]⟩ = 1 by decide]
    refine apure_in Try.func84 Try.ntmps84 rfl ?_
    repeat' (first
      | refine aw_seq ?_
      | (refine aw_run [6] ?_; try simp -implicitDefEqProofs (maxSteps := 1000000) [Nat.lt_irrefl])
      | ((first | refine awl_skip' [6] rfl ?_ | refine awl_pure_guard [6] rfl rfl rfl (by first | assumption | kernel_rfl) rfl (fun hc => by first | exact hc | exact rtold_ok _ | exact rtruth_ok _) (by simp) (by simp) (by simp) ?_ | refine awl_pure' [6] rfl rfl rfl (by first | assumption | kernel_rfl) rfl (by first | exact hc | exact rtold_ok _ | exact rtruth_ok _) (by simp) (by simp) ?_ | refine aw_skip ?_ | refine aw_exit ?_); try simp -implicitDefEqProofs (maxSteps := 1000000) [Nat.lt_irrefl])
      | (refine aw_cond rfl (fun h => ?_) (fun h => ?_) <;> try (with_reducible first | exact ff_tt h | exact tt_ff h))
      | refine aw_block ?_
      | refine aw_ret (ret_of (.inr rfl) (by simp [Try.results84]; rfl) (Fin.of ?_))
      | refine ret_of (.inl rfl) (by simp [Try.results84]; rfl) (Fin.of ?_))
    all_goals simp [tupOf, numN, numF, numK, fltK, doB, Nat.lt_irrefl]
  by_cases h2 : s = ⟨#[42]⟩
  · subst h2
    have hc := rmul_ok ha hb
    rw [show doK ⟨#[42]⟩ = 2 by decide]
    refine apure_in Try.func84 Try.ntmps84 rfl ?_
    repeat' (first
      | refine aw_seq ?_
      | (refine aw_run [6] ?_; try simp -implicitDefEqProofs (maxSteps := 1000000) [Nat.lt_irrefl])
      | ((first | refine awl_skip' [6] rfl ?_ | refine awl_pure_guard [6] rfl rfl rfl (by first | assumption | kernel_rfl) rfl (fun hc => by first | exact hc | exact rtold_ok _ | exact rtruth_ok _) (by simp) (by simp) (by simp) ?_ | refine awl_pure' [6] rfl rfl rfl (by first | assumption | kernel_rfl) rfl (by first | exact hc | exact rtold_ok _ | exact rtruth_ok _) (by simp) (by simp) ?_ | refine aw_skip ?_ | refine aw_exit ?_); try simp -implicitDefEqProofs (maxSteps := 1000000) [Nat.lt_irrefl])
      | (refine aw_cond rfl (fun h => ?_) (fun h => ?_) <;> try (with_reducible first | exact ff_tt h | exact tt_ff h))
      | refine aw_block ?_
      | refine aw_ret (ret_of (.inr rfl) (by simp [Try.results84]; rfl) (Fin.of ?_))
      | refine ret_of (.inl rfl) (by simp [Try.results84]; rfl) (Fin.of ?_))
    all_goals simp [tupOf, numN, numF, numK, fltK, doB, Nat.lt_irrefl]
  by_cases h3 : s = ⟨#[47]⟩
  · subst h3
    have hc := rtruth_ok true
    by_cases b0 : b = 0
    · subst b0
      rw [show doK ⟨#[47]⟩ = 3 by decide]
      refine apure_in Try.func84 Try.ntmps84 rfl ?_
      repeat' (first
        | refine aw_seq ?_
        | (refine aw_run [6] ?_; try simp -implicitDefEqProofs (maxSteps := 1000000) [Nat.lt_irrefl])
        | ((first | refine awl_skip' [6] rfl ?_ | refine awl_pure_guard [6] rfl rfl rfl (by first | assumption | kernel_rfl) rfl (fun hc => by first | exact hc | exact rtold_ok _ | exact rtruth_ok _) (by simp) (by simp) (by simp) ?_ | refine awl_pure' [6] rfl rfl rfl (by first | assumption | kernel_rfl) rfl (by first | exact hc | exact rtold_ok _ | exact rtruth_ok _) (by simp) (by simp) ?_ | refine aw_skip ?_ | refine aw_exit ?_); try simp -implicitDefEqProofs (maxSteps := 1000000) [Nat.lt_irrefl])
        | (refine aw_cond rfl (fun h => ?_) (fun h => ?_) <;> try (with_reducible first | exact ff_tt h | exact tt_ff h))
        | refine aw_block ?_
        | refine aw_ret (ret_of (.inr rfl) (by simp [Try.results84]; rfl) (Fin.of ?_))
        | refine ret_of (.inl rfl) (by simp [Try.results84]; rfl) (Fin.of ?_))
      all_goals simp [tupOf, numN, numF, numK, fltK, doB, Nat.lt_irrefl]
    · have hc := rdiv_ok ha hb b0
      rw [show doK ⟨#[47]⟩ = 3 by decide]
      refine apure_in Try.func84 Try.ntmps84 rfl ?_
      repeat' first | refine aw_N [6] @b0 (And.intro @hc (And.intro @rtold_ok (And.intro @rtruth_ok trivial))) ?_ | refine aw_cond rfl (fun h => ?_) (fun h => ?_)
      all_goals simp [tupOf, numN, numF, numK, fltK, doB, b0]
  by_cases h4 : s = ⟨#[60]⟩
  · subst h4
    have hc := rtruth_ok true
    rw [show doK ⟨#[60]⟩ = 4 by decide]
    refine apure_in Try.func84 Try.ntmps84 rfl ?_
    repeat' (first
      | refine aw_seq ?_
      | (refine aw_run [6] ?_; try simp -implicitDefEqProofs (maxSteps := 1000000) [Nat.lt_irrefl])
      | ((first | refine awl_skip' [6] rfl ?_ | refine awl_pure_guard [6] rfl rfl rfl (by first | assumption | kernel_rfl) rfl (fun hc => by first | exact hc | exact rtold_ok _ | exact rtruth_ok _) (by simp) (by simp) (by simp) ?_ | refine awl_pure' [6] rfl rfl rfl (by first | assumption | kernel_rfl) rfl (by first | exact hc | exact rtold_ok _ | exact rtruth_ok _) (by simp) (by simp) ?_ | refine aw_skip ?_ | refine aw_exit ?_); try simp -implicitDefEqProofs (maxSteps := 1000000) [Nat.lt_irrefl])
      | (refine aw_cond rfl (fun h => ?_) (fun h => ?_) <;> try (with_reducible first | exact ff_tt h | exact tt_ff h))
      | refine aw_block ?_
      | refine aw_ret (ret_of (.inr rfl) (by simp [Try.results84]; rfl) (Fin.of ?_))
      | refine ret_of (.inl rfl) (by simp [Try.results84]; rfl) (Fin.of ?_))
    all_goals simp [tupOf, numN, numF, numK, fltK, doB, Nat.lt_irrefl]
  by_cases h5 : s = ⟨#[60, 61]⟩
  · subst h5
    have hc := rtruth_ok true
    rw [show doK ⟨#[60, 61]⟩ = 5 by decide]
    refine apure_in Try.func84 Try.ntmps84 rfl ?_
    repeat' (first
      | refine aw_seq ?_
      | (refine aw_run [6] ?_; try simp -implicitDefEqProofs (maxSteps := 1000000) [Nat.lt_irrefl])
      | ((first | refine awl_skip' [6] rfl ?_ | refine awl_pure_guard [6] rfl rfl rfl (by first | assumption | kernel_rfl) rfl (fun hc => by first | exact hc | exact rtold_ok _ | exact rtruth_ok _) (by simp) (by simp) (by simp) ?_ | refine awl_pure' [6] rfl rfl rfl (by first | assumption | kernel_rfl) rfl (by first | exact hc | exact rtold_ok _ | exact rtruth_ok _) (by simp) (by simp) ?_ | refine aw_skip ?_ | refine aw_exit ?_); try simp -implicitDefEqProofs (maxSteps := 1000000) [Nat.lt_irrefl])
      | (refine aw_cond rfl (fun h => ?_) (fun h => ?_) <;> try (with_reducible first | exact ff_tt h | exact tt_ff h))
      | refine aw_block ?_
      | refine aw_ret (ret_of (.inr rfl) (by simp [Try.results84]; rfl) (Fin.of ?_))
      | refine ret_of (.inl rfl) (by simp [Try.results84]; rfl) (Fin.of ?_))
    all_goals simp [tupOf, numN, numF, numK, fltK, doB, Nat.lt_irrefl]
  by_cases h6 : s = ⟨#[61]⟩
  · subst h6
    have hc := rtruth_ok true
    rw [show doK ⟨#[61]⟩ = 6 by decide]
    refine apure_in Try.func84 Try.ntmps84 rfl ?_
    repeat' (first
      | refine aw_seq ?_
      | (refine aw_run [6] ?_; try simp -implicitDefEqProofs (maxSteps := 1000000) [Nat.lt_irrefl])
      | ((first | refine awl_skip' [6] rfl ?_ | refine awl_pure_guard [6] rfl rfl rfl (by first | assumption | kernel_rfl) rfl (fun hc => by first | exact hc | exact rtold_ok _ | exact rtruth_ok _) (by simp) (by simp) (by simp) ?_ | refine awl_pure' [6] rfl rfl rfl (by first | assumption | kernel_rfl) rfl (by first | exact hc | exact rtold_ok _ | exact rtruth_ok _) (by simp) (by simp) ?_ | refine aw_skip ?_ | refine aw_exit ?_); try simp -implicitDefEqProofs (maxSteps := 1000000) [Nat.lt_irrefl])
      | (refine aw_cond rfl (fun h => ?_) (fun h => ?_) <;> try (with_reducible first | exact ff_tt h | exact tt_ff h))
      | refine aw_block ?_
      | refine aw_ret (ret_of (.inr rfl) (by simp [Try.results84]; rfl) (Fin.of ?_))
      | refine ret_of (.inl rfl) (by simp [Try.results84]; rfl) (Fin.of ?_))
    all_goals simp [tupOf, numN, numF, numK, fltK, doB, Nat.lt_irrefl]
  by_cases h7 : s = ⟨#[60, 62]⟩
  · subst h7
    have hc := rtruth_ok true
    rw [show doK ⟨#[60, 62]⟩ = 7 by decide]
    refine apure_in Try.func84 Try.ntmps84 rfl ?_
    repeat' (first
      | refine aw_seq ?_
      | (refine aw_run [6] ?_; try simp -implicitDefEqProofs (maxSteps := 1000000) [Nat.lt_irrefl])
      | ((first | refine awl_skip' [6] rfl ?_ | refine awl_pure_guard [6] rfl rfl rfl (by first | assumption | kernel_rfl) rfl (fun hc => by first | exact hc | exact rtold_ok _ | exact rtruth_ok _) (by simp) (by simp) (by simp) ?_ | refine awl_pure' [6] rfl rfl rfl (by first | assumption | kernel_rfl) rfl (by first | exact hc | exact rtold_ok _ | exact rtruth_ok _) (by simp) (by simp) ?_ | refine aw_skip ?_ | refine aw_exit ?_); try simp -implicitDefEqProofs (maxSteps := 1000000) [Nat.lt_irrefl])
      | (refine aw_cond rfl (fun h => ?_) (fun h => ?_) <;> try (with_reducible first | exact ff_tt h | exact tt_ff h))
      | refine aw_block ?_
      | refine aw_ret (ret_of (.inr rfl) (by simp [Try.results84]; rfl) (Fin.of ?_))
      | refine ret_of (.inl rfl) (by simp [Try.results84]; rfl) (Fin.of ?_))
    all_goals simp [tupOf, numN, numF, numK, fltK, doB, Nat.lt_irrefl]
  by_cases h8 : s = ⟨#[62, 61]⟩
  · subst h8
    have hc := rtruth_ok true
    rw [show doK ⟨#[62, 61]⟩ = 8 by decide]
    refine apure_in Try.func84 Try.ntmps84 rfl ?_
    repeat' (first
      | refine aw_seq ?_
      | (refine aw_run [6] ?_; try simp -implicitDefEqProofs (maxSteps := 1000000) [Nat.lt_irrefl])
      | ((first | refine awl_skip' [6] rfl ?_ | refine awl_pure_guard [6] rfl rfl rfl (by first | assumption | kernel_rfl) rfl (fun hc => by first | exact hc | exact rtold_ok _ | exact rtruth_ok _) (by simp) (by simp) (by simp) ?_ | refine awl_pure' [6] rfl rfl rfl (by first | assumption | kernel_rfl) rfl (by first | exact hc | exact rtold_ok _ | exact rtruth_ok _) (by simp) (by simp) ?_ | refine aw_skip ?_ | refine aw_exit ?_); try simp -implicitDefEqProofs (maxSteps := 1000000) [Nat.lt_irrefl])
      | (refine aw_cond rfl (fun h => ?_) (fun h => ?_) <;> try (with_reducible first | exact ff_tt h | exact tt_ff h))
      | refine aw_block ?_
      | refine aw_ret (ret_of (.inr rfl) (by simp [Try.results84]; rfl) (Fin.of ?_))
      | refine ret_of (.inl rfl) (by simp [Try.results84]; rfl) (Fin.of ?_))
    all_goals simp [tupOf, numN, numF, numK, fltK, doB, Nat.lt_irrefl]
  by_cases h9 : s = ⟨#[62]⟩
  · subst h9
    have hc := rtruth_ok true
    rw [show doK ⟨#[62]⟩ = 9 by decide]
    refine apure_in Try.func84 Try.ntmps84 rfl ?_
    repeat' (first
      | refine aw_seq ?_
      | (refine aw_run [6] ?_; try simp -implicitDefEqProofs (maxSteps := 1000000) [Nat.lt_irrefl])
      | ((first | refine awl_skip' [6] rfl ?_ | refine awl_pure_guard [6] rfl rfl rfl (by first | assumption | kernel_rfl) rfl (fun hc => by first | exact hc | exact rtold_ok _ | exact rtruth_ok _) (by simp) (by simp) (by simp) ?_ | refine awl_pure' [6] rfl rfl rfl (by first | assumption | kernel_rfl) rfl (by first | exact hc | exact rtold_ok _ | exact rtruth_ok _) (by simp) (by simp) ?_ | refine aw_skip ?_ | refine aw_exit ?_); try simp -implicitDefEqProofs (maxSteps := 1000000) [Nat.lt_irrefl])
      | (refine aw_cond rfl (fun h => ?_) (fun h => ?_) <;> try (with_reducible first | exact ff_tt h | exact tt_ff h))
      | refine aw_block ?_
      | refine aw_ret (ret_of (.inr rfl) (by simp [Try.results84]; rfl) (Fin.of ?_))
      | refine ret_of (.inl rfl) (by simp [Try.results84]; rfl) (Fin.of ?_))
    all_goals simp [tupOf, numN, numF, numK, fltK, doB, Nat.lt_irrefl]
  have hk : doK s = 10 := by simp [doK, h0, h1, h2, h3, h4, h5, h6, h7, h8, h9]
  rw [hk]
  refine apure_in Try.func84 Try.ntmps84 rfl ?_
  repeat' first | refine aw_N [6] (And.intro @h0 (And.intro @h1 (And.intro @h2 (And.intro @h3 (And.intro @h4 (And.intro @h5 (And.intro @h6 (And.intro @h7 (And.intro @h8 @h9))))))))) trivial ?_ | refine aw_cond rfl (fun h => ?_) (fun h => ?_)
  all_goals simp [tupOf, numN, numF, doB]
set_option maxRecDepth 100000 in
theorem rdo_ok (s : ByteArray) (a fa b fb : Int) (ha : In64 a) (hb : In64 b) : APure Try.prog 60 [vs s, value a fa, value b fb] (.tup [value (doN (doK s) a fa b fb) (doF (doK s) a fa b fb), vb (doB (doK s))]) := by
  have hn := numbers_ok s a b ha hb
  cases hB : doB (doK s) with
  | false =>
    rw [hB] at hn
    have hk : doK s = 10 := by simpa [doB] using hB
    rw [hk] at hn ⊢
    refine apure_in Try.func60 Try.ntmps60 rfl ?_
    repeat' first | refine aw_N [6, 8] trivial (And.intro @hn trivial) ?_ | refine aw_cond rfl (fun h => ?_) (fun h => ?_)
    all_goals simp [tupOf, doN, doF, doB]
  | true =>
    rw [hB] at hn
    have hk : ¬ doK s = 10 := by simpa [doB] using hB
    refine apure_in Try.func60 Try.ntmps60 rfl ?_
    repeat' first | refine aw_N [6, 8] trivial (And.intro @hn trivial) ?_ | refine aw_cond rfl (fun h => ?_) (fun h => ?_)
    · simp at h
      simp [tupOf, doN, doF, hk, h]
    · rename_i h1
      simp at h h1
      simp [tupOf, doN, doF, hk, h, h1]
    · rename_i h1
      simp at h h1
      simp [tupOf, doN, doF, hk, h, h1, numN, numF]
theorem doK_minus : doK ⟨#[45]⟩ = 1 := by decide
theorem doK_plus : doK ⟨#[43]⟩ = 0 := by decide
def negN (a fa : Int) : Int := if fa = 0 then z (inI (-a)) (-a) else 0
def negFv (a fa : Int) : Int := if fa = 0 then z (!inI (-a)) 1 else fa
set_option maxRecDepth 100000 in
theorem rvneg_ok (a fa : Int) (ha : In64 a) : APure Try.prog 59 [value a fa] (value (negN a fa) (negFv a fa)) := by
  have hd := rdo_ok ⟨#[45]⟩ 0 0 a fa (by unfold In64; omega) ha
  rw [doK_minus] at hd
  refine apure_in Try.func59 Try.ntmps59 rfl ?_
  repeat' first | refine aw_N [2, 3] trivial (And.intro @hd trivial) ?_ | refine aw_cond rfl (fun h => ?_) (fun h => ?_)
  simp [tupOf, doN, doF, negN, negFv, numK, fltK]
end Go.AL
/-! Contracts: value.Sum, best, and gridironref03's. -/
namespace Go.AL
open Go.Proofs
set_option linter.unusedSimpArgs false
set_option linter.unusedVariables false
def vl (p : Int × Int) : AV := value p.1 p.2
@[simp] theorem cl_vl (p : Int × Int) : Cl (vl p) := by unfold vl; simp
@[simp] theorem vl_cells (p : Int × Int) : (vl p).cells.length = 2 := rfl
@[simp high] theorem cl_vls (l : List (Int × Int)) : Cl (.vsl (l.map vl)) := by
  simp [vl]; rintro _ _ _ _ rfl; simp
def addS (s v : Int × Int) : Int × Int := (doN 0 s.1 s.2 v.1 v.2, doF 0 s.1 s.2 v.1 v.2)
def sumL (l : List (Int × Int)) : Int × Int := l.foldl addS (0, 0)
theorem sumL_snoc (l : List (Int × Int)) (v : Int × Int) : sumL (l ++ [v]) = addS (sumL l) v := by simp [sumL]
theorem doN_in (k : Nat) (a fa b fb : Int) : In64 (doN 0 a fa b fb) := by
  unfold doN; split
  · unfold In64; omega
  · simp only [numK, if_true]
    cases h : inI (a + b) with
    | true => exact inI_iff.1 h
    | false => unfold In64; simp
theorem addS_fault (s v : Int × Int) : (addS s v).2 ≠ 0 → (addS s v).1 = 0 := by
  unfold addS doN doF
  intro h
  by_cases h1 : s.2 = 0 <;> by_cases h2 : v.2 = 0 <;> simp [h1, h2, numK, fltK] at h ⊢
  cases hi : inI (s.1 + v.1) <;> simp [hi] at h ⊢
theorem addS_stay {s v : Int × Int} (h : s.2 ≠ 0) (h0 : s.1 = 0) : addS s v = s := by
  obtain ⟨a, b⟩ := s
  simp at h h0
  subst h0
  simp [addS, doN, doF, h]
def SumOK (s : Int × Int) : Prop := In64 s.1 ∧ (s.2 ≠ 0 → s.1 = 0)
theorem sum_ok0 (l : List (Int × Int)) : ∀ s, SumOK s → SumOK (l.foldl addS s) := by
  induction l with
  | nil => exact fun s h => h
  | cons v l ih => exact fun s h => ih _ ⟨doN_in 0 _ _ _ _, addS_fault s v⟩
theorem sumL_ok (l : List (Int × Int)) : SumOK (sumL l) := sum_ok0 l _ ⟨by unfold In64; simp, by simp⟩
theorem fold_stay {s : Int × Int} (h : s.2 ≠ 0) (h0 : s.1 = 0) : ∀ l : List (Int × Int), l.foldl addS s = s
  | [] => rfl
  | v :: l => by rw [List.foldl_cons, addS_stay h h0]; exact fold_stay h h0 l
theorem sumL_stay {l : List (Int × Int)} {i : Nat} (h : (sumL (l.take i)).2 ≠ 0) : sumL l = sumL (l.take i) := by
  have e : sumL l = (l.drop i).foldl addS (sumL (l.take i)) := by
    unfold sumL; rw [← List.foldl_append, List.take_append_drop]
  rw [e]
  exact fold_stay h ((sumL_ok _).2 h) _
/-- The best so far. -/
def bstS (ah : Int → Int → Bool) (o v : Int × Int) : Int × Int := if ah v.1 o.1 = true then v else o
def bstF (ah : Int → Int → Bool) : List (Int × Int) → Int × Int
  | [] => (0, 0)
  | x :: xs => xs.foldl (bstS ah) x
def isFault (v : Int × Int) : Bool := !decide (v.2 = 0)
def bestV (ah : Int → Int → Bool) (l : List (Int × Int)) : Int × Int :=
  match l.find? isFault with
  | some v => (0, v.2)
  | none => bstF ah l
theorem bstF_snoc (ah : Int → Int → Bool) (l : List (Int × Int)) (v : Int × Int) : bstF ah (l ++ [v]) = if l = [] then v else bstS ah (bstF ah l) v := by
  cases l with
  | nil => rfl
  | cons x xs => simp [bstF]
def NoFault (l : List (Int × Int)) : Prop := ∀ v ∈ l, isFault v = false
def lowL (l : List (Int × Int)) : Int × Int := bestV (fun a b => decide (a < b)) l
def highL (l : List (Int × Int)) : Int × Int := bestV (fun a b => decide (b < a)) l
end Go.AL
/-! Contracts: gridironref03.Sum, Best. -/
namespace Go.AL
open Go.Proofs
set_option linter.unusedSimpArgs false
set_option linter.unusedVariables false
set_option maxHeartbeats 4000000 in
set_option maxRecDepth 100000 in
theorem rvsum_ok (l : List (Int × Int)) (hl : (l.length : Int) ≤ 9223372036854775807) (hin : ∀ v ∈ l, In64 v.1) : APure Try.prog 86 [.vsl (l.map vl)] (vl (sumL l)) := by
  refine apure_in Try.func86 Try.ntmps86 rfl ?_
  refine aw_seq (aw_run [2, 3, 5] ?_)
  simp -implicitDefEqProofs
  refine aw_seq (aw_run [2, 3, 5] ?_)
  simp -implicitDefEqProofs
  refine aw_seq (aw_seq (aw_run [2, 3, 5] ?_))
  simp -implicitDefEqProofs
  refine aw_block (aw_loopW [0, 2, 3, 4] (fun n fr σ => ∃ i m : Nat, i + n = l.length ∧ 2 ≤ m ∧ σ = mkSt [(0, [vi 0, vi 0]), (1, [vi (sumL (l.take i)).1, vi (sumL (l.take i)).2])] [] m ∧ fr = frm 29 [(0, .vsl (l.map vl)), (2, .ptr 0 0), (3, .ptr 1 0), (4, vi (i : Nat))]) l.length ?_ ?_)
  · refine ⟨mkSt [(0, [vi 0, vi 0]), (1, [vi 0, vi 0])] [] 2, le_mkSt (by simp [σ0]) (by simp) (by simp [σ0]), 0, 2, by omega, by omega, ?_, by simp⟩
    simp [sumL]
  · rintro n fr σ ⟨i, m, hi, hm, rfl, rfl⟩
    simp
    have hm0 : ¬ 0 = m := by omega
    have hm1 : ¬ 1 = m := by omega
    refine aw_seq (aw_seq (aw_run [2, 3, 5] ?_))
    simp -implicitDefEqProofs [List.lookup]
    refine aw_cond rfl (fun h => aw_skip ?_) (fun h => aw_exit ?_)
    · have hlt : i < l.length := by simp at h; omega
      obtain ⟨x, hx⟩ : ∃ x, l[i]? = some x := ⟨l[i], by simp [hlt]⟩
      have hxm := List.mem_of_getElem? hx
      have hnx : IntKind.i64.wrap ((i : Int) + 1) = ((i + 1 : Nat) : Int) := by rw [wrap_id (by omega) (by omega)]; simp
      have hs := sumL_ok (l.take i)
      have hd := rdo_ok ⟨#[43]⟩ (sumL (l.take i)).1 (sumL (l.take i)).2 x.1 x.2 hs.1 (hin x hxm)
      rw [doK_plus] at hd
      have he : sumL (l.take (i + 1)) = addS (sumL (l.take i)) x := by rw [List.take_add_one, hx]; exact sumL_snoc _ _
      simp -implicitDefEqProofs [List.lookup]
      refine aw_seq (aw_block (aw_seq ?_))
      refine aw_draw2' 9 10 ((mkSt [(0, [vi 0, vi 0]), (1, [vi (sumL (l.take i)).1, vi (sumL (l.take i)).2])] [] m).addBx [vi 0, vi 0]) { (mkSt [(0, [vi 0, vi 0]), (1, [vi (sumL (l.take i)).1, vi (sumL (l.take i)).2])] [] m).addBx [vi 0, vi 0] with bx := upd ((mkSt [(0, [vi 0, vi 0]), (1, [vi (sumL (l.take i)).1, vi (sumL (l.take i)).2])] [] m).addBx [vi 0, vi 0]).bx m (some [vi (doN 0 (sumL (l.take i)).1 (sumL (l.take i)).2 x.1 x.2), vi (doF 0 (sumL (l.take i)).1 (sumL (l.take i)).2 x.1 x.2)]) } draws (by decide +kernel) ?_
      simp -implicitDefEqProofs [List.lookup, hm0, hm1, hx, vl]
      refine yl2_pure (by decide) (by decide) rfl rfl rfl (by kernel_rfl) rfl hd (by simp) (by simp) ?_
      simp -implicitDefEqProofs [List.lookup, hm0, hm1, hx, vl]
      refine yl2_alloc rfl rfl tz41 rfl ?_
      simp -implicitDefEqProofs [List.lookup, hm0, hm1, hx, vl]
      refine yl2_store rfl rfl (by simp [upd]) ?_
      simp -implicitDefEqProofs [List.lookup, hm0, hm1, hx, vl]
      repeat' (first
        | refine aw_seq ?_
        | ((first | refine aw_run [2, 3, 5] ?_ | refine aw_ymix [2, 3, 5] draws (by decide +kernel) ?_); try simp -implicitDefEqProofs (maxSteps := 1000000) [List.lookup, hm0, hm1, hx, vl])
        | ((first | refine aw_zrun [2, 3, 5] [] draws (by decide +kernel) (by decide +kernel) ?_ | refine zl_skip (by simp) rfl ?_ | refine zl_pure_guard (by simp) rfl rfl rfl (by first | assumption | kernel_rfl) rfl (fun hc => by first | exact hd) (by simp) (by simp) (by simp) ?_ | refine zl_pure (by simp) rfl rfl rfl (by first | assumption | kernel_rfl) rfl (by first | exact hd) (by simp) (by simp) ?_); try simp -implicitDefEqProofs (maxSteps := 1000000) [List.lookup, hm0, hm1, hx, vl]; repeat first | refine zcurL (by decide +kernel) ?_ | refine zcurH (by decide +kernel) ?_ | refine zcurL' (by decide +kernel) ?_ | refine zcurH' (by decide +kernel) ?_)
        | ((first | refine aw_yrun draws (by kernel_rfl) ?_ | refine awl_skip' [2, 3, 5] rfl ?_ | refine yl_skip rfl ?_ | refine awl_pure_guard [2, 3, 5] rfl rfl rfl (by first | assumption | kernel_rfl) rfl (fun hc => by first | exact hd) (by simp) (by simp) (by simp) ?_ | refine yl_pureG rfl rfl rfl (by first | assumption | kernel_rfl) rfl (fun hc => by first | exact hd) (by simp) (by simp) (by simp) ?_ | refine awl_pure' [2, 3, 5] rfl rfl rfl (by first | assumption | kernel_rfl) rfl (by first | exact hd) (by simp) (by simp) ?_ | refine yl_pure rfl rfl rfl (by first | assumption | kernel_rfl) rfl (by first | exact hd) (by simp) (by simp) ?_ | refine aw_skip ?_ | refine aw_exit ?_); try simp -implicitDefEqProofs (maxSteps := 1000000) [List.lookup, hm0, hm1, hx, vl])
        | (refine aw_cond rfl (fun h => ?_) (fun h => ?_) <;> try (with_reducible first | exact ff_tt h | exact tt_ff h))
        | refine aw_block ?_
        | refine aw_ret (ret_of (.inr rfl) (by simp [Try.results86]; rfl) (Fin.of ?_))
        | refine ret_of (.inl rfl) (by simp [Try.results86]; rfl) (Fin.of ?_))
      · simp at h
        have hf : (sumL (l.take (i + 1))).2 ≠ 0 := by rw [he]; exact h
        rw [sumL_stay hf, he]
        rfl
      · refine ⟨n - 1, by omega, mkSt [(0, [vi 0, vi 0]), (1, [vi (sumL (l.take (i + 1))).1, vi (sumL (l.take (i + 1))).2])] [] (m + 1), le_mkSt (by simp [List.lookup, hm0, hm1, he, addS]) (by simp) (by simp), i + 1, by omega, m + 1, by omega, rfl, by simp [hnx]⟩
    · have hi2 : i = l.length := by simp at h; omega
      subst hi2
      simp -implicitDefEqProofs [List.lookup]
      repeat' (first
        | refine aw_seq ?_
        | ((first | refine aw_run [2, 3, 5] ?_ | refine aw_ymix [2, 3, 5] draws (by decide +kernel) ?_); try simp -implicitDefEqProofs (maxSteps := 1000000) [List.lookup])
        | ((first | refine aw_zrun [2, 3, 5] [] draws (by decide +kernel) (by decide +kernel) ?_ | refine zl_skip (by simp) rfl ?_); try simp -implicitDefEqProofs (maxSteps := 1000000) [List.lookup]; repeat first | refine zcurL (by decide +kernel) ?_ | refine zcurH (by decide +kernel) ?_ | refine zcurL' (by decide +kernel) ?_ | refine zcurH' (by decide +kernel) ?_)
        | ((first | refine aw_yrun draws (by kernel_rfl) ?_ | refine awl_skip' [2, 3, 5] rfl ?_ | refine yl_skip rfl ?_ | refine aw_skip ?_ | refine aw_exit ?_); try simp -implicitDefEqProofs (maxSteps := 1000000) [List.lookup])
        | (refine aw_cond rfl (fun h => ?_) (fun h => ?_) <;> try (with_reducible first | exact ff_tt h | exact tt_ff h))
        | refine aw_block ?_
        | refine aw_ret (ret_of (.inr rfl) (by simp [Try.results86]; rfl) (Fin.of ?_))
        | refine ret_of (.inl rfl) (by simp [Try.results86]; rfl) (Fin.of ?_))
      rfl
def ahG (gt : Bool) (a b : Int) : Bool := if gt = true then decide (b < a) else decide (a < b)
set_option maxHeartbeats 4000000 in
set_option maxRecDepth 100000 in
theorem rbest_ok (gt : Bool) (l : List (Int × Int)) (hl : (l.length : Int) ≤ 9223372036854775807) : APure Try.prog 87 [.vsl (l.map vl), vb gt] (vl (bestV (ahG gt) l)) := by
  cases gt with
  | true =>
    refine apure_in Try.func87 Try.ntmps87 rfl ?_
    refine aw_seq (aw_run [4, 5] ?_)
    simp -implicitDefEqProofs
    refine aw_seq (aw_run [4, 5] ?_)
    simp -implicitDefEqProofs
    refine aw_seq (aw_seq (aw_run [4, 5] ?_))
    simp -implicitDefEqProofs
    refine aw_block (aw_loopW [0, 1, 4, 5, 6] (fun n fr σ => ∃ i m : Nat, i + n = l.length ∧ 2 ≤ m ∧ NoFault (l.take i) ∧ σ = mkSt [(0, [vi 0, vi 0]), (1, [vi (bstF (ahG true) (l.take i)).1, vi (bstF (ahG true) (l.take i)).2])] [] m ∧ fr = frm 60 [(0, .vsl (l.map vl)), (1, vb true), (4, .ptr 0 0), (5, .ptr 1 0), (6, vi (i : Nat))]) l.length ?_ ?_)
    · refine ⟨mkSt [(0, [vi 0, vi 0]), (1, [vi 0, vi 0])] [] 2, le_mkSt (by simp [σ0]) (by simp) (by simp [σ0]), 0, 2, by omega, by omega, by simp [NoFault], ?_, by simp⟩
      simp [bstF]
    · rintro n fr σ ⟨i, m, hi, hm, hnf, rfl, rfl⟩
      simp
      refine aw_seq (aw_seq (aw_run [4, 5] ?_))
      simp -implicitDefEqProofs [List.lookup]
      refine aw_cond rfl (fun h => aw_skip ?_) (fun h => aw_exit ?_)
      · have hlt : i < l.length := by simp at h; omega
        obtain ⟨x, hx⟩ : ∃ x, l[i]? = some x := ⟨l[i], by simp [hlt]⟩
        have hnx : IntKind.i64.wrap ((i : Int) + 1) = ((i + 1 : Nat) : Int) := by rw [wrap_id (by omega) (by omega)]; simp
        have he : l.take (i + 1) = l.take i ++ [x] := by rw [List.take_add_one, hx]; rfl
        simp -implicitDefEqProofs [List.lookup]
        by_cases hxf : x.2 = 0
        · have hnf2 : NoFault (l.take (i + 1)) := by
            intro v hv
            rw [he, List.mem_append] at hv
            rcases hv with hv | hv
            · exact hnf v hv
            · obtain rfl : v = x := by simpa using hv
              simp [isFault, hxf]
          by_cases hi0 : i = 0
          · subst hi0
            repeat' (first
              | refine aw_seq ?_
              | ((first | refine aw_run [4, 5] ?_ | refine aw_ymix [4, 5] draws (by decide +kernel) ?_); try simp -implicitDefEqProofs (maxSteps := 1000000) [List.lookup, hx, hxf, vl])
              | ((first | refine aw_zrun [4, 5] [] draws (by decide +kernel) (by decide +kernel) ?_ | refine zl_skip (by simp) rfl ?_); try simp -implicitDefEqProofs (maxSteps := 1000000) [List.lookup, hx, hxf, vl]; repeat first | refine zcurL (by decide +kernel) ?_ | refine zcurH (by decide +kernel) ?_ | refine zcurL' (by decide +kernel) ?_ | refine zcurH' (by decide +kernel) ?_)
              | ((first | refine aw_yrun draws (by kernel_rfl) ?_ | refine awl_skip' [4, 5] rfl ?_ | refine yl_skip rfl ?_ | refine aw_skip ?_ | refine aw_exit ?_); try simp -implicitDefEqProofs (maxSteps := 1000000) [List.lookup, hx, hxf, vl])
              | (refine aw_cond rfl (fun h => ?_) (fun h => ?_) <;> try (with_reducible first | exact ff_tt h | exact tt_ff h))
              | refine aw_block ?_
              | refine aw_ret (ret_of (.inr rfl) (by simp [Try.results87]; rfl) (Fin.of ?_))
              | refine ret_of (.inl rfl) (by simp [Try.results87]; rfl) (Fin.of ?_))
            have hb0 : bstF (ahG true) (l.take (0 + 1)) = x := by rw [he]; rfl
            exact ⟨n - 1, by omega, mkSt [(0, [vi 0, vi 0]), (1, [vi (bstF (ahG true) (l.take (0 + 1))).1, vi (bstF (ahG true) (l.take (0 + 1))).2])] [] m, le_mkSt (by rw [hb0]; simp [List.lookup, hxf]) (by simp) (by simp), 0 + 1, by omega, m, by omega, hnf2, rfl, by simpa using hnx⟩
          · have hne : l.take i ≠ [] := by
              intro e
              have := congrArg List.length e
              rw [List.length_take, List.length_nil] at this
              omega
            have hbs : bstF (ahG true) (l.take (i + 1)) = bstS (ahG true) (bstF (ahG true) (l.take i)) x := by rw [he, bstF_snoc, if_neg hne]
            have hi1 : ¬ (i : Int) = 0 := by omega
            by_cases ha : (bstF (ahG true) (l.take i)).1 < x.1
            · have ha' : ahG true x.1 (bstF (ahG true) (l.take i)).1 = true := by simp [ahG, ha]
              repeat' (first
                | refine aw_seq ?_
                | ((first | refine aw_run [4, 5] ?_ | refine aw_ymix [4, 5] draws (by decide +kernel) ?_); try simp -implicitDefEqProofs (maxSteps := 1000000) [List.lookup, hx, hxf, hi0, hi1, vl, ha])
                | ((first | refine aw_zrun [4, 5] [] draws (by decide +kernel) (by decide +kernel) ?_ | refine zl_skip (by simp) rfl ?_); try simp -implicitDefEqProofs (maxSteps := 1000000) [List.lookup, hx, hxf, hi0, hi1, vl, ha]; repeat first | refine zcurL (by decide +kernel) ?_ | refine zcurH (by decide +kernel) ?_ | refine zcurL' (by decide +kernel) ?_ | refine zcurH' (by decide +kernel) ?_)
                | ((first | refine aw_yrun draws (by kernel_rfl) ?_ | refine awl_skip' [4, 5] rfl ?_ | refine yl_skip rfl ?_ | refine aw_skip ?_ | refine aw_exit ?_); try simp -implicitDefEqProofs (maxSteps := 1000000) [List.lookup, hx, hxf, hi0, hi1, vl, ha])
                | (refine aw_cond rfl (fun h => ?_) (fun h => ?_) <;> try (with_reducible first | exact ff_tt h | exact tt_ff h))
                | refine aw_block ?_
                | refine aw_ret (ret_of (.inr rfl) (by simp [Try.results87]; rfl) (Fin.of ?_))
                | refine ret_of (.inl rfl) (by simp [Try.results87]; rfl) (Fin.of ?_))
              have hb0 : bstF (ahG true) (l.take (i + 1)) = x := by rw [hbs, bstS, if_pos ha']
              exact ⟨n - 1, by omega, mkSt [(0, [vi 0, vi 0]), (1, [vi (bstF (ahG true) (l.take (i + 1))).1, vi (bstF (ahG true) (l.take (i + 1))).2])] [] m, le_mkSt (by rw [hb0]; simp [List.lookup, hxf]) (by simp) (by simp), i + 1, by omega, m, by omega, hnf2, rfl, by simp [hnx]⟩
            · have ha' : ahG true x.1 (bstF (ahG true) (l.take i)).1 = false := by simp [ahG, ha]
              repeat' (first
                | refine aw_seq ?_
                | ((first | refine aw_run [4, 5] ?_ | refine aw_ymix [4, 5] draws (by decide +kernel) ?_); try simp -implicitDefEqProofs (maxSteps := 1000000) [List.lookup, hx, hxf, hi0, hi1, vl, ha])
                | ((first | refine aw_zrun [4, 5] [] draws (by decide +kernel) (by decide +kernel) ?_ | refine zl_skip (by simp) rfl ?_); try simp -implicitDefEqProofs (maxSteps := 1000000) [List.lookup, hx, hxf, hi0, hi1, vl, ha]; repeat first | refine zcurL (by decide +kernel) ?_ | refine zcurH (by decide +kernel) ?_ | refine zcurL' (by decide +kernel) ?_ | refine zcurH' (by decide +kernel) ?_)
                | ((first | refine aw_yrun draws (by kernel_rfl) ?_ | refine awl_skip' [4, 5] rfl ?_ | refine yl_skip rfl ?_ | refine aw_skip ?_ | refine aw_exit ?_); try simp -implicitDefEqProofs (maxSteps := 1000000) [List.lookup, hx, hxf, hi0, hi1, vl, ha])
                | (refine aw_cond rfl (fun h => ?_) (fun h => ?_) <;> try (with_reducible first | exact ff_tt h | exact tt_ff h))
                | refine aw_block ?_
                | refine aw_ret (ret_of (.inr rfl) (by simp [Try.results87]; rfl) (Fin.of ?_))
                | refine ret_of (.inl rfl) (by simp [Try.results87]; rfl) (Fin.of ?_))
              have hb0 : bstF (ahG true) (l.take (i + 1)) = bstF (ahG true) (l.take i) := by rw [hbs, bstS, if_neg (by simp [ha'])]
              exact ⟨n - 1, by omega, mkSt [(0, [vi 0, vi 0]), (1, [vi (bstF (ahG true) (l.take (i + 1))).1, vi (bstF (ahG true) (l.take (i + 1))).2])] [] m, le_mkSt (by rw [hb0]; simp [List.lookup]) (by simp) (by simp), i + 1, by omega, m, by omega, hnf2, rfl, by simp [hnx]⟩
        · repeat' (first
            | refine aw_seq ?_
            | ((first | refine aw_run [4, 5] ?_ | refine aw_ymix [4, 5] draws (by decide +kernel) ?_); try simp -implicitDefEqProofs (maxSteps := 1000000) [List.lookup, hx, hxf, vl])
            | ((first | refine aw_zrun [4, 5] [] draws (by decide +kernel) (by decide +kernel) ?_ | refine zl_skip (by simp) rfl ?_); try simp -implicitDefEqProofs (maxSteps := 1000000) [List.lookup, hx, hxf, vl]; repeat first | refine zcurL (by decide +kernel) ?_ | refine zcurH (by decide +kernel) ?_ | refine zcurL' (by decide +kernel) ?_ | refine zcurH' (by decide +kernel) ?_)
            | ((first | refine aw_yrun draws (by kernel_rfl) ?_ | refine awl_skip' [4, 5] rfl ?_ | refine yl_skip rfl ?_ | refine aw_skip ?_ | refine aw_exit ?_); try simp -implicitDefEqProofs (maxSteps := 1000000) [List.lookup, hx, hxf, vl])
            | (refine aw_cond rfl (fun h => ?_) (fun h => ?_) <;> try (with_reducible first | exact ff_tt h | exact tt_ff h))
            | refine aw_block ?_
            | refine aw_ret (ret_of (.inr rfl) (by simp [Try.results87]; rfl) (Fin.of ?_))
            | refine ret_of (.inl rfl) (by simp [Try.results87]; rfl) (Fin.of ?_))
          have hfd : l.find? isFault = some x := by
            have e : l = l.take i ++ x :: l.drop (i + 1) := by
              have h1 := (List.take_append_drop i l).symm
              rw [List.drop_eq_getElem_cons hlt] at h1
              have h2 : l[i] = x := (List.getElem?_eq_some_iff.1 hx).2
              rwa [h2] at h1
            rw [e, List.find?_append, List.find?_eq_none.2 (fun v hv => by simp [hnf v hv])]
            simp [isFault, hxf]
          simp [tupOf, bestV, hfd, vl]
      · have hi2 : i = l.length := by simp at h; omega
        subst hi2
        simp -implicitDefEqProofs [List.lookup]
        repeat' (first
          | refine aw_seq ?_
          | ((first | refine aw_run [4, 5] ?_ | refine aw_ymix [4, 5] draws (by decide +kernel) ?_); try simp -implicitDefEqProofs (maxSteps := 1000000) [List.lookup])
          | ((first | refine aw_zrun [4, 5] [] draws (by decide +kernel) (by decide +kernel) ?_ | refine zl_skip (by simp) rfl ?_); try simp -implicitDefEqProofs (maxSteps := 1000000) [List.lookup]; repeat first | refine zcurL (by decide +kernel) ?_ | refine zcurH (by decide +kernel) ?_ | refine zcurL' (by decide +kernel) ?_ | refine zcurH' (by decide +kernel) ?_)
          | ((first | refine aw_yrun draws (by kernel_rfl) ?_ | refine awl_skip' [4, 5] rfl ?_ | refine yl_skip rfl ?_ | refine aw_skip ?_ | refine aw_exit ?_); try simp -implicitDefEqProofs (maxSteps := 1000000) [List.lookup])
          | (refine aw_cond rfl (fun h => ?_) (fun h => ?_) <;> try (with_reducible first | exact ff_tt h | exact tt_ff h))
          | refine aw_block ?_
          | refine aw_ret (ret_of (.inr rfl) (by simp [Try.results87]; rfl) (Fin.of ?_))
          | refine ret_of (.inl rfl) (by simp [Try.results87]; rfl) (Fin.of ?_))
        have hnf : NoFault l := by rwa [List.take_of_length_le (Nat.le_refl _)] at hnf
        have hfd : l.find? isFault = none := List.find?_eq_none.2 (fun v hv => by simp [hnf v hv])
        simp [tupOf, bestV, hfd, vl]
  | false =>
    refine apure_in Try.func87 Try.ntmps87 rfl ?_
    refine aw_seq (aw_run [4, 5] ?_)
    simp -implicitDefEqProofs
    refine aw_seq (aw_run [4, 5] ?_)
    simp -implicitDefEqProofs
    refine aw_seq (aw_seq (aw_run [4, 5] ?_))
    simp -implicitDefEqProofs
    refine aw_block (aw_loopW [0, 1, 4, 5, 6] (fun n fr σ => ∃ i m : Nat, i + n = l.length ∧ 2 ≤ m ∧ NoFault (l.take i) ∧ σ = mkSt [(0, [vi 0, vi 0]), (1, [vi (bstF (ahG false) (l.take i)).1, vi (bstF (ahG false) (l.take i)).2])] [] m ∧ fr = frm 60 [(0, .vsl (l.map vl)), (1, vb false), (4, .ptr 0 0), (5, .ptr 1 0), (6, vi (i : Nat))]) l.length ?_ ?_)
    · refine ⟨mkSt [(0, [vi 0, vi 0]), (1, [vi 0, vi 0])] [] 2, le_mkSt (by simp [σ0]) (by simp) (by simp [σ0]), 0, 2, by omega, by omega, by simp [NoFault], ?_, by simp⟩
      simp [bstF]
    · rintro n fr σ ⟨i, m, hi, hm, hnf, rfl, rfl⟩
      simp
      refine aw_seq (aw_seq (aw_run [4, 5] ?_))
      simp -implicitDefEqProofs [List.lookup]
      refine aw_cond rfl (fun h => aw_skip ?_) (fun h => aw_exit ?_)
      · have hlt : i < l.length := by simp at h; omega
        obtain ⟨x, hx⟩ : ∃ x, l[i]? = some x := ⟨l[i], by simp [hlt]⟩
        have hnx : IntKind.i64.wrap ((i : Int) + 1) = ((i + 1 : Nat) : Int) := by rw [wrap_id (by omega) (by omega)]; simp
        have he : l.take (i + 1) = l.take i ++ [x] := by rw [List.take_add_one, hx]; rfl
        simp -implicitDefEqProofs [List.lookup]
        by_cases hxf : x.2 = 0
        · have hnf2 : NoFault (l.take (i + 1)) := by
            intro v hv
            rw [he, List.mem_append] at hv
            rcases hv with hv | hv
            · exact hnf v hv
            · obtain rfl : v = x := by simpa using hv
              simp [isFault, hxf]
          by_cases hi0 : i = 0
          · subst hi0
            repeat' (first
              | refine aw_seq ?_
              | ((first | refine aw_run [4, 5] ?_ | refine aw_ymix [4, 5] draws (by decide +kernel) ?_); try simp -implicitDefEqProofs (maxSteps := 1000000) [List.lookup, hx, hxf, vl])
              | ((first | refine aw_zrun [4, 5] [] draws (by decide +kernel) (by decide +kernel) ?_ | refine zl_skip (by simp) rfl ?_); try simp -implicitDefEqProofs (maxSteps := 1000000) [List.lookup, hx, hxf, vl]; repeat first | refine zcurL (by decide +kernel) ?_ | refine zcurH (by decide +kernel) ?_ | refine zcurL' (by decide +kernel) ?_ | refine zcurH' (by decide +kernel) ?_)
              | ((first | refine aw_yrun draws (by kernel_rfl) ?_ | refine awl_skip' [4, 5] rfl ?_ | refine yl_skip rfl ?_ | refine aw_skip ?_ | refine aw_exit ?_); try simp -implicitDefEqProofs (maxSteps := 1000000) [List.lookup, hx, hxf, vl])
              | (refine aw_cond rfl (fun h => ?_) (fun h => ?_) <;> try (with_reducible first | exact ff_tt h | exact tt_ff h))
              | refine aw_block ?_
              | refine aw_ret (ret_of (.inr rfl) (by simp [Try.results87]; rfl) (Fin.of ?_))
              | refine ret_of (.inl rfl) (by simp [Try.results87]; rfl) (Fin.of ?_))
            have hb0 : bstF (ahG false) (l.take (0 + 1)) = x := by rw [he]; rfl
            exact ⟨n - 1, by omega, mkSt [(0, [vi 0, vi 0]), (1, [vi (bstF (ahG false) (l.take (0 + 1))).1, vi (bstF (ahG false) (l.take (0 + 1))).2])] [] m, le_mkSt (by rw [hb0]; simp [List.lookup, hxf]) (by simp) (by simp), 0 + 1, by omega, m, by omega, hnf2, rfl, by simpa using hnx⟩
          · have hne : l.take i ≠ [] := by
              intro e
              have := congrArg List.length e
              rw [List.length_take, List.length_nil] at this
              omega
            have hbs : bstF (ahG false) (l.take (i + 1)) = bstS (ahG false) (bstF (ahG false) (l.take i)) x := by rw [he, bstF_snoc, if_neg hne]
            have hi1 : ¬ (i : Int) = 0 := by omega
            by_cases ha : x.1 < (bstF (ahG false) (l.take i)).1
            · have ha' : ahG false x.1 (bstF (ahG false) (l.take i)).1 = true := by simp [ahG, ha]
              repeat' (first
                | refine aw_seq ?_
                | ((first | refine aw_run [4, 5] ?_ | refine aw_ymix [4, 5] draws (by decide +kernel) ?_); try simp -implicitDefEqProofs (maxSteps := 1000000) [List.lookup, hx, hxf, hi0, hi1, vl, ha])
                | ((first | refine aw_zrun [4, 5] [] draws (by decide +kernel) (by decide +kernel) ?_ | refine zl_skip (by simp) rfl ?_); try simp -implicitDefEqProofs (maxSteps := 1000000) [List.lookup, hx, hxf, hi0, hi1, vl, ha]; repeat first | refine zcurL (by decide +kernel) ?_ | refine zcurH (by decide +kernel) ?_ | refine zcurL' (by decide +kernel) ?_ | refine zcurH' (by decide +kernel) ?_)
                | ((first | refine aw_yrun draws (by kernel_rfl) ?_ | refine awl_skip' [4, 5] rfl ?_ | refine yl_skip rfl ?_ | refine aw_skip ?_ | refine aw_exit ?_); try simp -implicitDefEqProofs (maxSteps := 1000000) [List.lookup, hx, hxf, hi0, hi1, vl, ha])
                | (refine aw_cond rfl (fun h => ?_) (fun h => ?_) <;> try (with_reducible first | exact ff_tt h | exact tt_ff h))
                | refine aw_block ?_
                | refine aw_ret (ret_of (.inr rfl) (by simp [Try.results87]; rfl) (Fin.of ?_))
                | refine ret_of (.inl rfl) (by simp [Try.results87]; rfl) (Fin.of ?_))
              have hb0 : bstF (ahG false) (l.take (i + 1)) = x := by rw [hbs, bstS, if_pos ha']
              exact ⟨n - 1, by omega, mkSt [(0, [vi 0, vi 0]), (1, [vi (bstF (ahG false) (l.take (i + 1))).1, vi (bstF (ahG false) (l.take (i + 1))).2])] [] m, le_mkSt (by rw [hb0]; simp [List.lookup, hxf]) (by simp) (by simp), i + 1, by omega, m, by omega, hnf2, rfl, by simp [hnx]⟩
            · have ha' : ahG false x.1 (bstF (ahG false) (l.take i)).1 = false := by simp [ahG, ha]
              repeat' (first
                | refine aw_seq ?_
                | ((first | refine aw_run [4, 5] ?_ | refine aw_ymix [4, 5] draws (by decide +kernel) ?_); try simp -implicitDefEqProofs (maxSteps := 1000000) [List.lookup, hx, hxf, hi0, hi1, vl, ha])
                | ((first | refine aw_zrun [4, 5] [] draws (by decide +kernel) (by decide +kernel) ?_ | refine zl_skip (by simp) rfl ?_); try simp -implicitDefEqProofs (maxSteps := 1000000) [List.lookup, hx, hxf, hi0, hi1, vl, ha]; repeat first | refine zcurL (by decide +kernel) ?_ | refine zcurH (by decide +kernel) ?_ | refine zcurL' (by decide +kernel) ?_ | refine zcurH' (by decide +kernel) ?_)
                | ((first | refine aw_yrun draws (by kernel_rfl) ?_ | refine awl_skip' [4, 5] rfl ?_ | refine yl_skip rfl ?_ | refine aw_skip ?_ | refine aw_exit ?_); try simp -implicitDefEqProofs (maxSteps := 1000000) [List.lookup, hx, hxf, hi0, hi1, vl, ha])
                | (refine aw_cond rfl (fun h => ?_) (fun h => ?_) <;> try (with_reducible first | exact ff_tt h | exact tt_ff h))
                | refine aw_block ?_
                | refine aw_ret (ret_of (.inr rfl) (by simp [Try.results87]; rfl) (Fin.of ?_))
                | refine ret_of (.inl rfl) (by simp [Try.results87]; rfl) (Fin.of ?_))
              have hb0 : bstF (ahG false) (l.take (i + 1)) = bstF (ahG false) (l.take i) := by rw [hbs, bstS, if_neg (by simp [ha'])]
              exact ⟨n - 1, by omega, mkSt [(0, [vi 0, vi 0]), (1, [vi (bstF (ahG false) (l.take (i + 1))).1, vi (bstF (ahG false) (l.take (i + 1))).2])] [] m, le_mkSt (by rw [hb0]; simp [List.lookup]) (by simp) (by simp), i + 1, by omega, m, by omega, hnf2, rfl, by simp [hnx]⟩
        · repeat' (first
            | refine aw_seq ?_
            | ((first | refine aw_run [4, 5] ?_ | refine aw_ymix [4, 5] draws (by decide +kernel) ?_); try simp -implicitDefEqProofs (maxSteps := 1000000) [List.lookup, hx, hxf, vl])
            | ((first | refine aw_zrun [4, 5] [] draws (by decide +kernel) (by decide +kernel) ?_ | refine zl_skip (by simp) rfl ?_); try simp -implicitDefEqProofs (maxSteps := 1000000) [List.lookup, hx, hxf, vl]; repeat first | refine zcurL (by decide +kernel) ?_ | refine zcurH (by decide +kernel) ?_ | refine zcurL' (by decide +kernel) ?_ | refine zcurH' (by decide +kernel) ?_)
            | ((first | refine aw_yrun draws (by kernel_rfl) ?_ | refine awl_skip' [4, 5] rfl ?_ | refine yl_skip rfl ?_ | refine aw_skip ?_ | refine aw_exit ?_); try simp -implicitDefEqProofs (maxSteps := 1000000) [List.lookup, hx, hxf, vl])
            | (refine aw_cond rfl (fun h => ?_) (fun h => ?_) <;> try (with_reducible first | exact ff_tt h | exact tt_ff h))
            | refine aw_block ?_
            | refine aw_ret (ret_of (.inr rfl) (by simp [Try.results87]; rfl) (Fin.of ?_))
            | refine ret_of (.inl rfl) (by simp [Try.results87]; rfl) (Fin.of ?_))
          have hfd : l.find? isFault = some x := by
            have e : l = l.take i ++ x :: l.drop (i + 1) := by
              have h1 := (List.take_append_drop i l).symm
              rw [List.drop_eq_getElem_cons hlt] at h1
              have h2 : l[i] = x := (List.getElem?_eq_some_iff.1 hx).2
              rwa [h2] at h1
            rw [e, List.find?_append, List.find?_eq_none.2 (fun v hv => by simp [hnf v hv])]
            simp [isFault, hxf]
          simp [tupOf, bestV, hfd, vl]
      · have hi2 : i = l.length := by simp at h; omega
        subst hi2
        simp -implicitDefEqProofs [List.lookup]
        repeat' (first
          | refine aw_seq ?_
          | ((first | refine aw_run [4, 5] ?_ | refine aw_ymix [4, 5] draws (by decide +kernel) ?_); try simp -implicitDefEqProofs (maxSteps := 1000000) [List.lookup])
          | ((first | refine aw_zrun [4, 5] [] draws (by decide +kernel) (by decide +kernel) ?_ | refine zl_skip (by simp) rfl ?_); try simp -implicitDefEqProofs (maxSteps := 1000000) [List.lookup]; repeat first | refine zcurL (by decide +kernel) ?_ | refine zcurH (by decide +kernel) ?_ | refine zcurL' (by decide +kernel) ?_ | refine zcurH' (by decide +kernel) ?_)
          | ((first | refine aw_yrun draws (by kernel_rfl) ?_ | refine awl_skip' [4, 5] rfl ?_ | refine yl_skip rfl ?_ | refine aw_skip ?_ | refine aw_exit ?_); try simp -implicitDefEqProofs (maxSteps := 1000000) [List.lookup])
          | (refine aw_cond rfl (fun h => ?_) (fun h => ?_) <;> try (with_reducible first | exact ff_tt h | exact tt_ff h))
          | refine aw_block ?_
          | refine aw_ret (ret_of (.inr rfl) (by simp [Try.results87]; rfl) (Fin.of ?_))
          | refine ret_of (.inl rfl) (by simp [Try.results87]; rfl) (Fin.of ?_))
        have hnf : NoFault l := by rwa [List.take_of_length_le (Nat.le_refl _)] at hnf
        have hfd : l.find? isFault = none := List.find?_eq_none.2 (fun v hv => by simp [hnf v hv])
        simp [tupOf, bestV, hfd, vl]
end Go.AL
/-! Contracts: lexer's small functions. -/
namespace Go.AL
open Go.Proofs
set_option linter.unusedSimpArgs false
set_option linter.unusedVariables false
def figR (c : Int) : Bool := decide (48 ≤ c) && decide (c ≤ 57)
def letR (c : Int) : Bool := decide (65 ≤ c) && decide (c ≤ 90)
/-- How many of the first bytes are so. -/
def leadL (p : Int → Bool) (s : ByteArray) : Nat := (s.data.toList.takeWhile fun b => p b.toNat).length
end Go.AL
/-! Contracts: the library's texts (HasPrefix, TrimLeft by one byte). -/
namespace Go.AL
open Go.Proofs
set_option linter.unusedSimpArgs false
set_option linter.unusedVariables false
theorem bsizeL (a : Array UInt8) : (⟨a⟩ : ByteArray).size = a.size := rfl
theorem u8c {x c : UInt8} : ((x.toNat : Int) = (c.toNat : Int)) ↔ x = c := ⟨fun h => UInt8.toNat_inj.1 (by omega), fun h => by rw [h]⟩
/-- Does a text begin so? -/
def hasPre (s p : ByteArray) : Bool := decide (p.size ≤ s.size) && decide (s.extract 0 p.size = p)
end Go.AL
/-! Contracts: lexer.number, mark. -/
namespace Go.AL
open Go.Proofs
set_option linter.unusedSimpArgs false
set_option linter.unusedVariables false
abbrev token (k n c r : Int) (t : ByteArray) (f : Int) : AV := .agg [vi k, vi n, vi c, vi r, vs t, vi f]
/-- The leading figures. -/
def leadS (p : Int → Bool) (s : ByteArray) : ByteArray := s.extract 0 (leadL p s)
theorem leadL_le (p : Int → Bool) (s : ByteArray) : leadL p s ≤ s.size := by
  unfold leadL
  have h1 := (List.takeWhile_sublist (l := s.data.toList) (fun b : UInt8 => p b.toNat)).length_le
  rw [Array.length_toList] at h1
  exact h1
/-- How long the mark is with which a text begins. -/
def markN : List UInt8 → Nat
  | [] => 0
  | b :: l => if b = 60 then (if hasPre ⟨⟨b :: l⟩⟩ ⟨#[60, 62]⟩ = true ∨ hasPre ⟨⟨l⟩⟩ ⟨#[61]⟩ = true then 2 else 1) else if b = 62 then (if hasPre ⟨⟨l⟩⟩ ⟨#[61]⟩ = true then 2 else 1)
    else if b = 43 ∨ b = 45 ∨ b = 42 ∨ b = 47 ∨ b = 40 ∨ b = 41 ∨ b = 44 ∨ b = 58 ∨ b = 61 then 1 else 0
end Go.AL
/-! Contracts: place. -/
namespace Go.AL
open Go.Proofs
set_option linter.unusedSimpArgs false
set_option linter.unusedVariables false
abbrev place (c r : Int) : AV := .agg [vi c, vi r]
def rightP (c r : Int) : Bool := decide (0 ≤ c) && decide (c < 16) && decide (0 ≤ r) && decide (r < 64)
set_option maxRecDepth 100000 in
theorem right_ok (c r : Int) : APure Try.prog 110 [place c r] (vb (rightP c r)) := by
  refine apure_in Try.func110 Try.ntmps110 rfl ?_
  repeat' first | refine aw_N [] trivial trivial ?_ | refine aw_cond rfl (fun h => ?_) (fun h => ?_)
  simp [rightP]
def atC (i : Int) : Int := if 0 ≤ i ∧ i < 1024 then i % 16 else 0
def atR (i : Int) : Int := if 0 ≤ i ∧ i < 1024 then i / 16 else 0
theorem mn (a b : Int) : (if b < a then b else a) = min a b := by omega
theorem mx (a b : Int) : (if a < b then b else a) = max a b := by omega
abbrev range (a b c d : Int) : AV := .agg [vi a, vi b, vi c, vi d]
def spanP (a b c d : Int) : Bool := rightP a b && rightP c d
def withinP (c r a b d e : Int) : Bool := decide (a ≤ c) && decide (c ≤ d) && decide (b ≤ r) && decide (r ≤ e)
set_option maxRecDepth 100000 in
theorem within_ok (c r a b d e : Int) : APure Try.prog 112 [place c r, place a b, place d e] (vb (withinP c r a b d e)) := by
  refine apure_in Try.func112 Try.ntmps112 rfl ?_
  repeat' first | refine aw_N [] trivial trivial ?_ | refine aw_cond rfl (fun h => ?_) (fun h => ?_)
  simp [withinP]
def wholeP (a b c d : Int) : Bool := rightP a b && rightP c d && withinP a b a b c d
set_option maxRecDepth 100000 in
theorem whole_ok (a b c d : Int) : APure Try.prog 80 [range a b c d] (vb (wholeP a b c d)) := by
  refine apure_in Try.func80 Try.ntmps80 rfl ?_
  repeat' first | refine aw_N [] trivial (And.intro @right_ok (And.intro @within_ok trivial)) ?_ | refine aw_cond rfl (fun h => ?_) (fun h => ?_)
  simp [wholeP, tupOf]
def hasP (a b c d x y : Int) : Bool := wholeP a b c d && withinP x y a b c d
end Go.AL
/-! Contracts: gridironref02, what has no loop. -/
namespace Go.AL
open Go.Proofs
set_option linter.unusedSimpArgs false
set_option linter.unusedVariables false
def rright (c r : Int) : Bool := decide (0 ≤ c) && decide (c ≤ 15) && decide (0 ≤ r) && decide (r ≤ 63)
theorem rright_eq (c r : Int) : rright c r = rightP c r := by unfold rright rightP; grind
set_option maxRecDepth 100000 in
theorem rright_ok (c r : Int) : APure Try.prog 63 [place c r] (vb (rightP c r)) := by
  rw [← rright_eq]
  refine apure_in Try.func63 Try.ntmps63 rfl ?_
  repeat' first | refine aw_N [] trivial trivial ?_ | refine aw_cond rfl (fun h => ?_) (fun h => ?_)
  simp [rright, tupOf]
set_option maxRecDepth 100000 in
theorem rat_ok (i : Int) : APure Try.prog 43 [vi i] (.tup [place (atC i) (atR i), vb (decide (0 ≤ i ∧ i < 1024))]) := by
  refine apure_in Try.func43 Try.ntmps43 rfl ?_
  repeat' first | refine aw_N [2] trivial trivial ?_ | refine aw_cond rfl (fun h => ?_) (fun h => ?_)
  · simp [tupOf] at h ⊢
    have : ¬ (0 ≤ i ∧ i < 1024) := by omega
    simp [atC, atR, this]
    omega
  · simp [tupOf] at h ⊢
    have h1 : 0 ≤ i ∧ i < 1024 := by omega
    rw [Int.tdiv_eq_ediv_of_nonneg h1.1, wrap_id (by omega) (by omega)]
    simp [atC, atR, h1, Int.tmod_eq_emod_of_nonneg h1.1]
set_option maxRecDepth 100000 in
theorem rwhole_ok (a b c d : Int) : APure Try.prog 64 [range a b c d] (vb (wholeP a b c d)) := by
  refine apure_in Try.func64 Try.ntmps64 rfl ?_
  repeat' first | refine aw_N [] trivial (And.intro @rright_ok trivial) ?_ | refine aw_cond rfl (fun h => ?_) (fun h => ?_)
  simp [wholeP, withinP, tupOf]
  all_goals grind
set_option maxRecDepth 100000 in
theorem rhas_ok (a b c d x y : Int) : APure Try.prog 67 [range a b c d, place x y] (vb (hasP a b c d x y)) := by
  refine apure_in Try.func67 Try.ntmps67 rfl ?_
  repeat' first | refine aw_N [] trivial (And.intro @rwhole_ok trivial) ?_ | refine aw_cond rfl (fun h => ?_) (fun h => ?_)
  simp [hasP, withinP, tupOf]
  all_goals grind
set_option maxRecDepth 100000 in
theorem rspan_ok (a b c d : Int) : APure Try.prog 170 [place a b, place c d] (.tup [range (z (spanP a b c d) (min a c)) (z (spanP a b c d) (min b d)) (z (spanP a b c d) (max a c)) (z (spanP a b c d) (max b d)), vb (spanP a b c d)]) := by
  refine apure_in Try.func170 Try.ntmps170 rfl ?_
  repeat' first | refine aw_N [4] trivial (And.intro @rright_ok trivial) ?_ | refine aw_cond rfl (fun h => ?_) (fun h => ?_)
  · have h' : spanP a b c d = false := by simp [spanP] at h ⊢; grind
    simp [h', tupOf]
  · have h' : spanP a b c d = true := by simp [spanP] at h ⊢; exact h
    simp [h', tupOf, mn, mx]
end Go.AL
/-! Contracts: gridironref02.Text. -/
namespace Go.AL
open Go.Proofs
set_option linter.unusedSimpArgs false
set_option linter.unusedVariables false
def letters : ByteArray := ⟨#[65, 66, 67, 68, 69, 70, 71, 72, 73, 74, 75, 76, 77, 78, 79, 80]⟩
def textP (c r : Int) : ByteArray := if rightP c r = true then letters.extract c.toNat (c.toNat + 1) ++ textI (r + 1) else ⟨#[]⟩
theorem rightP_iff' {c r : Int} : rightP c r = true ↔ 0 ≤ c ∧ c < 16 ∧ 0 ≤ r ∧ r < 64 := by simp [rightP, and_assoc]
set_option maxRecDepth 100000 in
theorem rtext_ok (c r : Int) : APure Try.prog 149 [place c r] (vs (textP c r)) := by
  refine apure_in Try.func149 Try.ntmps149 rfl ?_
  refine aw_seq (aw_run [] ?_)
  simp -implicitDefEqProofs
  refine aw_seq (aw_run [] ?_)
  simp -implicitDefEqProofs
  refine awl_pure' [] rfl rfl rfl (by kernel_rfl) rfl (rright_ok c r) (by simp) (by simp) ?_
  simp -implicitDefEqProofs
  refine aw_seq (aw_seq (aw_run [] ?_))
  simp -implicitDefEqProofs
  refine aw_cond rfl (fun h => ?_) (fun h => aw_skip ?_)
  · repeat' first | refine aw_W [] trivial trivial ?_ | refine aw_cond rfl (fun h => ?_) (fun h => ?_)
    have : rightP c r = false := by simpa using h
    simp [tupOf, textP, this]
  · have hR : rightP c r = true := by simpa using h
    have hb := rightP_iff'.1 hR
    obtain ⟨k, rfl⟩ := Int.eq_ofNat_of_zero_le hb.1
    have h1 : IntKind.i64.wrap ((k : Int) + 1) = ((k + 1 : Nat) : Int) := by rw [wrap_id (by omega) (by omega)]; rfl
    have h2 : IntKind.i64.wrap (r + 1) = r + 1 := wrap_id (by omega) (by omega)
    have hk : k ≤ k + 1 ∧ k + 1 ≤ (⟨#[65, 66, 67, 68, 69, 70, 71, 72, 73, 74, 75, 76, 77, 78, 79, 80]⟩ : ByteArray).size := ⟨by omega, by
      have e : (⟨#[65, 66, 67, 68, 69, 70, 71, 72, 73, 74, 75, 76, 77, 78, 79, 80]⟩ : ByteArray).size = 16 := rfl
      omega⟩
    have hn : 0 ≤ (k : Int) + 1 := by omega
    have hs : (letters.extract k (k + 1)).size + (textI (r + 1)).size ≤ 9223372036854775807 := by
      have e1 : (textI (r + 1)).size ≤ 20 := by
        unfold textI
        rw [if_neg (by omega)]
        exact figs_len _ (by omega)
      have e2 : (letters.extract k (k + 1)).size ≤ 16 := by
        rw [ByteArray.size_extract]
        have e : letters.size = 16 := rfl
        omega
      omega
    unfold letters at hs
    rw [ByteArray.size_extract] at hs
    simp -implicitDefEqProofs
    refine aw_seq (aw_yrun draws (by kernel_rfl) ?_)
    simp -implicitDefEqProofs [h1, h2, hk, hn]
    refine yl_pure rfl rfl rfl (by kernel_rfl) rfl (rtext1_ok (r + 1) (by omega) (by omega)) (by simp) (by simp) ?_
    simp -implicitDefEqProofs [hs]
    repeat' first | refine aw_W [] trivial trivial ?_ | refine aw_cond rfl (fun h => ?_) (fun h => ?_)
    simp [tupOf, textP, hR, letters]
end Go.AL
