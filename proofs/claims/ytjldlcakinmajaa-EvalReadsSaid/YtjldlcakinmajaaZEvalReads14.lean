/- Parts of the proof of EvalReads: the logic, contracts, plain laws. -/
import Derived.Test.YtjldlcakinmajaaZEvalReads13
import Derived.Test.YtjldlcakinmajaaZEvalReads7
import Derived.Laws.RangeAny
import Derived.Laws.RangeString
/-! Contracts: value.Do. -/
namespace Go.AL
open Go.Proofs
set_option linter.unusedSimpArgs false
set_option linter.unusedVariables false
def doK (s : ByteArray) : Nat :=
  if s = ⟨#[43]⟩ then 0 else if s = ⟨#[45]⟩ then 1 else if s = ⟨#[42]⟩ then 2 else if s = ⟨#[47]⟩ then 3 else if s = ⟨#[60]⟩ then 4 else if s = ⟨#[60, 61]⟩ then 5 else if s = ⟨#[61]⟩ then 6 else if s = ⟨#[60, 62]⟩ then 7 else if s = ⟨#[62, 61]⟩ then 8 else if s = ⟨#[62]⟩ then 9 else 10
/-- What an op comes to, by its number. -/
def numK (k : Nat) (a b : Int) : Int :=
  if k = 0 then z (inI (a + b)) (a + b) else if k = 1 then z (inI (a - b)) (a - b) else if k = 2 then z (inI (a * b)) (a * b) else if k = 3 then (if b = 0 then 0 else z (inI (a.tdiv b)) (a.tdiv b))
  else if k = 4 then z (decide (a < b)) 1 else if k = 5 then z (decide (a ≤ b)) 1 else if k = 6 then z (decide (a = b)) 1 else if k = 7 then z (!decide (a = b)) 1 else if k = 8 then z (decide (b ≤ a)) 1 else z (decide (b < a)) 1
def fltK (k : Nat) (a b : Int) : Int :=
  if k = 0 then z (!inI (a + b)) 1 else if k = 1 then z (!inI (a - b)) 1 else if k = 2 then z (!inI (a * b)) 1 else if k = 3 then (if b = 0 then 2 else z (!inI (a.tdiv b)) 1) else 0
def doN (k : Nat) (a fa b fb : Int) : Int := if k = 10 ∨ fa ≠ 0 ∨ fb ≠ 0 then 0 else numK k a b
def doF (k : Nat) (a fa b fb : Int) : Int := if k = 10 then 0 else if fa ≠ 0 then fa else if fb ≠ 0 then fb else fltK k a b
def doB (k : Nat) : Bool := !decide (k = 10)
theorem opsZ : tzero Try.prog 151 = some (.p .nilFunc) := by kernel_rfl
theorem find0 : amfind .string (.p (.string ⟨#[43]⟩)) opsE 0 = some (some (0, .fn (.func 158) [] [.vel [vf 122] 0 0])) := by simp [opsE]
theorem find1 : amfind .string (.p (.string ⟨#[45]⟩)) opsE 0 = some (some (1, .fn (.func 158) [] [.vel [vf 120] 0 0])) := by simp [opsE]
theorem find2 : amfind .string (.p (.string ⟨#[42]⟩)) opsE 0 = some (some (2, .fn (.func 158) [] [.vel [vf 123] 0 0])) := by simp [opsE]
theorem find3 : amfind .string (.p (.string ⟨#[47]⟩)) opsE 0 = some (some (3, vf 124)) := by simp [opsE]
theorem find4 : amfind .string (.p (.string ⟨#[60]⟩)) opsE 0 = some (some (4, .fn (.func 160) [] [.vel [vf 126] 0 0])) := by simp [opsE]
theorem find5 : amfind .string (.p (.string ⟨#[60, 61]⟩)) opsE 0 = some (some (5, .fn (.func 160) [] [.vel [vf 127] 0 0])) := by simp [opsE]
theorem find6 : amfind .string (.p (.string ⟨#[61]⟩)) opsE 0 = some (some (6, .fn (.func 160) [] [.vel [vf 128] 0 0])) := by simp [opsE]
theorem find7 : amfind .string (.p (.string ⟨#[60, 62]⟩)) opsE 0 = some (some (7, .fn (.func 160) [] [.vel [vf 129] 0 0])) := by simp [opsE]
theorem find8 : amfind .string (.p (.string ⟨#[62, 61]⟩)) opsE 0 = some (some (8, .fn (.func 160) [] [.vel [vf 130] 0 0])) := by simp [opsE]
theorem find9 : amfind .string (.p (.string ⟨#[62]⟩)) opsE 0 = some (some (9, .fn (.func 160) [] [.vel [vf 131] 0 0])) := by simp [opsE]
set_option maxHeartbeats 8000000 in
set_option maxRecDepth 100000 in
theorem do_ok (s : ByteArray) (a fa b fb : Int) (ha : In64 a) (hb : In64 b) : APure Try.prog 70 [vs s, value a fa, value b fb] (.tup [value (doN (doK s) a fa b fb) (doF (doK s) a fa b fb), vb (doB (doK s))]) := by
  by_cases h0 : s = ⟨#[43]⟩
  · subst h0
    have hc := reckon1_ok 122 a b (a + b) (by kernel_rfl) (add_ok ha hb)
    rw [show doK ⟨#[43]⟩ = 0 by decide]
    refine apure_in Try.func70 Try.ntmps70 rfl ?_
    refine aw_seq (aw_run [6] ?_)
    simp -implicitDefEqProofs
    refine aw_seq (aw_run [6] ?_)
    simp -implicitDefEqProofs
    refine awl_call' [6] rfl rfl rfl (by kernel_rfl) rfl (ops_ok _) ?_
    simp -implicitDefEqProofs
    refine awl_lookup [6] rfl rfl opsT rfl (by simp) rfl find0 rfl ?_
    simp -implicitDefEqProofs
    repeat' (first
      | refine aw_seq ?_
      | (refine aw_run [6] ?_; try simp -implicitDefEqProofs (maxSteps := 1000000) [Nat.lt_irrefl])
      | ((first | refine awl_skip' [6] rfl ?_ | refine awl_pure_guard [6] rfl rfl rfl (by first | assumption | kernel_rfl) rfl (fun hc => by first | exact faulty_ok _ | exact hc) (by simp) (by simp) (by simp) ?_ | refine awl_pure' [6] rfl rfl rfl (by first | assumption | kernel_rfl) rfl (by first | exact faulty_ok _ | exact hc) (by simp) (by simp) ?_ | refine aw_skip ?_ | refine aw_exit ?_); try simp -implicitDefEqProofs (maxSteps := 1000000) [Nat.lt_irrefl])
      | (refine aw_cond rfl (fun h => ?_) (fun h => ?_) <;> try (with_reducible first | exact ff_tt h | exact tt_ff h))
      | refine aw_block ?_
      | refine aw_ret (ret_of (.inr rfl) (by simp [Try.results70]; rfl) (Fin.of ?_))
      | refine ret_of (.inl rfl) (by simp [Try.results70]; rfl) (Fin.of ?_))
    · simp at h
      simp [tupOf, doN, doF, doB, h]
    · rename_i h1
      simp at h h1
      simp [tupOf, doN, doF, doB, h, h1]
    · rename_i h1
      simp at h h1
      simp [tupOf, doN, doF, doB, h, h1, numK, fltK, Nat.lt_irrefl]
  by_cases h1 : s = ⟨#[45]⟩
  · subst h1
    have hc := reckon1_ok 120 a b (a - b) (by kernel_rfl) (sub_ok ha hb)
    rw [show doK ⟨#[45]⟩ = 1 by decide]
    refine apure_in Try.func70 Try.ntmps70 rfl ?_
    refine aw_seq (aw_run [6] ?_)
    simp -implicitDefEqProofs
    refine aw_seq (aw_run [6] ?_)
    simp -implicitDefEqProofs
    refine awl_call' [6] rfl rfl rfl (by kernel_rfl) rfl (ops_ok _) ?_
    simp -implicitDefEqProofs
    refine awl_lookup [6] rfl rfl opsT rfl (by simp) rfl find1 rfl ?_
    simp -implicitDefEqProofs
    repeat' (first
      | refine aw_seq ?_
      | (refine aw_run [6] ?_; try simp -implicitDefEqProofs (maxSteps := 1000000) [Nat.lt_irrefl])
      | ((first | refine awl_skip' [6] rfl ?_ | refine awl_pure_guard [6] rfl rfl rfl (by first | assumption | kernel_rfl) rfl (fun hc => by first | exact faulty_ok _ | exact hc) (by simp) (by simp) (by simp) ?_ | refine awl_pure' [6] rfl rfl rfl (by first | assumption | kernel_rfl) rfl (by first | exact faulty_ok _ | exact hc) (by simp) (by simp) ?_ | refine aw_skip ?_ | refine aw_exit ?_); try simp -implicitDefEqProofs (maxSteps := 1000000) [Nat.lt_irrefl])
      | (refine aw_cond rfl (fun h => ?_) (fun h => ?_) <;> try (with_reducible first | exact ff_tt h | exact tt_ff h))
      | refine aw_block ?_
      | refine aw_ret (ret_of (.inr rfl) (by simp [Try.results70]; rfl) (Fin.of ?_))
      | refine ret_of (.inl rfl) (by simp [Try.results70]; rfl) (Fin.of ?_))
    · simp at h
      simp [tupOf, doN, doF, doB, h]
    · rename_i h1
      simp at h h1
      simp [tupOf, doN, doF, doB, h, h1]
    · rename_i h1
      simp at h h1
      simp [tupOf, doN, doF, doB, h, h1, numK, fltK, Nat.lt_irrefl]
  by_cases h2 : s = ⟨#[42]⟩
  · subst h2
    have hc := reckon1_ok 123 a b (a * b) (by kernel_rfl) (mul_ok ha hb)
    rw [show doK ⟨#[42]⟩ = 2 by decide]
    refine apure_in Try.func70 Try.ntmps70 rfl ?_
    refine aw_seq (aw_run [6] ?_)
    simp -implicitDefEqProofs
    refine aw_seq (aw_run [6] ?_)
    simp -implicitDefEqProofs
    refine awl_call' [6] rfl rfl rfl (by kernel_rfl) rfl (ops_ok _) ?_
    simp -implicitDefEqProofs
    refine awl_lookup [6] rfl rfl opsT rfl (by simp) rfl find2 rfl ?_
    simp -implicitDefEqProofs
    repeat' (first
      | refine aw_seq ?_
      | (refine aw_run [6] ?_; try simp -implicitDefEqProofs (maxSteps := 1000000) [Nat.lt_irrefl])
      | ((first | refine awl_skip' [6] rfl ?_ | refine awl_pure_guard [6] rfl rfl rfl (by first | assumption | kernel_rfl) rfl (fun hc => by first | exact faulty_ok _ | exact hc) (by simp) (by simp) (by simp) ?_ | refine awl_pure' [6] rfl rfl rfl (by first | assumption | kernel_rfl) rfl (by first | exact faulty_ok _ | exact hc) (by simp) (by simp) ?_ | refine aw_skip ?_ | refine aw_exit ?_); try simp -implicitDefEqProofs (maxSteps := 1000000) [Nat.lt_irrefl])
      | (refine aw_cond rfl (fun h => ?_) (fun h => ?_) <;> try (with_reducible first | exact ff_tt h | exact tt_ff h))
      | refine aw_block ?_
      | refine aw_ret (ret_of (.inr rfl) (by simp [Try.results70]; rfl) (Fin.of ?_))
      | refine ret_of (.inl rfl) (by simp [Try.results70]; rfl) (Fin.of ?_))
    · simp at h
      simp [tupOf, doN, doF, doB, h]
    · rename_i h1
      simp at h h1
      simp [tupOf, doN, doF, doB, h, h1]
    · rename_i h1
      simp at h h1
      simp [tupOf, doN, doF, doB, h, h1, numK, fltK, Nat.lt_irrefl]
  by_cases h3 : s = ⟨#[47]⟩
  · subst h3
    by_cases b0 : b = 0
    · subst b0
      have hc := quotient_zero a
      rw [show doK ⟨#[47]⟩ = 3 by decide]
      refine apure_in Try.func70 Try.ntmps70 rfl ?_
      refine aw_seq (aw_run [6] ?_)
      simp -implicitDefEqProofs
      refine aw_seq (aw_run [6] ?_)
      simp -implicitDefEqProofs
      refine awl_call' [6] rfl rfl rfl (by kernel_rfl) rfl (ops_ok _) ?_
      simp -implicitDefEqProofs
      refine awl_lookup [6] rfl rfl opsT rfl (by simp) rfl find3 rfl ?_
      simp -implicitDefEqProofs
      repeat' (first
        | refine aw_seq ?_
        | (refine aw_run [6] ?_; try simp -implicitDefEqProofs (maxSteps := 1000000) [Nat.lt_irrefl])
        | ((first | refine awl_skip' [6] rfl ?_ | refine awl_pure_guard [6] rfl rfl rfl (by first | assumption | kernel_rfl) rfl (fun hc => by first | exact faulty_ok _ | exact hc) (by simp) (by simp) (by simp) ?_ | refine awl_pure' [6] rfl rfl rfl (by first | assumption | kernel_rfl) rfl (by first | exact faulty_ok _ | exact hc) (by simp) (by simp) ?_ | refine aw_skip ?_ | refine aw_exit ?_); try simp -implicitDefEqProofs (maxSteps := 1000000) [Nat.lt_irrefl])
        | (refine aw_cond rfl (fun h => ?_) (fun h => ?_) <;> try (with_reducible first | exact ff_tt h | exact tt_ff h))
        | refine aw_block ?_
        | refine aw_ret (ret_of (.inr rfl) (by simp [Try.results70]; rfl) (Fin.of ?_))
        | refine ret_of (.inl rfl) (by simp [Try.results70]; rfl) (Fin.of ?_))
      · simp at h
        simp [tupOf, doN, doF, doB, h]
      · rename_i h1
        simp at h h1
        simp [tupOf, doN, doF, doB, h, h1]
      · rename_i h1
        simp at h h1
        simp [tupOf, doN, doF, doB, h, h1, numK, fltK, Nat.lt_irrefl]
    · have hc := quotient_ok ha hb b0
      rw [show doK ⟨#[47]⟩ = 3 by decide]
      refine apure_in Try.func70 Try.ntmps70 rfl ?_
      refine aw_seq (aw_run [6] ?_)
      simp -implicitDefEqProofs
      refine aw_seq (aw_run [6] ?_)
      simp -implicitDefEqProofs
      refine awl_call' [6] rfl rfl rfl (by kernel_rfl) rfl (ops_ok _) ?_
      simp -implicitDefEqProofs
      refine awl_lookup [6] rfl rfl opsT rfl (by simp) rfl find3 rfl ?_
      simp -implicitDefEqProofs
      repeat' first | refine aw_N [6] @b0 (And.intro @faulty_ok (And.intro @hc trivial)) ?_ | refine aw_cond rfl (fun h => ?_) (fun h => ?_)
      · simp at h
        simp [tupOf, doN, doF, doB, h]
      · rename_i h1
        simp at h h1
        simp [tupOf, doN, doF, doB, h, h1]
      · rename_i h1
        simp at h h1
        simp [tupOf, doN, doF, doB, h, h1, numK, fltK, b0]
  by_cases h4 : s = ⟨#[60]⟩
  · subst h4
    have hc := ask1_ok 126 a b (decide (a < b)) (by kernel_rfl) (op1_ok a b)
    rw [show doK ⟨#[60]⟩ = 4 by decide]
    refine apure_in Try.func70 Try.ntmps70 rfl ?_
    refine aw_seq (aw_run [6] ?_)
    simp -implicitDefEqProofs
    refine aw_seq (aw_run [6] ?_)
    simp -implicitDefEqProofs
    refine awl_call' [6] rfl rfl rfl (by kernel_rfl) rfl (ops_ok _) ?_
    simp -implicitDefEqProofs
    refine awl_lookup [6] rfl rfl opsT rfl (by simp) rfl find4 rfl ?_
    simp -implicitDefEqProofs
    repeat' (first
      | refine aw_seq ?_
      | (refine aw_run [6] ?_; try simp -implicitDefEqProofs (maxSteps := 1000000) [Nat.lt_irrefl])
      | ((first | refine awl_skip' [6] rfl ?_ | refine awl_pure_guard [6] rfl rfl rfl (by first | assumption | kernel_rfl) rfl (fun hc => by first | exact faulty_ok _ | exact hc) (by simp) (by simp) (by simp) ?_ | refine awl_pure' [6] rfl rfl rfl (by first | assumption | kernel_rfl) rfl (by first | exact faulty_ok _ | exact hc) (by simp) (by simp) ?_ | refine aw_skip ?_ | refine aw_exit ?_); try simp -implicitDefEqProofs (maxSteps := 1000000) [Nat.lt_irrefl])
      | (refine aw_cond rfl (fun h => ?_) (fun h => ?_) <;> try (with_reducible first | exact ff_tt h | exact tt_ff h))
      | refine aw_block ?_
      | refine aw_ret (ret_of (.inr rfl) (by simp [Try.results70]; rfl) (Fin.of ?_))
      | refine ret_of (.inl rfl) (by simp [Try.results70]; rfl) (Fin.of ?_))
    · simp at h
      simp [tupOf, doN, doF, doB, h]
    · rename_i h1
      simp at h h1
      simp [tupOf, doN, doF, doB, h, h1]
    · rename_i h1
      simp at h h1
      simp [tupOf, doN, doF, doB, h, h1, numK, fltK, Nat.lt_irrefl]
  by_cases h5 : s = ⟨#[60, 61]⟩
  · subst h5
    have hc := ask1_ok 127 a b (decide (a ≤ b)) (by kernel_rfl) (op2_ok a b)
    rw [show doK ⟨#[60, 61]⟩ = 5 by decide]
    refine apure_in Try.func70 Try.ntmps70 rfl ?_
    refine aw_seq (aw_run [6] ?_)
    simp -implicitDefEqProofs
    refine aw_seq (aw_run [6] ?_)
    simp -implicitDefEqProofs
    refine awl_call' [6] rfl rfl rfl (by kernel_rfl) rfl (ops_ok _) ?_
    simp -implicitDefEqProofs
    refine awl_lookup [6] rfl rfl opsT rfl (by simp) rfl find5 rfl ?_
    simp -implicitDefEqProofs
    repeat' (first
      | refine aw_seq ?_
      | (refine aw_run [6] ?_; try simp -implicitDefEqProofs (maxSteps := 1000000) [Nat.lt_irrefl])
      | ((first | refine awl_skip' [6] rfl ?_ | refine awl_pure_guard [6] rfl rfl rfl (by first | assumption | kernel_rfl) rfl (fun hc => by first | exact faulty_ok _ | exact hc) (by simp) (by simp) (by simp) ?_ | refine awl_pure' [6] rfl rfl rfl (by first | assumption | kernel_rfl) rfl (by first | exact faulty_ok _ | exact hc) (by simp) (by simp) ?_ | refine aw_skip ?_ | refine aw_exit ?_); try simp -implicitDefEqProofs (maxSteps := 1000000) [Nat.lt_irrefl])
      | (refine aw_cond rfl (fun h => ?_) (fun h => ?_) <;> try (with_reducible first | exact ff_tt h | exact tt_ff h))
      | refine aw_block ?_
      | refine aw_ret (ret_of (.inr rfl) (by simp [Try.results70]; rfl) (Fin.of ?_))
      | refine ret_of (.inl rfl) (by simp [Try.results70]; rfl) (Fin.of ?_))
    · simp at h
      simp [tupOf, doN, doF, doB, h]
    · rename_i h1
      simp at h h1
      simp [tupOf, doN, doF, doB, h, h1]
    · rename_i h1
      simp at h h1
      simp [tupOf, doN, doF, doB, h, h1, numK, fltK, Nat.lt_irrefl]
  by_cases h6 : s = ⟨#[61]⟩
  · subst h6
    have hc := ask1_ok 128 a b (decide (a = b)) (by kernel_rfl) (op3_ok a b)
    rw [show doK ⟨#[61]⟩ = 6 by decide]
    refine apure_in Try.func70 Try.ntmps70 rfl ?_
    refine aw_seq (aw_run [6] ?_)
    simp -implicitDefEqProofs
    refine aw_seq (aw_run [6] ?_)
    simp -implicitDefEqProofs
    refine awl_call' [6] rfl rfl rfl (by kernel_rfl) rfl (ops_ok _) ?_
    simp -implicitDefEqProofs
    refine awl_lookup [6] rfl rfl opsT rfl (by simp) rfl find6 rfl ?_
    simp -implicitDefEqProofs
    repeat' (first
      | refine aw_seq ?_
      | (refine aw_run [6] ?_; try simp -implicitDefEqProofs (maxSteps := 1000000) [Nat.lt_irrefl])
      | ((first | refine awl_skip' [6] rfl ?_ | refine awl_pure_guard [6] rfl rfl rfl (by first | assumption | kernel_rfl) rfl (fun hc => by first | exact faulty_ok _ | exact hc) (by simp) (by simp) (by simp) ?_ | refine awl_pure' [6] rfl rfl rfl (by first | assumption | kernel_rfl) rfl (by first | exact faulty_ok _ | exact hc) (by simp) (by simp) ?_ | refine aw_skip ?_ | refine aw_exit ?_); try simp -implicitDefEqProofs (maxSteps := 1000000) [Nat.lt_irrefl])
      | (refine aw_cond rfl (fun h => ?_) (fun h => ?_) <;> try (with_reducible first | exact ff_tt h | exact tt_ff h))
      | refine aw_block ?_
      | refine aw_ret (ret_of (.inr rfl) (by simp [Try.results70]; rfl) (Fin.of ?_))
      | refine ret_of (.inl rfl) (by simp [Try.results70]; rfl) (Fin.of ?_))
    · simp at h
      simp [tupOf, doN, doF, doB, h]
    · rename_i h1
      simp at h h1
      simp [tupOf, doN, doF, doB, h, h1]
    · rename_i h1
      simp at h h1
      simp [tupOf, doN, doF, doB, h, h1, numK, fltK, Nat.lt_irrefl]
  by_cases h7 : s = ⟨#[60, 62]⟩
  · subst h7
    have hc := ask1_ok 129 a b (!decide (a = b)) (by kernel_rfl) (op4_ok a b)
    rw [show doK ⟨#[60, 62]⟩ = 7 by decide]
    refine apure_in Try.func70 Try.ntmps70 rfl ?_
    refine aw_seq (aw_run [6] ?_)
    simp -implicitDefEqProofs
    refine aw_seq (aw_run [6] ?_)
    simp -implicitDefEqProofs
    refine awl_call' [6] rfl rfl rfl (by kernel_rfl) rfl (ops_ok _) ?_
    simp -implicitDefEqProofs
    refine awl_lookup [6] rfl rfl opsT rfl (by simp) rfl find7 rfl ?_
    simp -implicitDefEqProofs
    repeat' (first
      | refine aw_seq ?_
      | (refine aw_run [6] ?_; try simp -implicitDefEqProofs (maxSteps := 1000000) [Nat.lt_irrefl])
      | ((first | refine awl_skip' [6] rfl ?_ | refine awl_pure_guard [6] rfl rfl rfl (by first | assumption | kernel_rfl) rfl (fun hc => by first | exact faulty_ok _ | exact hc) (by simp) (by simp) (by simp) ?_ | refine awl_pure' [6] rfl rfl rfl (by first | assumption | kernel_rfl) rfl (by first | exact faulty_ok _ | exact hc) (by simp) (by simp) ?_ | refine aw_skip ?_ | refine aw_exit ?_); try simp -implicitDefEqProofs (maxSteps := 1000000) [Nat.lt_irrefl])
      | (refine aw_cond rfl (fun h => ?_) (fun h => ?_) <;> try (with_reducible first | exact ff_tt h | exact tt_ff h))
      | refine aw_block ?_
      | refine aw_ret (ret_of (.inr rfl) (by simp [Try.results70]; rfl) (Fin.of ?_))
      | refine ret_of (.inl rfl) (by simp [Try.results70]; rfl) (Fin.of ?_))
    · simp at h
      simp [tupOf, doN, doF, doB, h]
    · rename_i h1
      simp at h h1
      simp [tupOf, doN, doF, doB, h, h1]
    · rename_i h1
      simp at h h1
      simp [tupOf, doN, doF, doB, h, h1, numK, fltK, Nat.lt_irrefl]
  by_cases h8 : s = ⟨#[62, 61]⟩
  · subst h8
    have hc := ask1_ok 130 a b (decide (b ≤ a)) (by kernel_rfl) (op5_ok a b)
    rw [show doK ⟨#[62, 61]⟩ = 8 by decide]
    refine apure_in Try.func70 Try.ntmps70 rfl ?_
    refine aw_seq (aw_run [6] ?_)
    simp -implicitDefEqProofs
    refine aw_seq (aw_run [6] ?_)
    simp -implicitDefEqProofs
    refine awl_call' [6] rfl rfl rfl (by kernel_rfl) rfl (ops_ok _) ?_
    simp -implicitDefEqProofs
    refine awl_lookup [6] rfl rfl opsT rfl (by simp) rfl find8 rfl ?_
    simp -implicitDefEqProofs
    repeat' (first
      | refine aw_seq ?_
      | (refine aw_run [6] ?_; try simp -implicitDefEqProofs (maxSteps := 1000000) [Nat.lt_irrefl])
      | ((first | refine awl_skip' [6] rfl ?_ | refine awl_pure_guard [6] rfl rfl rfl (by first | assumption | kernel_rfl) rfl (fun hc => by first | exact faulty_ok _ | exact hc) (by simp) (by simp) (by simp) ?_ | refine awl_pure' [6] rfl rfl rfl (by first | assumption | kernel_rfl) rfl (by first | exact faulty_ok _ | exact hc) (by simp) (by simp) ?_ | refine aw_skip ?_ | refine aw_exit ?_); try simp -implicitDefEqProofs (maxSteps := 1000000) [Nat.lt_irrefl])
      | (refine aw_cond rfl (fun h => ?_) (fun h => ?_) <;> try (with_reducible first | exact ff_tt h | exact tt_ff h))
      | refine aw_block ?_
      | refine aw_ret (ret_of (.inr rfl) (by simp [Try.results70]; rfl) (Fin.of ?_))
      | refine ret_of (.inl rfl) (by simp [Try.results70]; rfl) (Fin.of ?_))
    · simp at h
      simp [tupOf, doN, doF, doB, h]
    · rename_i h1
      simp at h h1
      simp [tupOf, doN, doF, doB, h, h1]
    · rename_i h1
      simp at h h1
      simp [tupOf, doN, doF, doB, h, h1, numK, fltK, Nat.lt_irrefl]
  by_cases h9 : s = ⟨#[62]⟩
  · subst h9
    have hc := ask1_ok 131 a b (decide (b < a)) (by kernel_rfl) (op6_ok a b)
    rw [show doK ⟨#[62]⟩ = 9 by decide]
    refine apure_in Try.func70 Try.ntmps70 rfl ?_
    refine aw_seq (aw_run [6] ?_)
    simp -implicitDefEqProofs
    refine aw_seq (aw_run [6] ?_)
    simp -implicitDefEqProofs
    refine awl_call' [6] rfl rfl rfl (by kernel_rfl) rfl (ops_ok _) ?_
    simp -implicitDefEqProofs
    refine awl_lookup [6] rfl rfl opsT rfl (by simp) rfl find9 rfl ?_
    simp -implicitDefEqProofs
    repeat' (first
      | refine aw_seq ?_
      | (refine aw_run [6] ?_; try simp -implicitDefEqProofs (maxSteps := 1000000) [Nat.lt_irrefl])
      | ((first | refine awl_skip' [6] rfl ?_ | refine awl_pure_guard [6] rfl rfl rfl (by first | assumption | kernel_rfl) rfl (fun hc => by first | exact faulty_ok _ | exact hc) (by simp) (by simp) (by simp) ?_ | refine awl_pure' [6] rfl rfl rfl (by first | assumption | kernel_rfl) rfl (by first | exact faulty_ok _ | exact hc) (by simp) (by simp) ?_ | refine aw_skip ?_ | refine aw_exit ?_); try simp -implicitDefEqProofs (maxSteps := 1000000) [Nat.lt_irrefl])
      | (refine aw_cond rfl (fun h => ?_) (fun h => ?_) <;> try (with_reducible first | exact ff_tt h | exact tt_ff h))
      | refine aw_block ?_
      | refine aw_ret (ret_of (.inr rfl) (by simp [Try.results70]; rfl) (Fin.of ?_))
      | refine ret_of (.inl rfl) (by simp [Try.results70]; rfl) (Fin.of ?_))
    · simp at h
      simp [tupOf, doN, doF, doB, h]
    · rename_i h1
      simp at h h1
      simp [tupOf, doN, doF, doB, h, h1]
    · rename_i h1
      simp at h h1
      simp [tupOf, doN, doF, doB, h, h1, numK, fltK, Nat.lt_irrefl]
  have hk : doK s = 10 := by simp [doK, h0, h1, h2, h3, h4, h5, h6, h7, h8, h9]
  have hf : amfind .string (.p (.string s)) opsE 0 = some none := by simp [opsE, h0, h1, h2, h3, h4, h5, h6, h7, h8, h9]
  rw [hk]
  refine apure_in Try.func70 Try.ntmps70 rfl ?_
  refine aw_seq (aw_run [6] ?_)
  simp -implicitDefEqProofs
  refine aw_seq (aw_run [6] ?_)
  simp -implicitDefEqProofs
  refine awl_call' [6] rfl rfl rfl (by kernel_rfl) rfl (ops_ok _) ?_
  simp -implicitDefEqProofs
  refine awl_lookup [6] rfl rfl opsT rfl (by simp) rfl hf opsZ ?_
  simp -implicitDefEqProofs
  repeat' first | refine aw_N [6] trivial (And.intro @faulty_ok trivial) ?_ | refine aw_cond rfl (fun h => ?_) (fun h => ?_)
  all_goals simp [tupOf, doN, doF, doB]
end Go.AL
/-! Contracts: value's texts, and gridironref03's. -/
namespace Go.AL
open Go.Proofs
set_option linter.unusedSimpArgs false
set_option linter.unusedVariables false
/-- The faults' names. -/
def nameF (f : Nat) : ByteArray := if f = 1 then ⟨#[35, 79, 86, 69, 82]⟩ else if f = 2 then ⟨#[35, 68, 73, 86]⟩ else if f = 3 then ⟨#[35, 82, 69, 70]⟩ else if f = 4 then ⟨#[35, 67, 89, 67, 76, 69]⟩ else ⟨#[]⟩
/-- Whose name a text is. -/
def faultK (s : ByteArray) : Nat := if s = nameF 1 then 1 else if s = nameF 2 then 2 else if s = nameF 3 then 3 else if s = nameF 4 then 4 else 0
/-- No name so far. -/
def NoName (s : ByteArray) (i : Nat) : Prop := ∀ j, 1 ≤ j → j < i → s ≠ nameF j
theorem NoName.next {s : ByteArray} {i : Nat} (h : NoName s i) (hs : ¬ s = nameF i) : NoName s (i + 1) := fun j h1 h2 => by
  by_cases e : j = i
  · subst e; exact hs
  · exact h j h1 (by omega)
theorem NoName.one (s : ByteArray) : NoName s 1 := fun j h1 h2 => by omega
theorem NoName.all {s : ByteArray} (h : NoName s 5) : faultK s = 0 := by
  unfold faultK
  rw [if_neg (h 1 (by omega) (by omega)), if_neg (h 2 (by omega) (by omega)), if_neg (h 3 (by omega) (by omega)), if_neg (h 4 (by omega) (by omega))]
end Go.AL
/-! Contracts: gridironref03.Do, Neg. -/
namespace Go.AL
open Go.Proofs
set_option linter.unusedSimpArgs false
set_option linter.unusedVariables false
theorem doK_plus : doK ⟨#[43]⟩ = 0 := by decide
def negN (a fa : Int) : Int := if fa = 0 then z (inI (-a)) (-a) else 0
def negFv (a fa : Int) : Int := if fa = 0 then z (!inI (-a)) 1 else fa
set_option maxRecDepth 100000 in
theorem vneg_ok (a fa : Int) (ha : In64 a) : APure Try.prog 69 [value a fa] (value (negN a fa) (negFv a fa)) := by
  refine apure_in Try.func69 Try.ntmps69 rfl ?_
  repeat' first | refine aw_N [2] trivial (And.intro @faulty_ok (And.intro (neg_ok ha) (And.intro @fine_ok trivial))) ?_ | refine aw_cond rfl (fun h => ?_) (fun h => ?_)
  · simp at h
    simp [tupOf, negN, negFv, h]
  · simp at h
    cases hi : inI (-a) <;> simp [tupOf, negN, negFv, h, hi]
end Go.AL
/-! Contracts: value.Sum, best, and gridironref03's. -/
namespace Go.AL
open Go.Proofs
set_option linter.unusedSimpArgs false
set_option linter.unusedVariables false
def vl (p : Int × Int) : AV := value p.1 p.2
@[simp] theorem cl_vl (p : Int × Int) : Cl (vl p) := by unfold vl; simp
@[simp] theorem vl_cells (p : Int × Int) : (vl p).cells.length = 2 := rfl
@[simp high] theorem cl_vls (l : List (Int × Int)) : Cl (.vsl (l.map vl)) := by
  simp [vl]; rintro _ _ _ _ rfl; simp
def addS (s v : Int × Int) : Int × Int := (doN 0 s.1 s.2 v.1 v.2, doF 0 s.1 s.2 v.1 v.2)
def sumL (l : List (Int × Int)) : Int × Int := l.foldl addS (0, 0)
theorem sumL_snoc (l : List (Int × Int)) (v : Int × Int) : sumL (l ++ [v]) = addS (sumL l) v := by simp [sumL]
theorem doN_in (k : Nat) (a fa b fb : Int) : In64 (doN 0 a fa b fb) := by
  unfold doN; split
  · unfold In64; omega
  · simp only [numK, if_true]
    cases h : inI (a + b) with
    | true => exact inI_iff.1 h
    | false => unfold In64; simp
theorem addS_fault (s v : Int × Int) : (addS s v).2 ≠ 0 → (addS s v).1 = 0 := by
  unfold addS doN doF
  intro h
  by_cases h1 : s.2 = 0 <;> by_cases h2 : v.2 = 0 <;> simp [h1, h2, numK, fltK] at h ⊢
  cases hi : inI (s.1 + v.1) <;> simp [hi] at h ⊢
def SumOK (s : Int × Int) : Prop := In64 s.1 ∧ (s.2 ≠ 0 → s.1 = 0)
theorem sum_ok0 (l : List (Int × Int)) : ∀ s, SumOK s → SumOK (l.foldl addS s) := by
  induction l with
  | nil => exact fun s h => h
  | cons v l ih => exact fun s h => ih _ ⟨doN_in 0 _ _ _ _, addS_fault s v⟩
theorem sumL_ok (l : List (Int × Int)) : SumOK (sumL l) := sum_ok0 l _ ⟨by unfold In64; simp, by simp⟩
set_option maxHeartbeats 4000000 in
set_option maxRecDepth 100000 in
theorem vsum_ok (l : List (Int × Int)) (hl : (l.length : Int) ≤ 9223372036854775807) (hin : ∀ v ∈ l, In64 v.1) : APure Try.prog 95 [.vsl (l.map vl)] (vl (sumL l)) := by
  refine apure_in Try.func95 Try.ntmps95 rfl ?_
  refine aw_seq (aw_run [2, 3, 5] ?_)
  simp -implicitDefEqProofs
  refine aw_seq (aw_run [2, 3, 5] ?_)
  simp -implicitDefEqProofs
  refine aw_seq (aw_seq (aw_run [2, 3, 5] ?_))
  simp -implicitDefEqProofs
  refine aw_block (aw_loopW [2, 3, 6, 7, 8] (fun n fr σ => ∃ i m : Nat, i + n = l.length ∧ 2 ≤ m ∧ σ = mkSt [(0, [vi 0, vi 0]), (1, [vi (sumL (l.take i)).1, vi (sumL (l.take i)).2])] [] m ∧ fr = frm 20 [(2, .ptr 0 0), (3, .ptr 1 0), (6, .vsl (l.map vl)), (7, vi (l.length : Int)), (8, vi (i : Nat))]) l.length ?_ ?_)
  · refine ⟨mkSt [(0, [vi 0, vi 0]), (1, [vi 0, vi 0])] [] 2, le_mkSt (by simp [σ0]) (by simp) (by simp [σ0]), 0, 2, by omega, by omega, ?_, by simp⟩
    simp [sumL]
  · rintro n fr σ ⟨i, m, hi, hm, rfl, rfl⟩
    simp
    have hm0 : ¬ 0 = m := by omega
    have hm1 : ¬ 1 = m := by omega
    refine aw_seq (aw_run [2, 3, 5] ?_)
    simp -implicitDefEqProofs [List.lookup]
    refine aw_seq (aw_cond rfl (fun h => aw_skip ?_) (fun h => aw_exit ?_))
    · have hlt : i < l.length := by simp at h; omega
      obtain ⟨x, hx⟩ : ∃ x, l[i]? = some x := ⟨l[i], by simp [hlt]⟩
      have hxm := List.mem_of_getElem? hx
      have hnx : IntKind.i64.wrap ((i : Int) + 1) = ((i + 1 : Nat) : Int) := by rw [wrap_id (by omega) (by omega)]; simp
      have hs := sumL_ok (l.take i)
      have hd := do_ok ⟨#[43]⟩ (sumL (l.take i)).1 (sumL (l.take i)).2 x.1 x.2 hs.1 (hin x hxm)
      rw [doK_plus] at hd
      have he : sumL (l.take (i + 1)) = addS (sumL (l.take i)) x := by rw [List.take_add_one, hx]; exact sumL_snoc _ _
      simp -implicitDefEqProofs [List.lookup]
      repeat' (first
        | refine aw_seq ?_
        | (refine aw_run [2, 3, 5] ?_; try simp -implicitDefEqProofs (maxSteps := 1000000) [List.lookup, hm0, hm1, hx, vl])
        | ((first | refine awl_skip' [2, 3, 5] rfl ?_ | refine awl_pure_guard [2, 3, 5] rfl rfl rfl (by first | assumption | kernel_rfl) rfl (fun hc => by first | exact hd) (by simp) (by simp) (by simp) ?_ | refine awl_pure' [2, 3, 5] rfl rfl rfl (by first | assumption | kernel_rfl) rfl (by first | exact hd) (by simp) (by simp) ?_ | refine aw_skip ?_ | refine aw_exit ?_); try simp -implicitDefEqProofs (maxSteps := 1000000) [List.lookup, hm0, hm1, hx, vl])
        | (refine aw_cond rfl (fun h => ?_) (fun h => ?_) <;> try (with_reducible first | exact ff_tt h | exact tt_ff h))
        | refine aw_block ?_
        | refine aw_ret (ret_of (.inr rfl) (by simp [Try.results95]; rfl) (Fin.of ?_))
        | refine ret_of (.inl rfl) (by simp [Try.results95]; rfl) (Fin.of ?_))
      refine ⟨n - 1, by omega, mkSt [(0, [vi 0, vi 0]), (1, [vi (sumL (l.take (i + 1))).1, vi (sumL (l.take (i + 1))).2])] [] (m + 1), le_mkSt (by simp [List.lookup, hm0, hm1, he, addS]) (by simp) (by simp), i + 1, by omega, m + 1, by omega, rfl, by simp [hnx]⟩
    · have hi2 : i = l.length := by simp at h; omega
      subst hi2
      simp -implicitDefEqProofs [List.lookup]
      repeat' (first
        | refine aw_seq ?_
        | (refine aw_run [2, 3, 5] ?_; try simp -implicitDefEqProofs (maxSteps := 1000000) [List.lookup])
        | ((first | refine awl_skip' [2, 3, 5] rfl ?_ | refine aw_skip ?_ | refine aw_exit ?_); try simp -implicitDefEqProofs (maxSteps := 1000000) [List.lookup])
        | (refine aw_cond rfl (fun h => ?_) (fun h => ?_) <;> try (with_reducible first | exact ff_tt h | exact tt_ff h))
        | refine aw_block ?_
        | refine aw_ret (ret_of (.inr rfl) (by simp [Try.results95]; rfl) (Fin.of ?_))
        | refine ret_of (.inl rfl) (by simp [Try.results95]; rfl) (Fin.of ?_))
      rfl
/-- The best so far. -/
def bstS (ah : Int → Int → Bool) (o v : Int × Int) : Int × Int := if ah v.1 o.1 = true then v else o
def bstF (ah : Int → Int → Bool) : List (Int × Int) → Int × Int
  | [] => (0, 0)
  | x :: xs => xs.foldl (bstS ah) x
def isFault (v : Int × Int) : Bool := !decide (v.2 = 0)
def bestV (ah : Int → Int → Bool) (l : List (Int × Int)) : Int × Int :=
  match l.find? isFault with
  | some v => (0, v.2)
  | none => bstF ah l
theorem bstF_snoc (ah : Int → Int → Bool) (l : List (Int × Int)) (v : Int × Int) : bstF ah (l ++ [v]) = if l = [] then v else bstS ah (bstF ah l) v := by
  cases l with
  | nil => rfl
  | cons x xs => simp [bstF]
def NoFault (l : List (Int × Int)) : Prop := ∀ v ∈ l, isFault v = false
set_option maxHeartbeats 4000000 in
set_option maxRecDepth 100000 in
theorem best_ok (g : Nat) (ah : Int → Int → Bool) (hc : callable Try.prog g = true) (hg : ∀ a b, APure Try.prog g [vi a, vi b] (vb (ah a b))) (l : List (Int × Int)) (hl : (l.length : Int) ≤ 9223372036854775807) : APure Try.prog 134 [.vsl (l.map vl), vf g] (vl (bestV ah l)) := by
  refine apure_in Try.func134 Try.ntmps134 rfl ?_
  refine aw_seq (aw_run [4, 5, 7] ?_)
  simp -implicitDefEqProofs
  refine aw_seq (aw_run [4, 5, 7] ?_)
  simp -implicitDefEqProofs
  refine aw_seq (aw_seq (aw_run [4, 5, 7] ?_))
  simp -implicitDefEqProofs
  refine aw_block (aw_loopW [1, 4, 5, 8, 9, 10] (fun n fr σ => ∃ i m : Nat, i + n = l.length ∧ 2 ≤ m ∧ NoFault (l.take i) ∧ σ = mkSt [(0, [vi 0, vi 0]), (1, [vi (bstF ah (l.take i)).1, vi (bstF ah (l.take i)).2])] [] m ∧ fr = frm 34 [(1, vf g), (4, .ptr 0 0), (5, .ptr 1 0), (8, .vsl (l.map vl)), (9, vi (l.length : Int)), (10, vi (i : Nat))]) l.length ?_ ?_)
  · refine ⟨mkSt [(0, [vi 0, vi 0]), (1, [vi 0, vi 0])] [] 2, le_mkSt (by simp [σ0]) (by simp) (by simp [σ0]), 0, 2, by omega, by omega, by simp [NoFault], ?_, by simp⟩
    simp [bstF]
  · rintro n fr σ ⟨i, m, hi, hm, hnf, rfl, rfl⟩
    simp
    have hm0 : ¬ 0 = m := by omega
    have hm1 : ¬ 1 = m := by omega
    refine aw_seq (aw_run [4, 5, 7] ?_)
    simp -implicitDefEqProofs [List.lookup]
    refine aw_seq (aw_cond rfl (fun h => aw_skip ?_) (fun h => aw_exit ?_))
    · have hlt : i < l.length := by simp at h; omega
      obtain ⟨x, hx⟩ : ∃ x, l[i]? = some x := ⟨l[i], by simp [hlt]⟩
      have hnx : IntKind.i64.wrap ((i : Int) + 1) = ((i + 1 : Nat) : Int) := by rw [wrap_id (by omega) (by omega)]; simp
      have he : l.take (i + 1) = l.take i ++ [x] := by rw [List.take_add_one, hx]; rfl
      simp -implicitDefEqProofs [List.lookup]
      by_cases hxf : x.2 = 0
      · have hnf2 : NoFault (l.take (i + 1)) := by
          intro v hv
          rw [he, List.mem_append] at hv
          rcases hv with hv | hv
          · exact hnf v hv
          · obtain rfl : v = x := by simpa using hv
            simp [isFault, hxf]
        by_cases hi0 : i = 0
        · subst hi0
          repeat' (first
            | refine aw_seq ?_
            | (refine aw_run [4, 5, 7] ?_; try simp -implicitDefEqProofs (maxSteps := 1000000) [List.lookup, hm0, hm1, hx, hxf, vl])
            | ((first | refine awl_skip' [4, 5, 7] rfl ?_ | refine awl_pure_guard [4, 5, 7] rfl rfl rfl (by first | assumption | kernel_rfl) rfl (fun hc => by first | exact hg _ _ | exact faulty_ok _) (by simp) (by simp) (by simp) ?_ | refine awl_pure' [4, 5, 7] rfl rfl rfl (by first | assumption | kernel_rfl) rfl (by first | exact hg _ _ | exact faulty_ok _) (by simp) (by simp) ?_ | refine aw_skip ?_ | refine aw_exit ?_); try simp -implicitDefEqProofs (maxSteps := 1000000) [List.lookup, hm0, hm1, hx, hxf, vl])
            | (refine aw_cond rfl (fun h => ?_) (fun h => ?_) <;> try (with_reducible first | exact ff_tt h | exact tt_ff h))
            | refine aw_block ?_
            | refine aw_ret (ret_of (.inr rfl) (by simp [Try.results134]; rfl) (Fin.of ?_))
            | refine ret_of (.inl rfl) (by simp [Try.results134]; rfl) (Fin.of ?_))
          have hx0 : x = (x.1, 0) := by rw [← hxf]
          have hb0 : bstF ah (l.take (0 + 1)) = x := by rw [he]; rfl
          exact ⟨n - 1, by omega, mkSt [(0, [vi 0, vi 0]), (1, [vi (bstF ah (l.take (0 + 1))).1, vi (bstF ah (l.take (0 + 1))).2])] [] (m + 1), le_mkSt (by rw [hb0]; simp [List.lookup, hm0, hm1, hxf]) (by simp) (by simp), 0 + 1, by omega, m + 1, by omega, hnf2, rfl, by simpa using hnx⟩
        · have hne : l.take i ≠ [] := by
            intro e
            have := congrArg List.length e
            rw [List.length_take, List.length_nil] at this
            omega
          have hbs : bstF ah (l.take (i + 1)) = bstS ah (bstF ah (l.take i)) x := by rw [he, bstF_snoc, if_neg hne]
          cases ha : ah x.1 (bstF ah (l.take i)).1 with
          | true =>
            have hg' := ha ▸ hg x.1 (bstF ah (l.take i)).1
            have hi1 : ¬ (i : Int) = 0 := by omega
            repeat' (first
              | refine aw_seq ?_
              | (refine aw_run [4, 5, 7] ?_; try simp -implicitDefEqProofs (maxSteps := 1000000) [List.lookup, hm0, hm1, hx, hxf, hi0, hi1, vl])
              | ((first | refine awl_skip' [4, 5, 7] rfl ?_ | refine awl_pure_guard [4, 5, 7] rfl rfl rfl (by first | assumption | kernel_rfl) rfl (fun hc => by first | exact hg' | exact faulty_ok _) (by simp) (by simp) (by simp) ?_ | refine awl_pure' [4, 5, 7] rfl rfl rfl (by first | assumption | kernel_rfl) rfl (by first | exact hg' | exact faulty_ok _) (by simp) (by simp) ?_ | refine aw_skip ?_ | refine aw_exit ?_); try simp -implicitDefEqProofs (maxSteps := 1000000) [List.lookup, hm0, hm1, hx, hxf, hi0, hi1, vl])
              | (refine aw_cond rfl (fun h => ?_) (fun h => ?_) <;> try (with_reducible first | exact ff_tt h | exact tt_ff h))
              | refine aw_block ?_
              | refine aw_ret (ret_of (.inr rfl) (by simp [Try.results134]; rfl) (Fin.of ?_))
              | refine ret_of (.inl rfl) (by simp [Try.results134]; rfl) (Fin.of ?_))
            have hb0 : bstF ah (l.take (i + 1)) = x := by rw [hbs, bstS, if_pos ha]
            exact ⟨n - 1, by omega, mkSt [(0, [vi 0, vi 0]), (1, [vi (bstF ah (l.take (i + 1))).1, vi (bstF ah (l.take (i + 1))).2])] [] (m + 1), le_mkSt (by rw [hb0]; simp [List.lookup, hm0, hm1, hxf]) (by simp) (by simp), i + 1, by omega, m + 1, by omega, hnf2, rfl, by simp [hnx]⟩
          | false =>
            have hg' := ha ▸ hg x.1 (bstF ah (l.take i)).1
            have hi1 : ¬ (i : Int) = 0 := by omega
            repeat' (first
              | refine aw_seq ?_
              | (refine aw_run [4, 5, 7] ?_; try simp -implicitDefEqProofs (maxSteps := 1000000) [List.lookup, hm0, hm1, hx, hxf, hi0, hi1, vl])
              | ((first | refine awl_skip' [4, 5, 7] rfl ?_ | refine awl_pure_guard [4, 5, 7] rfl rfl rfl (by first | assumption | kernel_rfl) rfl (fun hc => by first | exact hg' | exact faulty_ok _) (by simp) (by simp) (by simp) ?_ | refine awl_pure' [4, 5, 7] rfl rfl rfl (by first | assumption | kernel_rfl) rfl (by first | exact hg' | exact faulty_ok _) (by simp) (by simp) ?_ | refine aw_skip ?_ | refine aw_exit ?_); try simp -implicitDefEqProofs (maxSteps := 1000000) [List.lookup, hm0, hm1, hx, hxf, hi0, hi1, vl])
              | (refine aw_cond rfl (fun h => ?_) (fun h => ?_) <;> try (with_reducible first | exact ff_tt h | exact tt_ff h))
              | refine aw_block ?_
              | refine aw_ret (ret_of (.inr rfl) (by simp [Try.results134]; rfl) (Fin.of ?_))
              | refine ret_of (.inl rfl) (by simp [Try.results134]; rfl) (Fin.of ?_))
            have hb0 : bstF ah (l.take (i + 1)) = bstF ah (l.take i) := by rw [hbs, bstS, if_neg (by simp [ha])]
            exact ⟨n - 1, by omega, mkSt [(0, [vi 0, vi 0]), (1, [vi (bstF ah (l.take (i + 1))).1, vi (bstF ah (l.take (i + 1))).2])] [] (m + 1), le_mkSt (by rw [hb0]; simp [List.lookup, hm0, hm1]) (by simp) (by simp), i + 1, by omega, m + 1, by omega, hnf2, rfl, by simp [hnx]⟩
      · repeat' (first
          | refine aw_seq ?_
          | (refine aw_run [4, 5, 7] ?_; try simp -implicitDefEqProofs (maxSteps := 1000000) [List.lookup, hm0, hm1, hx, hxf, vl])
          | ((first | refine awl_skip' [4, 5, 7] rfl ?_ | refine awl_pure_guard [4, 5, 7] rfl rfl rfl (by first | assumption | kernel_rfl) rfl (fun hc => by first | exact faulty_ok _) (by simp) (by simp) (by simp) ?_ | refine awl_pure' [4, 5, 7] rfl rfl rfl (by first | assumption | kernel_rfl) rfl (by first | exact faulty_ok _) (by simp) (by simp) ?_ | refine aw_skip ?_ | refine aw_exit ?_); try simp -implicitDefEqProofs (maxSteps := 1000000) [List.lookup, hm0, hm1, hx, hxf, vl])
          | (refine aw_cond rfl (fun h => ?_) (fun h => ?_) <;> try (with_reducible first | exact ff_tt h | exact tt_ff h))
          | refine aw_block ?_
          | refine aw_ret (ret_of (.inr rfl) (by simp [Try.results134]; rfl) (Fin.of ?_))
          | refine ret_of (.inl rfl) (by simp [Try.results134]; rfl) (Fin.of ?_))
        have hfd : l.find? isFault = some x := by
          have e : l = l.take i ++ x :: l.drop (i + 1) := by
            have h1 := (List.take_append_drop i l).symm
            rw [List.drop_eq_getElem_cons hlt] at h1
            have h2 : l[i] = x := (List.getElem?_eq_some_iff.1 hx).2
            rwa [h2] at h1
          rw [e, List.find?_append, List.find?_eq_none.2 (fun v hv => by simp [hnf v hv])]
          simp [isFault, hxf]
        simp [tupOf, bestV, hfd, vl]
    · have hi2 : i = l.length := by simp at h; omega
      subst hi2
      simp -implicitDefEqProofs [List.lookup]
      repeat' (first
        | refine aw_seq ?_
        | (refine aw_run [4, 5, 7] ?_; try simp -implicitDefEqProofs (maxSteps := 1000000) [List.lookup])
        | ((first | refine awl_skip' [4, 5, 7] rfl ?_ | refine aw_skip ?_ | refine aw_exit ?_); try simp -implicitDefEqProofs (maxSteps := 1000000) [List.lookup])
        | (refine aw_cond rfl (fun h => ?_) (fun h => ?_) <;> try (with_reducible first | exact ff_tt h | exact tt_ff h))
        | refine aw_block ?_
        | refine aw_ret (ret_of (.inr rfl) (by simp [Try.results134]; rfl) (Fin.of ?_))
        | refine ret_of (.inl rfl) (by simp [Try.results134]; rfl) (Fin.of ?_))
      have hnf : NoFault l := by rwa [List.take_of_length_le (Nat.le_refl _)] at hnf
      have hfd : l.find? isFault = none := List.find?_eq_none.2 (fun v hv => by simp [hnf v hv])
      simp [tupOf, bestV, hfd, vl]
set_option maxRecDepth 100000 in
theorem less_ok (a b : Int) : APure Try.prog 135 [vi a, vi b] (vb (decide (a < b))) := by
  refine apure_in Try.func135 Try.ntmps135 rfl ?_
  repeat' first | refine aw_N [] trivial trivial ?_ | refine aw_cond rfl (fun h => ?_) (fun h => ?_)
  rfl
set_option maxRecDepth 100000 in
theorem more_ok (a b : Int) : APure Try.prog 136 [vi a, vi b] (vb (decide (b < a))) := by
  refine apure_in Try.func136 Try.ntmps136 rfl ?_
  repeat' first | refine aw_N [] trivial trivial ?_ | refine aw_cond rfl (fun h => ?_) (fun h => ?_)
  rfl
def lowL (l : List (Int × Int)) : Int × Int := bestV (fun a b => decide (a < b)) l
def highL (l : List (Int × Int)) : Int × Int := bestV (fun a b => decide (b < a)) l
set_option maxRecDepth 100000 in
theorem least_ok (l : List (Int × Int)) (hl : (l.length : Int) ≤ 9223372036854775807) : APure Try.prog 96 [.vsl (l.map vl)] (vl (lowL l)) := by
  have hb := best_ok 135 (fun a b => decide (a < b)) (by kernel_rfl) less_ok l hl
  refine apure_in Try.func96 Try.ntmps96 rfl ?_
  repeat' (first
    | refine aw_seq ?_
    | (refine aw_run [2] ?_; try simp -implicitDefEqProofs (maxSteps := 1000000) [vl])
    | ((first | refine awl_skip' [2] rfl ?_ | refine awl_pure_guard [2] rfl rfl rfl (by first | assumption | kernel_rfl) rfl (fun hc => by first | exact hb) (by simp) (by simp) (by simp) ?_ | refine awl_pure' [2] rfl rfl rfl (by first | assumption | kernel_rfl) rfl (by first | exact hb) (by simp) (by simp) ?_ | refine aw_skip ?_ | refine aw_exit ?_); try simp -implicitDefEqProofs (maxSteps := 1000000) [vl])
    | (refine aw_cond rfl (fun h => ?_) (fun h => ?_) <;> try (with_reducible first | exact ff_tt h | exact tt_ff h))
    | refine aw_block ?_
    | refine aw_ret (ret_of (.inr rfl) (by simp [Try.results96]; rfl) (Fin.of ?_))
    | refine ret_of (.inl rfl) (by simp [Try.results96]; rfl) (Fin.of ?_))
  rfl
set_option maxRecDepth 100000 in
theorem greatest_ok (l : List (Int × Int)) (hl : (l.length : Int) ≤ 9223372036854775807) : APure Try.prog 97 [.vsl (l.map vl)] (vl (highL l)) := by
  have hb := best_ok 136 (fun a b => decide (b < a)) (by kernel_rfl) more_ok l hl
  refine apure_in Try.func97 Try.ntmps97 rfl ?_
  repeat' (first
    | refine aw_seq ?_
    | (refine aw_run [2] ?_; try simp -implicitDefEqProofs (maxSteps := 1000000) [vl])
    | ((first | refine awl_skip' [2] rfl ?_ | refine awl_pure_guard [2] rfl rfl rfl (by first | assumption | kernel_rfl) rfl (fun hc => by first | exact hb) (by simp) (by simp) (by simp) ?_ | refine awl_pure' [2] rfl rfl rfl (by first | assumption | kernel_rfl) rfl (by first | exact hb) (by simp) (by simp) ?_ | refine aw_skip ?_ | refine aw_exit ?_); try simp -implicitDefEqProofs (maxSteps := 1000000) [vl])
    | (refine aw_cond rfl (fun h => ?_) (fun h => ?_) <;> try (with_reducible first | exact ff_tt h | exact tt_ff h))
    | refine aw_block ?_
    | refine aw_ret (ret_of (.inr rfl) (by simp [Try.results97]; rfl) (Fin.of ?_))
    | refine ret_of (.inl rfl) (by simp [Try.results97]; rfl) (Fin.of ?_))
  rfl
end Go.AL
/-! Contracts: gridironref03.Sum, Best. -/
namespace Go.AL
open Go.Proofs
set_option linter.unusedSimpArgs false
set_option linter.unusedVariables false
end Go.AL
/-! Contracts: lexer's small functions. -/
namespace Go.AL
open Go.Proofs
set_option linter.unusedSimpArgs false
set_option linter.unusedVariables false
def figR (c : Int) : Bool := decide (48 ≤ c) && decide (c ≤ 57)
def letR (c : Int) : Bool := decide (65 ≤ c) && decide (c ≤ 90)
/-- How many of the first bytes are so. -/
def leadL (p : Int → Bool) (s : ByteArray) : Nat := (s.data.toList.takeWhile fun b => p b.toNat).length
end Go.AL
/-! Contracts: the library's texts (HasPrefix, TrimLeft by one byte). -/
namespace Go.AL
open Go.Proofs
set_option linter.unusedSimpArgs false
set_option linter.unusedVariables false
theorem bsizeL (a : Array UInt8) : (⟨a⟩ : ByteArray).size = a.size := rfl
theorem u8c {x c : UInt8} : ((x.toNat : Int) = (c.toNat : Int)) ↔ x = c := ⟨fun h => UInt8.toNat_inj.1 (by omega), fun h => by rw [h]⟩
/-- Does a text begin so? -/
def hasPre (s p : ByteArray) : Bool := decide (p.size ≤ s.size) && decide (s.extract 0 p.size = p)
end Go.AL
/-! Contracts: lexer.number, mark. -/
namespace Go.AL
open Go.Proofs
set_option linter.unusedSimpArgs false
set_option linter.unusedVariables false
abbrev token (k n c r : Int) (t : ByteArray) (f : Int) : AV := .agg [vi k, vi n, vi c, vi r, vs t, vi f]
/-- The leading figures. -/
def leadS (p : Int → Bool) (s : ByteArray) : ByteArray := s.extract 0 (leadL p s)
theorem leadL_le (p : Int → Bool) (s : ByteArray) : leadL p s ≤ s.size := by
  unfold leadL
  have h1 := (List.takeWhile_sublist (l := s.data.toList) (fun b : UInt8 => p b.toNat)).length_le
  rw [Array.length_toList] at h1
  exact h1
/-- How long the mark is with which a text begins. -/
def markN : List UInt8 → Nat
  | [] => 0
  | b :: l => if b = 60 then (if hasPre ⟨⟨b :: l⟩⟩ ⟨#[60, 62]⟩ = true ∨ hasPre ⟨⟨l⟩⟩ ⟨#[61]⟩ = true then 2 else 1) else if b = 62 then (if hasPre ⟨⟨l⟩⟩ ⟨#[61]⟩ = true then 2 else 1)
    else if b = 43 ∨ b = 45 ∨ b = 42 ∨ b = 47 ∨ b = 40 ∨ b = 41 ∨ b = 44 ∨ b = 58 ∨ b = 61 then 1 else 0
end Go.AL
/-! Contracts: place. -/
namespace Go.AL
open Go.Proofs
set_option linter.unusedSimpArgs false
set_option linter.unusedVariables false
abbrev place (c r : Int) : AV := .agg [vi c, vi r]
def rightP (c r : Int) : Bool := decide (0 ≤ c) && decide (c < 16) && decide (0 ≤ r) && decide (r < 64)
set_option maxRecDepth 100000 in
theorem right_ok (c r : Int) : APure Try.prog 110 [place c r] (vb (rightP c r)) := by
  refine apure_in Try.func110 Try.ntmps110 rfl ?_
  repeat' first | refine aw_N [] trivial trivial ?_ | refine aw_cond rfl (fun h => ?_) (fun h => ?_)
  simp [rightP]
def atC (i : Int) : Int := if 0 ≤ i ∧ i < 1024 then i % 16 else 0
def atR (i : Int) : Int := if 0 ≤ i ∧ i < 1024 then i / 16 else 0
theorem mn (a b : Int) : (if b < a then b else a) = min a b := by omega
theorem mx (a b : Int) : (if a < b then b else a) = max a b := by omega
abbrev range (a b c d : Int) : AV := .agg [vi a, vi b, vi c, vi d]
def spanP (a b c d : Int) : Bool := rightP a b && rightP c d
def withinP (c r a b d e : Int) : Bool := decide (a ≤ c) && decide (c ≤ d) && decide (b ≤ r) && decide (r ≤ e)
set_option maxRecDepth 100000 in
theorem within_ok (c r a b d e : Int) : APure Try.prog 112 [place c r, place a b, place d e] (vb (withinP c r a b d e)) := by
  refine apure_in Try.func112 Try.ntmps112 rfl ?_
  repeat' first | refine aw_N [] trivial trivial ?_ | refine aw_cond rfl (fun h => ?_) (fun h => ?_)
  simp [withinP]
def wholeP (a b c d : Int) : Bool := rightP a b && rightP c d && withinP a b a b c d
set_option maxRecDepth 100000 in
theorem whole_ok (a b c d : Int) : APure Try.prog 80 [range a b c d] (vb (wholeP a b c d)) := by
  refine apure_in Try.func80 Try.ntmps80 rfl ?_
  repeat' first | refine aw_N [] trivial (And.intro @right_ok (And.intro @within_ok trivial)) ?_ | refine aw_cond rfl (fun h => ?_) (fun h => ?_)
  simp [wholeP, tupOf]
def hasP (a b c d x y : Int) : Bool := wholeP a b c d && withinP x y a b c d
end Go.AL
/-! Contracts: gridironref02, what has no loop. -/
namespace Go.AL
open Go.Proofs
set_option linter.unusedSimpArgs false
set_option linter.unusedVariables false
def rright (c r : Int) : Bool := decide (0 ≤ c) && decide (c ≤ 15) && decide (0 ≤ r) && decide (r ≤ 63)
theorem rright_eq (c r : Int) : rright c r = rightP c r := by unfold rright rightP; grind
set_option maxRecDepth 100000 in
theorem rright_ok (c r : Int) : APure Try.prog 63 [place c r] (vb (rightP c r)) := by
  rw [← rright_eq]
  refine apure_in Try.func63 Try.ntmps63 rfl ?_
  repeat' first | refine aw_N [] trivial trivial ?_ | refine aw_cond rfl (fun h => ?_) (fun h => ?_)
  simp [rright, tupOf]
set_option maxRecDepth 100000 in
theorem rat_ok (i : Int) : APure Try.prog 43 [vi i] (.tup [place (atC i) (atR i), vb (decide (0 ≤ i ∧ i < 1024))]) := by
  refine apure_in Try.func43 Try.ntmps43 rfl ?_
  repeat' first | refine aw_N [2] trivial trivial ?_ | refine aw_cond rfl (fun h => ?_) (fun h => ?_)
  · simp [tupOf] at h ⊢
    have : ¬ (0 ≤ i ∧ i < 1024) := by omega
    simp [atC, atR, this]
    omega
  · simp [tupOf] at h ⊢
    have h1 : 0 ≤ i ∧ i < 1024 := by omega
    rw [Int.tdiv_eq_ediv_of_nonneg h1.1, wrap_id (by omega) (by omega)]
    simp [atC, atR, h1, Int.tmod_eq_emod_of_nonneg h1.1]
set_option maxRecDepth 100000 in
theorem rwhole_ok (a b c d : Int) : APure Try.prog 64 [range a b c d] (vb (wholeP a b c d)) := by
  refine apure_in Try.func64 Try.ntmps64 rfl ?_
  repeat' first | refine aw_N [] trivial (And.intro @rright_ok trivial) ?_ | refine aw_cond rfl (fun h => ?_) (fun h => ?_)
  simp [wholeP, withinP, tupOf]
  all_goals grind
set_option maxRecDepth 100000 in
theorem rhas_ok (a b c d x y : Int) : APure Try.prog 67 [range a b c d, place x y] (vb (hasP a b c d x y)) := by
  refine apure_in Try.func67 Try.ntmps67 rfl ?_
  repeat' first | refine aw_N [] trivial (And.intro @rwhole_ok trivial) ?_ | refine aw_cond rfl (fun h => ?_) (fun h => ?_)
  simp [hasP, withinP, tupOf]
  all_goals grind
set_option maxRecDepth 100000 in
theorem rspan_ok (a b c d : Int) : APure Try.prog 170 [place a b, place c d] (.tup [range (z (spanP a b c d) (min a c)) (z (spanP a b c d) (min b d)) (z (spanP a b c d) (max a c)) (z (spanP a b c d) (max b d)), vb (spanP a b c d)]) := by
  refine apure_in Try.func170 Try.ntmps170 rfl ?_
  repeat' first | refine aw_N [4] trivial (And.intro @rright_ok trivial) ?_ | refine aw_cond rfl (fun h => ?_) (fun h => ?_)
  · have h' : spanP a b c d = false := by simp [spanP] at h ⊢; grind
    simp [h', tupOf]
  · have h' : spanP a b c d = true := by simp [spanP] at h ⊢; exact h
    simp [h', tupOf, mn, mx]
end Go.AL
/-! Contracts: gridironref02.Text. -/
namespace Go.AL
open Go.Proofs
set_option linter.unusedSimpArgs false
set_option linter.unusedVariables false
def letters : ByteArray := ⟨#[65, 66, 67, 68, 69, 70, 71, 72, 73, 74, 75, 76, 77, 78, 79, 80]⟩
def textP (c r : Int) : ByteArray := if rightP c r = true then letters.extract c.toNat (c.toNat + 1) ++ textI (r + 1) else ⟨#[]⟩
theorem rightP_iff' {c r : Int} : rightP c r = true ↔ 0 ≤ c ∧ c < 16 ∧ 0 ≤ r ∧ r < 64 := by simp [rightP, and_assoc]
set_option maxRecDepth 100000 in
theorem rtext_ok (c r : Int) : APure Try.prog 149 [place c r] (vs (textP c r)) := by
  refine apure_in Try.func149 Try.ntmps149 rfl ?_
  refine aw_seq (aw_run [] ?_)
  simp -implicitDefEqProofs
  refine aw_seq (aw_run [] ?_)
  simp -implicitDefEqProofs
  refine awl_pure' [] rfl rfl rfl (by kernel_rfl) rfl (rright_ok c r) (by simp) (by simp) ?_
  simp -implicitDefEqProofs
  refine aw_seq (aw_seq (aw_run [] ?_))
  simp -implicitDefEqProofs
  refine aw_cond rfl (fun h => ?_) (fun h => aw_skip ?_)
  · repeat' first | refine aw_W [] trivial trivial ?_ | refine aw_cond rfl (fun h => ?_) (fun h => ?_)
    have : rightP c r = false := by simpa using h
    simp [tupOf, textP, this]
  · have hR : rightP c r = true := by simpa using h
    have hb := rightP_iff'.1 hR
    obtain ⟨k, rfl⟩ := Int.eq_ofNat_of_zero_le hb.1
    have h1 : IntKind.i64.wrap ((k : Int) + 1) = ((k + 1 : Nat) : Int) := by rw [wrap_id (by omega) (by omega)]; rfl
    have h2 : IntKind.i64.wrap (r + 1) = r + 1 := wrap_id (by omega) (by omega)
    have hk : k ≤ k + 1 ∧ k + 1 ≤ (⟨#[65, 66, 67, 68, 69, 70, 71, 72, 73, 74, 75, 76, 77, 78, 79, 80]⟩ : ByteArray).size := ⟨by omega, by
      have e : (⟨#[65, 66, 67, 68, 69, 70, 71, 72, 73, 74, 75, 76, 77, 78, 79, 80]⟩ : ByteArray).size = 16 := rfl
      omega⟩
    have hn : 0 ≤ (k : Int) + 1 := by omega
    have hs : (letters.extract k (k + 1)).size + (textI (r + 1)).size ≤ 9223372036854775807 := by
      have e1 : (textI (r + 1)).size ≤ 20 := by
        unfold textI
        rw [if_neg (by omega)]
        exact figs_len _ (by omega)
      have e2 : (letters.extract k (k + 1)).size ≤ 16 := by
        rw [ByteArray.size_extract]
        have e : letters.size = 16 := rfl
        omega
      omega
    unfold letters at hs
    rw [ByteArray.size_extract] at hs
    simp -implicitDefEqProofs
    refine aw_seq (aw_yrun draws (by kernel_rfl) ?_)
    simp -implicitDefEqProofs [h1, h2, hk, hn]
    refine yl_pure rfl rfl rfl (by kernel_rfl) rfl (rtext1_ok (r + 1) (by omega) (by omega)) (by simp) (by simp) ?_
    simp -implicitDefEqProofs [hs]
    repeat' first | refine aw_W [] trivial trivial ?_ | refine aw_cond rfl (fun h => ?_) (fun h => ?_)
    simp [tupOf, textP, hR, letters]
end Go.AL
/-! Contracts: the form of a place's text, by gridironref02. -/
namespace Go.AL
open Go.Proofs
set_option linter.unusedSimpArgs false
set_option linter.unusedVariables false
def digitB (b : UInt8) : Bool := decide (48 ≤ (b.toNat : Int)) && decide ((b.toNat : Int) ≤ 57)
def formedL : List UInt8 → Bool
  | a :: b :: t => decide (t.length ≤ 2) && decide (65 ≤ (a.toNat : Int)) && decide ((a.toNat : Int) ≤ 90) && !decide ((b.toNat : Int) = 48) && (b :: t).all digitB
  | _ => false
def formedP (s : ByteArray) : Bool := formedL s.data.toList
theorem bsize_mk (a : Array UInt8) : (⟨a⟩ : ByteArray).size = a.size := rfl
set_option maxRecDepth 100000 in
theorem rformed_ok (s : ByteArray) (hsz : s.size ≤ 9223372036854775807) : APure Try.prog 148 [vs s] (vb (formedP s)) := by
  obtain ⟨⟨l⟩⟩ := s
  unfold formedP
  match l, hsz with
  | [], _ =>
    refine apure_in Try.func148 Try.ntmps148 rfl ?_
    repeat' first | refine aw_N [] @bsize_mk trivial ?_ | refine aw_cond rfl (fun h => ?_) (fun h => ?_)
    all_goals first | (cases h; done) | simp [tupOf, formedL]
  | [a], _ =>
    refine apure_in Try.func148 Try.ntmps148 rfl ?_
    repeat' first | refine aw_N [] @bsize_mk trivial ?_ | refine aw_cond rfl (fun h => ?_) (fun h => ?_)
    all_goals first | (cases h; done) | simp [tupOf, formedL]
  | a :: b :: t, hsz =>
    simp [bsize_mk] at hsz
    refine apure_in Try.func148 Try.ntmps148 rfl ?_
    refine aw_seq (aw_run [] ?_)
    simp -implicitDefEqProofs
    refine aw_seq (aw_seq (aw_run [] ?_))
    simp -implicitDefEqProofs [bsize_mk]
    refine aw_cond rfl (fun h => ?_) (fun h => aw_skip ?_)
    · repeat' first | refine aw_N [] @bsize_mk trivial ?_ | refine aw_cond rfl (fun h => ?_) (fun h => ?_)
      simp [tupOf, formedL] at h ⊢
      intro h1 h2 h3 h4
      omega
    · simp at h
      simp -implicitDefEqProofs [bsize_mk]
      refine aw_seq (aw_seq (aw_run [] ?_))
      simp -implicitDefEqProofs [bsize_mk]
      refine aw_block (aw_loopK [0, 2, 3] (fun n fr σ => σ = σ0 ∧ ∃ i : Nat, i + n = t.length + 2 ∧ 1 ≤ i ∧ ((b :: t).take (i - 1)).all digitB = true ∧ fr = frm 43 [(0, vs ⟨⟨a :: b :: t⟩⟩), (2, vb false), (3, vi (i : Nat))]) (t.length + 1) ?_ ?_)
      · refine ⟨rfl, 1, by omega, by omega, by simp, by simp⟩
      · rintro n fr σ ⟨rfl, i, hi, h1, hall, rfl⟩
        simp
        refine aw_seq (aw_seq (aw_run [] ?_))
        simp -implicitDefEqProofs [bsize_mk]
        refine aw_cond rfl (fun h => aw_skip ?_) (fun h => aw_exit ?_)
        · have hlt : i < t.length + 2 := by simp at h; omega
          obtain ⟨x, hx⟩ : ∃ x, (a :: b :: t)[i]? = some x := ⟨(a :: b :: t)[i], by simp [hlt]⟩
          have hx1 : (b :: t)[i - 1]? = some x := by
            rw [show i = (i - 1) + 1 by omega, List.getElem?_cons_succ] at hx
            exact hx
          have hnx : IntKind.i64.wrap ((i : Int) + 1) = ((i + 1 : Nat) : Int) := by rw [wrap_id (by omega) (by omega)]; simp
          simp -implicitDefEqProofs
          refine aw_seq (aw_block (aw_seq (aw_run [] ?_)))
          simp -implicitDefEqProofs [hx]
          refine aw_cond rfl (fun h2 => ?_) (fun h2 => aw_skip ?_)
          · repeat' first | refine aw_N [] trivial trivial ?_ | refine aw_cond rfl (fun h => ?_) (fun h => ?_)
            simp [tupOf] at h2 ⊢
            have hm : x ∈ b :: t := List.mem_of_getElem? hx1
            cases hq : formedL (a :: b :: t) with
            | false => rfl
            | true =>
              simp only [formedL, Bool.and_eq_true, List.all_eq_true] at hq
              have := hq.2 x hm
              simp [digitB] at this
              omega
          · simp -implicitDefEqProofs
            refine aw_run [] ?_
            simp -implicitDefEqProofs
            refine ⟨n - 1, by omega, i + 1, by omega, by omega, ?_, by simp [hnx]⟩
            have he : (b :: t).take (i + 1 - 1) = (b :: t).take (i - 1) ++ [x] := by
              rw [show i + 1 - 1 = (i - 1) + 1 by omega, List.take_add_one, hx1]; rfl
            intro y hy
            rw [he, List.mem_append] at hy
            rcases hy with hy | hy
            · exact List.all_eq_true.1 hall y hy
            · obtain rfl : y = x := by simpa using hy
              simp [digitB] at h2 ⊢
              omega
        · have hi2 : i = t.length + 2 := by simp at h; omega
          simp -implicitDefEqProofs
          repeat' first | refine aw_N [] trivial trivial ?_ | refine aw_cond rfl (fun h => ?_) (fun h => ?_)
          have hl : (b :: t).take (i - 1) = b :: t := List.take_of_length_le (by simp; omega)
          rw [hl] at hall
          rename_i h9 _
          have : formedL (a :: b :: t) = true := by
            simp only [formedL, hall, Bool.and_true]
            simp
            omega
          simp [tupOf, this]
end Go.AL
