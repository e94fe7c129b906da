import Derived.Test.YtcicdckjlkekdaaDoorK03b
/-! Contracts: value.Do. -/
namespace Go.AL
open Go.Proofs
set_option linter.unusedSimpArgs false
set_option linter.unusedVariables false
def doK (s : ByteArray) : Nat :=
  if s = ⟨#[43]⟩ then 0 else if s = ⟨#[45]⟩ then 1 else if s = ⟨#[42]⟩ then 2 else if s = ⟨#[47]⟩ then 3 else if s = ⟨#[60]⟩ then 4 else if s = ⟨#[60, 61]⟩ then 5 else if s = ⟨#[61]⟩ then 6 else if s = ⟨#[60, 62]⟩ then 7 else if s = ⟨#[62, 61]⟩ then 8 else if s = ⟨#[62]⟩ then 9 else 10
/-- What an op comes to, by its number. -/
def numK (k : Nat) (a b : Int) : Int :=
  if k = 0 then z (inI (a + b)) (a + b) else if k = 1 then z (inI (a - b)) (a - b) else if k = 2 then z (inI (a * b)) (a * b) else if k = 3 then (if b = 0 then 0 else z (inI (a.tdiv b)) (a.tdiv b))
  else if k = 4 then z (decide (a < b)) 1 else if k = 5 then z (decide (a ≤ b)) 1 else if k = 6 then z (decide (a = b)) 1 else if k = 7 then z (!decide (a = b)) 1 else if k = 8 then z (decide (b ≤ a)) 1 else z (decide (b < a)) 1
def fltK (k : Nat) (a b : Int) : Int :=
  if k = 0 then z (!inI (a + b)) 1 else if k = 1 then z (!inI (a - b)) 1 else if k = 2 then z (!inI (a * b)) 1 else if k = 3 then (if b = 0 then 2 else z (!inI (a.tdiv b)) 1) else 0
def doN (k : Nat) (a fa b fb : Int) : Int := if k = 10 ∨ fa ≠ 0 ∨ fb ≠ 0 then 0 else numK k a b
def doF (k : Nat) (a fa b fb : Int) : Int := if k = 10 then 0 else if fa ≠ 0 then fa else if fb ≠ 0 then fb else fltK k a b
def doB (k : Nat) : Bool := !decide (k = 10)
theorem opsZ : tzero Tryd.prog 61 = some (.p .nilFunc) := by kernel_rfl
theorem find0 : amfind .string (.p (.string ⟨#[43]⟩)) opsE 0 = some (some (0, .fn (.func 88) [] [.vel [vf 49] 0 0])) := by simp [opsE]
theorem find1 : amfind .string (.p (.string ⟨#[45]⟩)) opsE 0 = some (some (1, .fn (.func 88) [] [.vel [vf 50] 0 0])) := by simp [opsE]
theorem find2 : amfind .string (.p (.string ⟨#[42]⟩)) opsE 0 = some (some (2, .fn (.func 88) [] [.vel [vf 51] 0 0])) := by simp [opsE]
theorem find3 : amfind .string (.p (.string ⟨#[47]⟩)) opsE 0 = some (some (3, vf 52)) := by simp [opsE]
theorem find4 : amfind .string (.p (.string ⟨#[60]⟩)) opsE 0 = some (some (4, .fn (.func 90) [] [.vel [vf 54] 0 0])) := by simp [opsE]
theorem find5 : amfind .string (.p (.string ⟨#[60, 61]⟩)) opsE 0 = some (some (5, .fn (.func 90) [] [.vel [vf 55] 0 0])) := by simp [opsE]
theorem find6 : amfind .string (.p (.string ⟨#[61]⟩)) opsE 0 = some (some (6, .fn (.func 90) [] [.vel [vf 56] 0 0])) := by simp [opsE]
theorem find7 : amfind .string (.p (.string ⟨#[60, 62]⟩)) opsE 0 = some (some (7, .fn (.func 90) [] [.vel [vf 57] 0 0])) := by simp [opsE]
theorem find8 : amfind .string (.p (.string ⟨#[62, 61]⟩)) opsE 0 = some (some (8, .fn (.func 90) [] [.vel [vf 58] 0 0])) := by simp [opsE]
theorem find9 : amfind .string (.p (.string ⟨#[62]⟩)) opsE 0 = some (some (9, .fn (.func 90) [] [.vel [vf 59] 0 0])) := by simp [opsE]
set_option maxHeartbeats 8000000 in
set_option maxRecDepth 100000 in
theorem do_ok (s : ByteArray) (a fa b fb : Int) (ha : In64 a) (hb : In64 b) : APure Tryd.prog 11 [vs s, value a fa, value b fb] (.tup [value (doN (doK s) a fa b fb) (doF (doK s) a fa b fb), vb (doB (doK s))]) := by
  by_cases h0 : s = ⟨#[43]⟩
  · subst h0
    have hc := reckon1_ok 49 a b (a + b) (by kernel_rfl) (add_ok ha hb)
    rw [show doK ⟨#[43]⟩ = 0 by decide]
    refine apure_of Tryd.func11 Tryd.ntmps11 rfl ?_
    simp only [List.length_cons, List.length_nil, List.cons_append, List.nil_append, List.replicate]
    refine aw_seq (aw_run [6] ?_)
    simp -implicitDefEqProofs
    refine aw_seq (aw_run [6] ?_)
    simp -implicitDefEqProofs
    refine awl_call' [6] rfl rfl rfl (by kernel_rfl) rfl (ops_ok _) ?_
    simp -implicitDefEqProofs
    refine awl_lookup [6] rfl rfl opsT rfl (by simp) rfl find0 rfl ?_
    simp -implicitDefEqProofs
    repeat' (first
      | refine aw_seq ?_
      | (refine aw_run [6] ?_; simp -implicitDefEqProofs [Nat.lt_irrefl])
      | (refine aw_ymix [6] draws (by decide +kernel) ?_; simp -implicitDefEqProofs [Nat.lt_irrefl])
      | (refine aw_yrun draws (by kernel_rfl) ?_; simp -implicitDefEqProofs [Nat.lt_irrefl])
      | (refine awl_skip' [6] rfl ?_; simp -implicitDefEqProofs [Nat.lt_irrefl])
      | (refine awl_pure_guard [6] rfl rfl rfl (by first | assumption | kernel_rfl) rfl (fun hc => by first | exact faulty_ok _ | exact hc) (by simp) (by simp) (by simp) ?_; simp -implicitDefEqProofs [Nat.lt_irrefl])
      | (refine yl_pureG rfl rfl rfl (by first | assumption | kernel_rfl) rfl (fun hc => by first | exact faulty_ok _ | exact hc) (by simp) (by simp) (by simp) ?_; simp -implicitDefEqProofs [Nat.lt_irrefl])
      | (refine awl_pure' [6] rfl rfl rfl (by first | assumption | kernel_rfl) rfl (by first | exact faulty_ok _ | exact hc) (by simp) (by simp) ?_; simp -implicitDefEqProofs [Nat.lt_irrefl])
      | (refine yl_pure rfl rfl rfl (by first | assumption | kernel_rfl) rfl (by first | exact faulty_ok _ | exact hc) (by simp) (by simp) ?_; simp -implicitDefEqProofs [Nat.lt_irrefl])
      | (refine aw_cond rfl (fun h => ?_) (fun h => ?_) <;> try (with_reducible first | exact ff_tt h | exact tt_ff h))
      | (refine aw_skip ?_; simp -implicitDefEqProofs [Nat.lt_irrefl])
      | refine aw_block ?_
      | (refine aw_exit ?_; simp -implicitDefEqProofs [Nat.lt_irrefl])
      | refine aw_ret (ret_of (.inr rfl) (by simp [Tryd.results11]; rfl) (Fin.of ?_)))
    · simp at h
      simp [tupOf, doN, doF, doB, h]
    · rename_i h1
      simp at h h1
      simp [tupOf, doN, doF, doB, h, h1]
    · rename_i h1
      simp at h h1
      simp [tupOf, doN, doF, doB, h, h1, numK, fltK, Nat.lt_irrefl]
  by_cases h1 : s = ⟨#[45]⟩
  · subst h1
    have hc := reckon1_ok 50 a b (a - b) (by kernel_rfl) (sub_ok ha hb)
    rw [show doK ⟨#[45]⟩ = 1 by decide]
    refine apure_of Tryd.func11 Tryd.ntmps11 rfl ?_
    simp only [List.length_cons, List.length_nil, List.cons_append, List.nil_append, List.replicate]
    refine aw_seq (aw_run [6] ?_)
    simp -implicitDefEqProofs
    refine aw_seq (aw_run [6] ?_)
    simp -implicitDefEqProofs
    refine awl_call' [6] rfl rfl rfl (by kernel_rfl) rfl (ops_ok _) ?_
    simp -implicitDefEqProofs
    refine awl_lookup [6] rfl rfl opsT rfl (by simp) rfl find1 rfl ?_
    simp -implicitDefEqProofs
    repeat' (first
      | refine aw_seq ?_
      | (refine aw_run [6] ?_; simp -implicitDefEqProofs [Nat.lt_irrefl])
      | (refine aw_ymix [6] draws (by decide +kernel) ?_; simp -implicitDefEqProofs [Nat.lt_irrefl])
      | (refine aw_yrun draws (by kernel_rfl) ?_; simp -implicitDefEqProofs [Nat.lt_irrefl])
      | (refine awl_skip' [6] rfl ?_; simp -implicitDefEqProofs [Nat.lt_irrefl])
      | (refine awl_pure_guard [6] rfl rfl rfl (by first | assumption | kernel_rfl) rfl (fun hc => by first | exact faulty_ok _ | exact hc) (by simp) (by simp) (by simp) ?_; simp -implicitDefEqProofs [Nat.lt_irrefl])
      | (refine yl_pureG rfl rfl rfl (by first | assumption | kernel_rfl) rfl (fun hc => by first | exact faulty_ok _ | exact hc) (by simp) (by simp) (by simp) ?_; simp -implicitDefEqProofs [Nat.lt_irrefl])
      | (refine awl_pure' [6] rfl rfl rfl (by first | assumption | kernel_rfl) rfl (by first | exact faulty_ok _ | exact hc) (by simp) (by simp) ?_; simp -implicitDefEqProofs [Nat.lt_irrefl])
      | (refine yl_pure rfl rfl rfl (by first | assumption | kernel_rfl) rfl (by first | exact faulty_ok _ | exact hc) (by simp) (by simp) ?_; simp -implicitDefEqProofs [Nat.lt_irrefl])
      | (refine aw_cond rfl (fun h => ?_) (fun h => ?_) <;> try (with_reducible first | exact ff_tt h | exact tt_ff h))
      | (refine aw_skip ?_; simp -implicitDefEqProofs [Nat.lt_irrefl])
      | refine aw_block ?_
      | (refine aw_exit ?_; simp -implicitDefEqProofs [Nat.lt_irrefl])
      | refine aw_ret (ret_of (.inr rfl) (by simp [Tryd.results11]; rfl) (Fin.of ?_)))
    · simp at h
      simp [tupOf, doN, doF, doB, h]
    · rename_i h1
      simp at h h1
      simp [tupOf, doN, doF, doB, h, h1]
    · rename_i h1
      simp at h h1
      simp [tupOf, doN, doF, doB, h, h1, numK, fltK, Nat.lt_irrefl]
  by_cases h2 : s = ⟨#[42]⟩
  · subst h2
    have hc := reckon1_ok 51 a b (a * b) (by kernel_rfl) (mul_ok ha hb)
    rw [show doK ⟨#[42]⟩ = 2 by decide]
    refine apure_of Tryd.func11 Tryd.ntmps11 rfl ?_
    simp only [List.length_cons, List.length_nil, List.cons_append, List.nil_append, List.replicate]
    refine aw_seq (aw_run [6] ?_)
    simp -implicitDefEqProofs
    refine aw_seq (aw_run [6] ?_)
    simp -implicitDefEqProofs
    refine awl_call' [6] rfl rfl rfl (by kernel_rfl) rfl (ops_ok _) ?_
    simp -implicitDefEqProofs
    refine awl_lookup [6] rfl rfl opsT rfl (by simp) rfl find2 rfl ?_
    simp -implicitDefEqProofs
    repeat' (first
      | refine aw_seq ?_
      | (refine aw_run [6] ?_; simp -implicitDefEqProofs [Nat.lt_irrefl])
      | (refine aw_ymix [6] draws (by decide +kernel) ?_; simp -implicitDefEqProofs [Nat.lt_irrefl])
      | (refine aw_yrun draws (by kernel_rfl) ?_; simp -implicitDefEqProofs [Nat.lt_irrefl])
      | (refine awl_skip' [6] rfl ?_; simp -implicitDefEqProofs [Nat.lt_irrefl])
      | (refine awl_pure_guard [6] rfl rfl rfl (by first | assumption | kernel_rfl) rfl (fun hc => by first | exact faulty_ok _ | exact hc) (by simp) (by simp) (by simp) ?_; simp -implicitDefEqProofs [Nat.lt_irrefl])
      | (refine yl_pureG rfl rfl rfl (by first | assumption | kernel_rfl) rfl (fun hc => by first | exact faulty_ok _ | exact hc) (by simp) (by simp) (by simp) ?_; simp -implicitDefEqProofs [Nat.lt_irrefl])
      | (refine awl_pure' [6] rfl rfl rfl (by first | assumption | kernel_rfl) rfl (by first | exact faulty_ok _ | exact hc) (by simp) (by simp) ?_; simp -implicitDefEqProofs [Nat.lt_irrefl])
      | (refine yl_pure rfl rfl rfl (by first | assumption | kernel_rfl) rfl (by first | exact faulty_ok _ | exact hc) (by simp) (by simp) ?_; simp -implicitDefEqProofs [Nat.lt_irrefl])
      | (refine aw_cond rfl (fun h => ?_) (fun h => ?_) <;> try (with_reducible first | exact ff_tt h | exact tt_ff h))
      | (refine aw_skip ?_; simp -implicitDefEqProofs [Nat.lt_irrefl])
      | refine aw_block ?_
      | (refine aw_exit ?_; simp -implicitDefEqProofs [Nat.lt_irrefl])
      | refine aw_ret (ret_of (.inr rfl) (by simp [Tryd.results11]; rfl) (Fin.of ?_)))
    · simp at h
      simp [tupOf, doN, doF, doB, h]
    · rename_i h1
      simp at h h1
      simp [tupOf, doN, doF, doB, h, h1]
    · rename_i h1
      simp at h h1
      simp [tupOf, doN, doF, doB, h, h1, numK, fltK, Nat.lt_irrefl]
  by_cases h3 : s = ⟨#[47]⟩
  · subst h3
    by_cases b0 : b = 0
    · subst b0
      have hc := quotient_zero a
      rw [show doK ⟨#[47]⟩ = 3 by decide]
      refine apure_of Tryd.func11 Tryd.ntmps11 rfl ?_
      simp only [List.length_cons, List.length_nil, List.cons_append, List.nil_append, List.replicate]
      refine aw_seq (aw_run [6] ?_)
      simp -implicitDefEqProofs
      refine aw_seq (aw_run [6] ?_)
      simp -implicitDefEqProofs
      refine awl_call' [6] rfl rfl rfl (by kernel_rfl) rfl (ops_ok _) ?_
      simp -implicitDefEqProofs
      refine awl_lookup [6] rfl rfl opsT rfl (by simp) rfl find3 rfl ?_
      simp -implicitDefEqProofs
      repeat' (first
        | refine aw_seq ?_
        | (refine aw_run [6] ?_; simp -implicitDefEqProofs [Nat.lt_irrefl])
        | (refine aw_ymix [6] draws (by decide +kernel) ?_; simp -implicitDefEqProofs [Nat.lt_irrefl])
        | (refine aw_yrun draws (by kernel_rfl) ?_; simp -implicitDefEqProofs [Nat.lt_irrefl])
        | (refine awl_skip' [6] rfl ?_; simp -implicitDefEqProofs [Nat.lt_irrefl])
        | (refine awl_pure_guard [6] rfl rfl rfl (by first | assumption | kernel_rfl) rfl (fun hc => by first | exact faulty_ok _ | exact hc) (by simp) (by simp) (by simp) ?_; simp -implicitDefEqProofs [Nat.lt_irrefl])
        | (refine yl_pureG rfl rfl rfl (by first | assumption | kernel_rfl) rfl (fun hc => by first | exact faulty_ok _ | exact hc) (by simp) (by simp) (by simp) ?_; simp -implicitDefEqProofs [Nat.lt_irrefl])
        | (refine awl_pure' [6] rfl rfl rfl (by first | assumption | kernel_rfl) rfl (by first | exact faulty_ok _ | exact hc) (by simp) (by simp) ?_; simp -implicitDefEqProofs [Nat.lt_irrefl])
        | (refine yl_pure rfl rfl rfl (by first | assumption | kernel_rfl) rfl (by first | exact faulty_ok _ | exact hc) (by simp) (by simp) ?_; simp -implicitDefEqProofs [Nat.lt_irrefl])
        | (refine aw_cond rfl (fun h => ?_) (fun h => ?_) <;> try (with_reducible first | exact ff_tt h | exact tt_ff h))
        | (refine aw_skip ?_; simp -implicitDefEqProofs [Nat.lt_irrefl])
        | refine aw_block ?_
        | (refine aw_exit ?_; simp -implicitDefEqProofs [Nat.lt_irrefl])
        | refine aw_ret (ret_of (.inr rfl) (by simp [Tryd.results11]; rfl) (Fin.of ?_)))
      · simp at h
        simp [tupOf, doN, doF, doB, h]
      · rename_i h1
        simp at h h1
        simp [tupOf, doN, doF, doB, h, h1]
      · rename_i h1
        simp at h h1
        simp [tupOf, doN, doF, doB, h, h1, numK, fltK, Nat.lt_irrefl]
    · have hc := quotient_ok ha hb b0
      rw [show doK ⟨#[47]⟩ = 3 by decide]
      refine apure_of Tryd.func11 Tryd.ntmps11 rfl ?_
      simp only [List.length_cons, List.length_nil, List.cons_append, List.nil_append, List.replicate]
      refine aw_seq (aw_run [6] ?_)
      simp -implicitDefEqProofs
      refine aw_seq (aw_run [6] ?_)
      simp -implicitDefEqProofs
      refine awl_call' [6] rfl rfl rfl (by kernel_rfl) rfl (ops_ok _) ?_
      simp -implicitDefEqProofs
      refine awl_lookup [6] rfl rfl opsT rfl (by simp) rfl find3 rfl ?_
      simp -implicitDefEqProofs
      repeat' (first
        | refine aw_seq ?_
        | (refine aw_run [6] ?_; simp -implicitDefEqProofs [b0])
        | (refine aw_ymix [6] draws (by decide +kernel) ?_; simp -implicitDefEqProofs [b0])
        | (refine aw_yrun draws (by kernel_rfl) ?_; simp -implicitDefEqProofs [b0])
        | (refine awl_skip' [6] rfl ?_; simp -implicitDefEqProofs [b0])
        | (refine awl_pure_guard [6] rfl rfl rfl (by first | assumption | kernel_rfl) rfl (fun hc => by first | exact faulty_ok _ | exact hc) (by simp) (by simp) (by simp) ?_; simp -implicitDefEqProofs [b0])
        | (refine yl_pureG rfl rfl rfl (by first | assumption | kernel_rfl) rfl (fun hc => by first | exact faulty_ok _ | exact hc) (by simp) (by simp) (by simp) ?_; simp -implicitDefEqProofs [b0])
        | (refine awl_pure' [6] rfl rfl rfl (by first | assumption | kernel_rfl) rfl (by first | exact faulty_ok _ | exact hc) (by simp) (by simp) ?_; simp -implicitDefEqProofs [b0])
        | (refine yl_pure rfl rfl rfl (by first | assumption | kernel_rfl) rfl (by first | exact faulty_ok _ | exact hc) (by simp) (by simp) ?_; simp -implicitDefEqProofs [b0])
        | (refine aw_cond rfl (fun h => ?_) (fun h => ?_) <;> try (with_reducible first | exact ff_tt h | exact tt_ff h))
        | (refine aw_skip ?_; simp -implicitDefEqProofs [b0])
        | refine aw_block ?_
        | (refine aw_exit ?_; simp -implicitDefEqProofs [b0])
        | refine aw_ret (ret_of (.inr rfl) (by simp [Tryd.results11]; rfl) (Fin.of ?_)))
      · simp at h
        simp [tupOf, doN, doF, doB, h]
      · rename_i h1
        simp at h h1
        simp [tupOf, doN, doF, doB, h, h1]
      · rename_i h1
        simp at h h1
        simp [tupOf, doN, doF, doB, h, h1, numK, fltK, b0]
  by_cases h4 : s = ⟨#[60]⟩
  · subst h4
    have hc := ask1_ok 54 a b (decide (a < b)) (by kernel_rfl) (op1_ok a b)
    rw [show doK ⟨#[60]⟩ = 4 by decide]
    refine apure_of Tryd.func11 Tryd.ntmps11 rfl ?_
    simp only [List.length_cons, List.length_nil, List.cons_append, List.nil_append, List.replicate]
    refine aw_seq (aw_run [6] ?_)
    simp -implicitDefEqProofs
    refine aw_seq (aw_run [6] ?_)
    simp -implicitDefEqProofs
    refine awl_call' [6] rfl rfl rfl (by kernel_rfl) rfl (ops_ok _) ?_
    simp -implicitDefEqProofs
    refine awl_lookup [6] rfl rfl opsT rfl (by simp) rfl find4 rfl ?_
    simp -implicitDefEqProofs
    repeat' (first
      | refine aw_seq ?_
      | (refine aw_run [6] ?_; simp -implicitDefEqProofs [Nat.lt_irrefl])
      | (refine aw_ymix [6] draws (by decide +kernel) ?_; simp -implicitDefEqProofs [Nat.lt_irrefl])
      | (refine aw_yrun draws (by kernel_rfl) ?_; simp -implicitDefEqProofs [Nat.lt_irrefl])
      | (refine awl_skip' [6] rfl ?_; simp -implicitDefEqProofs [Nat.lt_irrefl])
      | (refine awl_pure_guard [6] rfl rfl rfl (by first | assumption | kernel_rfl) rfl (fun hc => by first | exact faulty_ok _ | exact hc) (by simp) (by simp) (by simp) ?_; simp -implicitDefEqProofs [Nat.lt_irrefl])
      | (refine yl_pureG rfl rfl rfl (by first | assumption | kernel_rfl) rfl (fun hc => by first | exact faulty_ok _ | exact hc) (by simp) (by simp) (by simp) ?_; simp -implicitDefEqProofs [Nat.lt_irrefl])
      | (refine awl_pure' [6] rfl rfl rfl (by first | assumption | kernel_rfl) rfl (by first | exact faulty_ok _ | exact hc) (by simp) (by simp) ?_; simp -implicitDefEqProofs [Nat.lt_irrefl])
      | (refine yl_pure rfl rfl rfl (by first | assumption | kernel_rfl) rfl (by first | exact faulty_ok _ | exact hc) (by simp) (by simp) ?_; simp -implicitDefEqProofs [Nat.lt_irrefl])
      | (refine aw_cond rfl (fun h => ?_) (fun h => ?_) <;> try (with_reducible first | exact ff_tt h | exact tt_ff h))
      | (refine aw_skip ?_; simp -implicitDefEqProofs [Nat.lt_irrefl])
      | refine aw_block ?_
      | (refine aw_exit ?_; simp -implicitDefEqProofs [Nat.lt_irrefl])
      | refine aw_ret (ret_of (.inr rfl) (by simp [Tryd.results11]; rfl) (Fin.of ?_)))
    · simp at h
      simp [tupOf, doN, doF, doB, h]
    · rename_i h1
      simp at h h1
      simp [tupOf, doN, doF, doB, h, h1]
    · rename_i h1
      simp at h h1
      simp [tupOf, doN, doF, doB, h, h1, numK, fltK, Nat.lt_irrefl]
  by_cases h5 : s = ⟨#[60, 61]⟩
  · subst h5
    have hc := ask1_ok 55 a b (decide (a ≤ b)) (by kernel_rfl) (op2_ok a b)
    rw [show doK ⟨#[60, 61]⟩ = 5 by decide]
    refine apure_of Tryd.func11 Tryd.ntmps11 rfl ?_
    simp only [List.length_cons, List.length_nil, List.cons_append, List.nil_append, List.replicate]
    refine aw_seq (aw_run [6] ?_)
    simp -implicitDefEqProofs
    refine aw_seq (aw_run [6] ?_)
    simp -implicitDefEqProofs
    refine awl_call' [6] rfl rfl rfl (by kernel_rfl) rfl (ops_ok _) ?_
    simp -implicitDefEqProofs
    refine awl_lookup [6] rfl rfl opsT rfl (by simp) rfl find5 rfl ?_
    simp -implicitDefEqProofs
    repeat' (first
      | refine aw_seq ?_
      | (refine aw_run [6] ?_; simp -implicitDefEqProofs [Nat.lt_irrefl])
      | (refine aw_ymix [6] draws (by decide +kernel) ?_; simp -implicitDefEqProofs [Nat.lt_irrefl])
      | (refine aw_yrun draws (by kernel_rfl) ?_; simp -implicitDefEqProofs [Nat.lt_irrefl])
      | (refine awl_skip' [6] rfl ?_; simp -implicitDefEqProofs [Nat.lt_irrefl])
      | (refine awl_pure_guard [6] rfl rfl rfl (by first | assumption | kernel_rfl) rfl (fun hc => by first | exact faulty_ok _ | exact hc) (by simp) (by simp) (by simp) ?_; simp -implicitDefEqProofs [Nat.lt_irrefl])
      | (refine yl_pureG rfl rfl rfl (by first | assumption | kernel_rfl) rfl (fun hc => by first | exact faulty_ok _ | exact hc) (by simp) (by simp) (by simp) ?_; simp -implicitDefEqProofs [Nat.lt_irrefl])
      | (refine awl_pure' [6] rfl rfl rfl (by first | assumption | kernel_rfl) rfl (by first | exact faulty_ok _ | exact hc) (by simp) (by simp) ?_; simp -implicitDefEqProofs [Nat.lt_irrefl])
      | (refine yl_pure rfl rfl rfl (by first | assumption | kernel_rfl) rfl (by first | exact faulty_ok _ | exact hc) (by simp) (by simp) ?_; simp -implicitDefEqProofs [Nat.lt_irrefl])
      | (refine aw_cond rfl (fun h => ?_) (fun h => ?_) <;> try (with_reducible first | exact ff_tt h | exact tt_ff h))
      | (refine aw_skip ?_; simp -implicitDefEqProofs [Nat.lt_irrefl])
      | refine aw_block ?_
      | (refine aw_exit ?_; simp -implicitDefEqProofs [Nat.lt_irrefl])
      | refine aw_ret (ret_of (.inr rfl) (by simp [Tryd.results11]; rfl) (Fin.of ?_)))
    · simp at h
      simp [tupOf, doN, doF, doB, h]
    · rename_i h1
      simp at h h1
      simp [tupOf, doN, doF, doB, h, h1]
    · rename_i h1
      simp at h h1
      simp [tupOf, doN, doF, doB, h, h1, numK, fltK, Nat.lt_irrefl]
  by_cases h6 : s = ⟨#[61]⟩
  · subst h6
    have hc := ask1_ok 56 a b (decide (a = b)) (by kernel_rfl) (op3_ok a b)
    rw [show doK ⟨#[61]⟩ = 6 by decide]
    refine apure_of Tryd.func11 Tryd.ntmps11 rfl ?_
    simp only [List.length_cons, List.length_nil, List.cons_append, List.nil_append, List.replicate]
    refine aw_seq (aw_run [6] ?_)
    simp -implicitDefEqProofs
    refine aw_seq (aw_run [6] ?_)
    simp -implicitDefEqProofs
    refine awl_call' [6] rfl rfl rfl (by kernel_rfl) rfl (ops_ok _) ?_
    simp -implicitDefEqProofs
    refine awl_lookup [6] rfl rfl opsT rfl (by simp) rfl find6 rfl ?_
    simp -implicitDefEqProofs
    repeat' (first
      | refine aw_seq ?_
      | (refine aw_run [6] ?_; simp -implicitDefEqProofs [Nat.lt_irrefl])
      | (refine aw_ymix [6] draws (by decide +kernel) ?_; simp -implicitDefEqProofs [Nat.lt_irrefl])
      | (refine aw_yrun draws (by kernel_rfl) ?_; simp -implicitDefEqProofs [Nat.lt_irrefl])
      | (refine awl_skip' [6] rfl ?_; simp -implicitDefEqProofs [Nat.lt_irrefl])
      | (refine awl_pure_guard [6] rfl rfl rfl (by first | assumption | kernel_rfl) rfl (fun hc => by first | exact faulty_ok _ | exact hc) (by simp) (by simp) (by simp) ?_; simp -implicitDefEqProofs [Nat.lt_irrefl])
      | (refine yl_pureG rfl rfl rfl (by first | assumption | kernel_rfl) rfl (fun hc => by first | exact faulty_ok _ | exact hc) (by simp) (by simp) (by simp) ?_; simp -implicitDefEqProofs [Nat.lt_irrefl])
      | (refine awl_pure' [6] rfl rfl rfl (by first | assumption | kernel_rfl) rfl (by first | exact faulty_ok _ | exact hc) (by simp) (by simp) ?_; simp -implicitDefEqProofs [Nat.lt_irrefl])
      | (refine yl_pure rfl rfl rfl (by first | assumption | kernel_rfl) rfl (by first | exact faulty_ok _ | exact hc) (by simp) (by simp) ?_; simp -implicitDefEqProofs [Nat.lt_irrefl])
      | (refine aw_cond rfl (fun h => ?_) (fun h => ?_) <;> try (with_reducible first | exact ff_tt h | exact tt_ff h))
      | (refine aw_skip ?_; simp -implicitDefEqProofs [Nat.lt_irrefl])
      | refine aw_block ?_
      | (refine aw_exit ?_; simp -implicitDefEqProofs [Nat.lt_irrefl])
      | refine aw_ret (ret_of (.inr rfl) (by simp [Tryd.results11]; rfl) (Fin.of ?_)))
    · simp at h
      simp [tupOf, doN, doF, doB, h]
    · rename_i h1
      simp at h h1
      simp [tupOf, doN, doF, doB, h, h1]
    · rename_i h1
      simp at h h1
      simp [tupOf, doN, doF, doB, h, h1, numK, fltK, Nat.lt_irrefl]
  by_cases h7 : s = ⟨#[60, 62]⟩
  · subst h7
    have hc := ask1_ok 57 a b (!decide (a = b)) (by kernel_rfl) (op4_ok a b)
    rw [show doK ⟨#[60, 62]⟩ = 7 by decide]
    refine apure_of Tryd.func11 Tryd.ntmps11 rfl ?_
    simp only [List.length_cons, List.length_nil, List.cons_append, List.nil_append, List.replicate]
    refine aw_seq (aw_run [6] ?_)
    simp -implicitDefEqProofs
    refine aw_seq (aw_run [6] ?_)
    simp -implicitDefEqProofs
    refine awl_call' [6] rfl rfl rfl (by kernel_rfl) rfl (ops_ok _) ?_
    simp -implicitDefEqProofs
    refine awl_lookup [6] rfl rfl opsT rfl (by simp) rfl find7 rfl ?_
    simp -implicitDefEqProofs
    repeat' (first
      | refine aw_seq ?_
      | (refine aw_run [6] ?_; simp -implicitDefEqProofs [Nat.lt_irrefl])
      | (refine aw_ymix [6] draws (by decide +kernel) ?_; simp -implicitDefEqProofs [Nat.lt_irrefl])
      | (refine aw_yrun draws (by kernel_rfl) ?_; simp -implicitDefEqProofs [Nat.lt_irrefl])
      | (refine awl_skip' [6] rfl ?_; simp -implicitDefEqProofs [Nat.lt_irrefl])
      | (refine awl_pure_guard [6] rfl rfl rfl (by first | assumption | kernel_rfl) rfl (fun hc => by first | exact faulty_ok _ | exact hc) (by simp) (by simp) (by simp) ?_; simp -implicitDefEqProofs [Nat.lt_irrefl])
      | (refine yl_pureG rfl rfl rfl (by first | assumption | kernel_rfl) rfl (fun hc => by first | exact faulty_ok _ | exact hc) (by simp) (by simp) (by simp) ?_; simp -implicitDefEqProofs [Nat.lt_irrefl])
      | (refine awl_pure' [6] rfl rfl rfl (by first | assumption | kernel_rfl) rfl (by first | exact faulty_ok _ | exact hc) (by simp) (by simp) ?_; simp -implicitDefEqProofs [Nat.lt_irrefl])
      | (refine yl_pure rfl rfl rfl (by first | assumption | kernel_rfl) rfl (by first | exact faulty_ok _ | exact hc) (by simp) (by simp) ?_; simp -implicitDefEqProofs [Nat.lt_irrefl])
      | (refine aw_cond rfl (fun h => ?_) (fun h => ?_) <;> try (with_reducible first | exact ff_tt h | exact tt_ff h))
      | (refine aw_skip ?_; simp -implicitDefEqProofs [Nat.lt_irrefl])
      | refine aw_block ?_
      | (refine aw_exit ?_; simp -implicitDefEqProofs [Nat.lt_irrefl])
      | refine aw_ret (ret_of (.inr rfl) (by simp [Tryd.results11]; rfl) (Fin.of ?_)))
    · simp at h
      simp [tupOf, doN, doF, doB, h]
    · rename_i h1
      simp at h h1
      simp [tupOf, doN, doF, doB, h, h1]
    · rename_i h1
      simp at h h1
      simp [tupOf, doN, doF, doB, h, h1, numK, fltK, Nat.lt_irrefl]
  by_cases h8 : s = ⟨#[62, 61]⟩
  · subst h8
    have hc := ask1_ok 58 a b (decide (b ≤ a)) (by kernel_rfl) (op5_ok a b)
    rw [show doK ⟨#[62, 61]⟩ = 8 by decide]
    refine apure_of Tryd.func11 Tryd.ntmps11 rfl ?_
    simp only [List.length_cons, List.length_nil, List.cons_append, List.nil_append, List.replicate]
    refine aw_seq (aw_run [6] ?_)
    simp -implicitDefEqProofs
    refine aw_seq (aw_run [6] ?_)
    simp -implicitDefEqProofs
    refine awl_call' [6] rfl rfl rfl (by kernel_rfl) rfl (ops_ok _) ?_
    simp -implicitDefEqProofs
    refine awl_lookup [6] rfl rfl opsT rfl (by simp) rfl find8 rfl ?_
    simp -implicitDefEqProofs
    repeat' (first
      | refine aw_seq ?_
      | (refine aw_run [6] ?_; simp -implicitDefEqProofs [Nat.lt_irrefl])
      | (refine aw_ymix [6] draws (by decide +kernel) ?_; simp -implicitDefEqProofs [Nat.lt_irrefl])
      | (refine aw_yrun draws (by kernel_rfl) ?_; simp -implicitDefEqProofs [Nat.lt_irrefl])
      | (refine awl_skip' [6] rfl ?_; simp -implicitDefEqProofs [Nat.lt_irrefl])
      | (refine awl_pure_guard [6] rfl rfl rfl (by first | assumption | kernel_rfl) rfl (fun hc => by first | exact faulty_ok _ | exact hc) (by simp) (by simp) (by simp) ?_; simp -implicitDefEqProofs [Nat.lt_irrefl])
      | (refine yl_pureG rfl rfl rfl (by first | assumption | kernel_rfl) rfl (fun hc => by first | exact faulty_ok _ | exact hc) (by simp) (by simp) (by simp) ?_; simp -implicitDefEqProofs [Nat.lt_irrefl])
      | (refine awl_pure' [6] rfl rfl rfl (by first | assumption | kernel_rfl) rfl (by first | exact faulty_ok _ | exact hc) (by simp) (by simp) ?_; simp -implicitDefEqProofs [Nat.lt_irrefl])
      | (refine yl_pure rfl rfl rfl (by first | assumption | kernel_rfl) rfl (by first | exact faulty_ok _ | exact hc) (by simp) (by simp) ?_; simp -implicitDefEqProofs [Nat.lt_irrefl])
      | (refine aw_cond rfl (fun h => ?_) (fun h => ?_) <;> try (with_reducible first | exact ff_tt h | exact tt_ff h))
      | (refine aw_skip ?_; simp -implicitDefEqProofs [Nat.lt_irrefl])
      | refine aw_block ?_
      | (refine aw_exit ?_; simp -implicitDefEqProofs [Nat.lt_irrefl])
      | refine aw_ret (ret_of (.inr rfl) (by simp [Tryd.results11]; rfl) (Fin.of ?_)))
    · simp at h
      simp [tupOf, doN, doF, doB, h]
    · rename_i h1
      simp at h h1
      simp [tupOf, doN, doF, doB, h, h1]
    · rename_i h1
      simp at h h1
      simp [tupOf, doN, doF, doB, h, h1, numK, fltK, Nat.lt_irrefl]
  by_cases h9 : s = ⟨#[62]⟩
  · subst h9
    have hc := ask1_ok 59 a b (decide (b < a)) (by kernel_rfl) (op6_ok a b)
    rw [show doK ⟨#[62]⟩ = 9 by decide]
    refine apure_of Tryd.func11 Tryd.ntmps11 rfl ?_
    simp only [List.length_cons, List.length_nil, List.cons_append, List.nil_append, List.replicate]
    refine aw_seq (aw_run [6] ?_)
    simp -implicitDefEqProofs
    refine aw_seq (aw_run [6] ?_)
    simp -implicitDefEqProofs
    refine awl_call' [6] rfl rfl rfl (by kernel_rfl) rfl (ops_ok _) ?_
    simp -implicitDefEqProofs
    refine awl_lookup [6] rfl rfl opsT rfl (by simp) rfl find9 rfl ?_
    simp -implicitDefEqProofs
    repeat' (first
      | refine aw_seq ?_
      | (refine aw_run [6] ?_; simp -implicitDefEqProofs [Nat.lt_irrefl])
      | (refine aw_ymix [6] draws (by decide +kernel) ?_; simp -implicitDefEqProofs [Nat.lt_irrefl])
      | (refine aw_yrun draws (by kernel_rfl) ?_; simp -implicitDefEqProofs [Nat.lt_irrefl])
      | (refine awl_skip' [6] rfl ?_; simp -implicitDefEqProofs [Nat.lt_irrefl])
      | (refine awl_pure_guard [6] rfl rfl rfl (by first | assumption | kernel_rfl) rfl (fun hc => by first | exact faulty_ok _ | exact hc) (by simp) (by simp) (by simp) ?_; simp -implicitDefEqProofs [Nat.lt_irrefl])
      | (refine yl_pureG rfl rfl rfl (by first | assumption | kernel_rfl) rfl (fun hc => by first | exact faulty_ok _ | exact hc) (by simp) (by simp) (by simp) ?_; simp -implicitDefEqProofs [Nat.lt_irrefl])
      | (refine awl_pure' [6] rfl rfl rfl (by first | assumption | kernel_rfl) rfl (by first | exact faulty_ok _ | exact hc) (by simp) (by simp) ?_; simp -implicitDefEqProofs [Nat.lt_irrefl])
      | (refine yl_pure rfl rfl rfl (by first | assumption | kernel_rfl) rfl (by first | exact faulty_ok _ | exact hc) (by simp) (by simp) ?_; simp -implicitDefEqProofs [Nat.lt_irrefl])
      | (refine aw_cond rfl (fun h => ?_) (fun h => ?_) <;> try (with_reducible first | exact ff_tt h | exact tt_ff h))
      | (refine aw_skip ?_; simp -implicitDefEqProofs [Nat.lt_irrefl])
      | refine aw_block ?_
      | (refine aw_exit ?_; simp -implicitDefEqProofs [Nat.lt_irrefl])
      | refine aw_ret (ret_of (.inr rfl) (by simp [Tryd.results11]; rfl) (Fin.of ?_)))
    · simp at h
      simp [tupOf, doN, doF, doB, h]
    · rename_i h1
      simp at h h1
      simp [tupOf, doN, doF, doB, h, h1]
    · rename_i h1
      simp at h h1
      simp [tupOf, doN, doF, doB, h, h1, numK, fltK, Nat.lt_irrefl]
  have hk : doK s = 10 := by simp [doK, h0, h1, h2, h3, h4, h5, h6, h7, h8, h9]
  have hf : amfind .string (.p (.string s)) opsE 0 = some none := by simp [opsE, h0, h1, h2, h3, h4, h5, h6, h7, h8, h9]
  rw [hk]
  refine apure_of Tryd.func11 Tryd.ntmps11 rfl ?_
  simp only [List.length_cons, List.length_nil, List.cons_append, List.nil_append, List.replicate]
  refine aw_seq (aw_run [6] ?_)
  simp -implicitDefEqProofs
  refine aw_seq (aw_run [6] ?_)
  simp -implicitDefEqProofs
  refine awl_call' [6] rfl rfl rfl (by kernel_rfl) rfl (ops_ok _) ?_
  simp -implicitDefEqProofs
  refine awl_lookup [6] rfl rfl opsT rfl (by simp) rfl hf opsZ ?_
  simp -implicitDefEqProofs
  repeat' (first
    | refine aw_seq ?_
    | (refine aw_run [6] ?_; simp -implicitDefEqProofs)
    | (refine aw_ymix [6] draws (by decide +kernel) ?_; simp -implicitDefEqProofs)
    | (refine aw_yrun draws (by kernel_rfl) ?_; simp -implicitDefEqProofs)
    | (refine awl_skip' [6] rfl ?_; simp -implicitDefEqProofs)
    | (refine awl_pure_guard [6] rfl rfl rfl (by first | assumption | kernel_rfl) rfl (fun hc => by first | exact faulty_ok _) (by simp) (by simp) (by simp) ?_; simp -implicitDefEqProofs)
    | (refine yl_pureG rfl rfl rfl (by first | assumption | kernel_rfl) rfl (fun hc => by first | exact faulty_ok _) (by simp) (by simp) (by simp) ?_; simp -implicitDefEqProofs)
    | (refine awl_pure' [6] rfl rfl rfl (by first | assumption | kernel_rfl) rfl (by first | exact faulty_ok _) (by simp) (by simp) ?_; simp -implicitDefEqProofs)
    | (refine yl_pure rfl rfl rfl (by first | assumption | kernel_rfl) rfl (by first | exact faulty_ok _) (by simp) (by simp) ?_; simp -implicitDefEqProofs)
    | (refine aw_cond rfl (fun h => ?_) (fun h => ?_) <;> try (with_reducible first | exact ff_tt h | exact tt_ff h))
    | (refine aw_skip ?_; simp -implicitDefEqProofs)
    | refine aw_block ?_
    | (refine aw_exit ?_; simp -implicitDefEqProofs)
    | refine aw_ret (ret_of (.inr rfl) (by simp [Tryd.results11]; rfl) (Fin.of ?_)))
  all_goals simp [tupOf, doN, doF, doB]
end Go.AL
