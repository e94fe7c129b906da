/- Parts of the proof of EvalTells: the logic, contracts, plain laws. -/
import Derived.Test.YtjldlcakinmajaaGreatZEvalTells12
/-! Contracts: value. -/
namespace Go.AL
open Go.Proofs
set_option linter.unusedSimpArgs false
set_option linter.unusedVariables false
abbrev value (n f : Int) : AV := .agg [vi n, vi f]
abbrev vf (n : Nat) : AV := .p (.func (.func n) #[] #[])
set_option maxRecDepth 100000 in
theorem faulty_ok (f : Int) : APure Tryz.prog 35 [vi f] (value 0 f) := by
  refine apure_in Tryz.func35 Tryz.ntmps35 rfl ?_
  repeat' first | refine aw_N [2] trivial trivial ?_ | refine aw_cond rfl (fun h => ?_) (fun h => ?_)
  rfl
set_option maxRecDepth 100000 in
theorem fine_ok (n : Int) (ok : Bool) (f : Int) : APure Tryz.prog 37 [vi n, vb ok, vi f] (value (z ok n) (z (!ok) f)) := by
  cases ok
  · refine apure_in Tryz.func37 Tryz.ntmps37 rfl ?_
    repeat' first | refine aw_N [6] trivial (And.intro @faulty_ok trivial) ?_ | refine aw_cond rfl (fun h => ?_) (fun h => ?_)
    rfl
  · refine apure_in Tryz.func37 Tryz.ntmps37 rfl ?_
    repeat' first | refine aw_N [6] trivial (And.intro @faulty_ok trivial) ?_ | refine aw_cond rfl (fun h => ?_) (fun h => ?_)
    rfl
set_option maxRecDepth 100000 in
theorem truth_ok (b : Bool) : APure Tryz.prog 102 [vb b] (value (z b 1) 0) := by
  cases b
  · refine apure_in Tryz.func102 Tryz.ntmps102 rfl ?_
    repeat' first | refine aw_N [2] trivial trivial ?_ | refine aw_cond rfl (fun h => ?_) (fun h => ?_)
    rfl
  · refine apure_in Tryz.func102 Tryz.ntmps102 rfl ?_
    repeat' first | refine aw_N [2] trivial trivial ?_ | refine aw_cond rfl (fun h => ?_) (fun h => ?_)
    rfl
set_option maxRecDepth 100000 in
theorem reckon_ok (g : Nat) : APure Tryz.prog 67 [vf g] (.fn (.func 99) [] [.vel [vf g] 0 0]) := by
  refine apure_in Tryz.func67 Tryz.ntmps67 rfl ?_
  repeat' first | refine aw_N [] trivial trivial ?_ | refine aw_cond rfl (fun h => ?_) (fun h => ?_)
  rfl
set_option maxRecDepth 100000 in
theorem reckon1_ok (g : Nat) (a b c : Int) (hc : callable Tryz.prog g = true) (h : APure Tryz.prog g [vi a, vi b] (chk c)) : APure Tryz.prog 99 [vi a, vi b, .vel [vf g] 0 0] (value (z (inI c) c) (z (!inI c) 1)) := by
  refine apure_in Tryz.func99 Tryz.ntmps99 rfl ?_
  repeat' first | refine aw_N [5] trivial (And.intro @h (And.intro @fine_ok trivial)) ?_ | refine aw_cond rfl (fun h => ?_) (fun h => ?_)
  cases inI c <;> rfl
set_option maxRecDepth 100000 in
theorem ask_ok (g : Nat) : APure Tryz.prog 71 [vf g] (.fn (.func 101) [] [.vel [vf g] 0 0]) := by
  refine apure_in Tryz.func71 Tryz.ntmps71 rfl ?_
  repeat' first | refine aw_N [] trivial trivial ?_ | refine aw_cond rfl (fun h => ?_) (fun h => ?_)
  rfl
set_option maxRecDepth 100000 in
theorem ask1_ok (g : Nat) (a b : Int) (t : Bool) (hc : callable Tryz.prog g = true) (h : APure Tryz.prog g [vi a, vi b] (vb t)) : APure Tryz.prog 101 [vi a, vi b, .vel [vf g] 0 0] (value (z t 1) 0) := by
  refine apure_in Tryz.func101 Tryz.ntmps101 rfl ?_
  repeat' first | refine aw_N [5] trivial (And.intro @h (And.intro @truth_ok trivial)) ?_ | refine aw_cond rfl (fun h => ?_) (fun h => ?_)
  rfl
set_option maxRecDepth 100000 in
theorem op1_ok (a b : Int) : APure Tryz.prog 72 [vi a, vi b] (vb (decide (a < b))) := by
  refine apure_in Tryz.func72 Tryz.ntmps72 rfl ?_
  repeat' first | refine aw_N [] trivial trivial ?_ | refine aw_cond rfl (fun h => ?_) (fun h => ?_)
  rfl
set_option maxRecDepth 100000 in
theorem op2_ok (a b : Int) : APure Tryz.prog 73 [vi a, vi b] (vb (decide (a ≤ b))) := by
  refine apure_in Tryz.func73 Tryz.ntmps73 rfl ?_
  repeat' first | refine aw_N [] trivial trivial ?_ | refine aw_cond rfl (fun h => ?_) (fun h => ?_)
  rfl
set_option maxRecDepth 100000 in
theorem op3_ok (a b : Int) : APure Tryz.prog 74 [vi a, vi b] (vb (decide (a = b))) := by
  refine apure_in Tryz.func74 Tryz.ntmps74 rfl ?_
  repeat' first | refine aw_N [] trivial trivial ?_ | refine aw_cond rfl (fun h => ?_) (fun h => ?_)
  rfl
set_option maxRecDepth 100000 in
theorem op4_ok (a b : Int) : APure Tryz.prog 75 [vi a, vi b] (vb (!decide (a = b))) := by
  refine apure_in Tryz.func75 Tryz.ntmps75 rfl ?_
  repeat' first | refine aw_N [] trivial trivial ?_ | refine aw_cond rfl (fun h => ?_) (fun h => ?_)
  rfl
set_option maxRecDepth 100000 in
theorem op5_ok (a b : Int) : APure Tryz.prog 76 [vi a, vi b] (vb (decide (b ≤ a))) := by
  refine apure_in Tryz.func76 Tryz.ntmps76 rfl ?_
  repeat' first | refine aw_N [] trivial trivial ?_ | refine aw_cond rfl (fun h => ?_) (fun h => ?_)
  rfl
set_option maxRecDepth 100000 in
theorem op6_ok (a b : Int) : APure Tryz.prog 77 [vi a, vi b] (vb (decide (b < a))) := by
  refine apure_in Tryz.func77 Tryz.ntmps77 rfl ?_
  repeat' first | refine aw_N [] trivial trivial ?_ | refine aw_cond rfl (fun h => ?_) (fun h => ?_)
  rfl
set_option maxRecDepth 100000 in
theorem quotient_zero (a : Int) : APure Tryz.prog 70 [vi a, vi 0] (value 0 2) := by
  refine apure_in Tryz.func70 Tryz.ntmps70 rfl ?_
  repeat' first | refine aw_N [4] trivial (And.intro @faulty_ok trivial) ?_ | refine aw_cond rfl (fun h => ?_) (fun h => ?_)
  rfl
set_option maxRecDepth 100000 in
theorem quotient_ok {a b : Int} (ha : In64 a) (hb : In64 b) (b0 : b ≠ 0) : APure Tryz.prog 70 [vi a, vi b] (value (z (inI (a.tdiv b)) (a.tdiv b)) (z (!inI (a.tdiv b)) 1)) := by
  have hc : callable Tryz.prog 100 = true := by kernel_rfl
  have hd := reckon1_ok 100 a b (a.tdiv b) hc (div_ok ha hb b0)
  refine apure_in Tryz.func70 Tryz.ntmps70 rfl ?_
  repeat' first | refine aw_N [4] @b0 (And.intro @faulty_ok (And.intro @reckon_ok (And.intro @hd trivial))) ?_ | refine aw_cond rfl (fun h => ?_) (fun h => ?_)
  rfl
end Go.AL
/-! Contracts: value.ops, value.Do. -/
namespace Go.AL
open Go.Proofs
set_option linter.unusedSimpArgs false
set_option linter.unusedVariables false
attribute [simp] amput amfind akey
/-- What they do. -/
def opsE : List (AV × AV) :=
  [(.p (.string ⟨#[43]⟩), .fn (.func 99) [] [.vel [vf 68] 0 0]), (.p (.string ⟨#[45]⟩), .fn (.func 99) [] [.vel [vf 66] 0 0]),
   (.p (.string ⟨#[42]⟩), .fn (.func 99) [] [.vel [vf 69] 0 0]), (.p (.string ⟨#[47]⟩), vf 70),
   (.p (.string ⟨#[60]⟩), .fn (.func 101) [] [.vel [vf 72] 0 0]), (.p (.string ⟨#[60, 61]⟩), .fn (.func 101) [] [.vel [vf 73] 0 0]),
   (.p (.string ⟨#[61]⟩), .fn (.func 101) [] [.vel [vf 74] 0 0]), (.p (.string ⟨#[60, 62]⟩), .fn (.func 101) [] [.vel [vf 75] 0 0]),
   (.p (.string ⟨#[62, 61]⟩), .fn (.func 101) [] [.vel [vf 76] 0 0]), (.p (.string ⟨#[62]⟩), .fn (.func 101) [] [.vel [vf 77] 0 0])]
theorem opsT : tmap Tryz.prog 78 = some (.string, 76) := by kernel_rfl
set_option maxRecDepth 100000 in
theorem ops_ok (σ : ASt) : ACall Tryz.prog 38 [] σ fun r τ => r = .map σ.next ∧ τ = { σ with mp := upd σ.mp σ.next (some opsE), next := σ.next + 1 } := by
  refine acall_of Tryz.func38 Tryz.ntmps38 rfl ?_
  simp only [List.length_cons, List.length_nil, List.cons_append, List.nil_append, List.replicate]
  refine aw_seq (aw_run [] ?_)
  simp -implicitDefEqProofs
  refine aw_seq (aw_run [] ?_)
  simp -implicitDefEqProofs
  refine awl_makeMap [] rfl rfl ?_
  simp -implicitDefEqProofs
  repeat' (first
    | (refine awl_pure' [] rfl rfl rfl (by kernel_rfl) rfl (by first | exact reckon_ok _ | exact ask_ok _) (by simp) (by simp) ?_; simp -implicitDefEqProofs)
    | (refine awl_mapNew [] (.inl rfl) rfl opsT rfl (upd_same _ _ _) rfl (by simp) ?_; simp -implicitDefEqProofs))
  repeat' first | refine aw_N [] trivial trivial ?_ | refine aw_cond rfl (fun h => ?_) (fun h => ?_)
  exact ⟨rfl, rfl⟩
end Go.AL
/-! Contracts: value.Do. -/
namespace Go.AL
open Go.Proofs
set_option linter.unusedSimpArgs false
set_option linter.unusedVariables false
def doK (s : ByteArray) : Nat :=
  if s = ⟨#[43]⟩ then 0 else if s = ⟨#[45]⟩ then 1 else if s = ⟨#[42]⟩ then 2 else if s = ⟨#[47]⟩ then 3 else if s = ⟨#[60]⟩ then 4 else if s = ⟨#[60, 61]⟩ then 5 else if s = ⟨#[61]⟩ then 6 else if s = ⟨#[60, 62]⟩ then 7 else if s = ⟨#[62, 61]⟩ then 8 else if s = ⟨#[62]⟩ then 9 else 10
/-- What an op comes to, by its number. -/
def numK (k : Nat) (a b : Int) : Int :=
  if k = 0 then z (inI (a + b)) (a + b) else if k = 1 then z (inI (a - b)) (a - b) else if k = 2 then z (inI (a * b)) (a * b) else if k = 3 then (if b = 0 then 0 else z (inI (a.tdiv b)) (a.tdiv b))
  else if k = 4 then z (decide (a < b)) 1 else if k = 5 then z (decide (a ≤ b)) 1 else if k = 6 then z (decide (a = b)) 1 else if k = 7 then z (!decide (a = b)) 1 else if k = 8 then z (decide (b ≤ a)) 1 else z (decide (b < a)) 1
def fltK (k : Nat) (a b : Int) : Int :=
  if k = 0 then z (!inI (a + b)) 1 else if k = 1 then z (!inI (a - b)) 1 else if k = 2 then z (!inI (a * b)) 1 else if k = 3 then (if b = 0 then 2 else z (!inI (a.tdiv b)) 1) else 0
def doN (k : Nat) (a fa b fb : Int) : Int := if k = 10 ∨ fa ≠ 0 ∨ fb ≠ 0 then 0 else numK k a b
def doF (k : Nat) (a fa b fb : Int) : Int := if k = 10 then 0 else if fa ≠ 0 then fa else if fb ≠ 0 then fb else fltK k a b
def doB (k : Nat) : Bool := !decide (k = 10)
theorem opsZ : tzero Tryz.prog 76 = some (.p .nilFunc) := by kernel_rfl
theorem find0 : amfind .string (.p (.string ⟨#[43]⟩)) opsE 0 = some (some (0, .fn (.func 99) [] [.vel [vf 68] 0 0])) := by simp [opsE]
theorem find1 : amfind .string (.p (.string ⟨#[45]⟩)) opsE 0 = some (some (1, .fn (.func 99) [] [.vel [vf 66] 0 0])) := by simp [opsE]
theorem find2 : amfind .string (.p (.string ⟨#[42]⟩)) opsE 0 = some (some (2, .fn (.func 99) [] [.vel [vf 69] 0 0])) := by simp [opsE]
theorem find3 : amfind .string (.p (.string ⟨#[47]⟩)) opsE 0 = some (some (3, vf 70)) := by simp [opsE]
theorem find4 : amfind .string (.p (.string ⟨#[60]⟩)) opsE 0 = some (some (4, .fn (.func 101) [] [.vel [vf 72] 0 0])) := by simp [opsE]
theorem find5 : amfind .string (.p (.string ⟨#[60, 61]⟩)) opsE 0 = some (some (5, .fn (.func 101) [] [.vel [vf 73] 0 0])) := by simp [opsE]
theorem find6 : amfind .string (.p (.string ⟨#[61]⟩)) opsE 0 = some (some (6, .fn (.func 101) [] [.vel [vf 74] 0 0])) := by simp [opsE]
theorem find7 : amfind .string (.p (.string ⟨#[60, 62]⟩)) opsE 0 = some (some (7, .fn (.func 101) [] [.vel [vf 75] 0 0])) := by simp [opsE]
theorem find8 : amfind .string (.p (.string ⟨#[62, 61]⟩)) opsE 0 = some (some (8, .fn (.func 101) [] [.vel [vf 76] 0 0])) := by simp [opsE]
theorem find9 : amfind .string (.p (.string ⟨#[62]⟩)) opsE 0 = some (some (9, .fn (.func 101) [] [.vel [vf 77] 0 0])) := by simp [opsE]
set_option maxHeartbeats 8000000 in
set_option maxRecDepth 100000 in
theorem do_ok (s : ByteArray) (a fa b fb : Int) (ha : In64 a) (hb : In64 b) : APure Tryz.prog 23 [vs s, value a fa, value b fb] (.tup [value (doN (doK s) a fa b fb) (doF (doK s) a fa b fb), vb (doB (doK s))]) := by
  by_cases h0 : s = ⟨#[43]⟩
  · subst h0
    have hc := reckon1_ok 68 a b (a + b) (by kernel_rfl) (add_ok ha hb)
    rw [show doK ⟨#[43]⟩ = 0 by decide]
    refine apure_in Tryz.func23 Tryz.ntmps23 rfl ?_
    refine aw_seq (aw_run [6] ?_)
    simp -implicitDefEqProofs
    refine aw_seq (aw_run [6] ?_)
    simp -implicitDefEqProofs
    refine awl_call' [6] rfl rfl rfl (by kernel_rfl) rfl (ops_ok _) ?_
    simp -implicitDefEqProofs
    refine awl_lookup [6] rfl rfl opsT rfl (by simp) rfl find0 rfl ?_
    simp -implicitDefEqProofs
    repeat' (first
      | refine aw_seq ?_
      | (refine aw_run [6] ?_; try simp -implicitDefEqProofs (maxSteps := 1000000) [Nat.lt_irrefl])
      | ((first | refine awl_skip' [6] rfl ?_ | refine awl_pure_guard [6] rfl rfl rfl (by first | assumption | kernel_rfl) rfl (fun hc => by first | exact faulty_ok _ | exact hc) (by simp) (by simp) (by simp) ?_ | refine awl_pure' [6] rfl rfl rfl (by first | assumption | kernel_rfl) rfl (by first | exact faulty_ok _ | exact hc) (by simp) (by simp) ?_ | refine aw_skip ?_ | refine aw_exit ?_); try simp -implicitDefEqProofs (maxSteps := 1000000) [Nat.lt_irrefl])
      | (refine aw_cond rfl (fun h => ?_) (fun h => ?_) <;> try (with_reducible first | exact ff_tt h | exact tt_ff h))
      | refine aw_block ?_
      | refine aw_ret (ret_of (.inr rfl) (by simp [Tryz.results23]; rfl) (Fin.of ?_))
      | refine ret_of (.inl rfl) (by simp [Tryz.results23]; rfl) (Fin.of ?_))
    · simp at h
      simp [tupOf, doN, doF, doB, h]
    · rename_i h1
      simp at h h1
      simp [tupOf, doN, doF, doB, h, h1]
    · rename_i h1
      simp at h h1
      simp [tupOf, doN, doF, doB, h, h1, numK, fltK, Nat.lt_irrefl]
  by_cases h1 : s = ⟨#[45]⟩
  · subst h1
    have hc := reckon1_ok 66 a b (a - b) (by kernel_rfl) (sub_ok ha hb)
    rw [show doK ⟨#[45]⟩ = 1 by decide]
    refine apure_in Tryz.func23 Tryz.ntmps23 rfl ?_
    refine aw_seq (aw_run [6] ?_)
    simp -implicitDefEqProofs
    refine aw_seq (aw_run [6] ?_)
    simp -implicitDefEqProofs
    refine awl_call' [6] rfl rfl rfl (by kernel_rfl) rfl (ops_ok _) ?_
    simp -implicitDefEqProofs
    refine awl_lookup [6] rfl rfl opsT rfl (by simp) rfl find1 rfl ?_
    simp -implicitDefEqProofs
    repeat' (first
      | refine aw_seq ?_
      | (refine aw_run [6] ?_; try simp -implicitDefEqProofs (maxSteps := 1000000) [Nat.lt_irrefl])
      | ((first | refine awl_skip' [6] rfl ?_ | refine awl_pure_guard [6] rfl rfl rfl (by first | assumption | kernel_rfl) rfl (fun hc => by first | exact faulty_ok _ | exact hc) (by simp) (by simp) (by simp) ?_ | refine awl_pure' [6] rfl rfl rfl (by first | assumption | kernel_rfl) rfl (by first | exact faulty_ok _ | exact hc) (by simp) (by simp) ?_ | refine aw_skip ?_ | refine aw_exit ?_); try simp -implicitDefEqProofs (maxSteps := 1000000) [Nat.lt_irrefl])
      | (refine aw_cond rfl (fun h => ?_) (fun h => ?_) <;> try (with_reducible first | exact ff_tt h | exact tt_ff h))
      | refine aw_block ?_
      | refine aw_ret (ret_of (.inr rfl) (by simp [Tryz.results23]; rfl) (Fin.of ?_))
      | refine ret_of (.inl rfl) (by simp [Tryz.results23]; rfl) (Fin.of ?_))
    · simp at h
      simp [tupOf, doN, doF, doB, h]
    · rename_i h1
      simp at h h1
      simp [tupOf, doN, doF, doB, h, h1]
    · rename_i h1
      simp at h h1
      simp [tupOf, doN, doF, doB, h, h1, numK, fltK, Nat.lt_irrefl]
  by_cases h2 : s = ⟨#[42]⟩
  · subst h2
    have hc := reckon1_ok 69 a b (a * b) (by kernel_rfl) (mul_ok ha hb)
    rw [show doK ⟨#[42]⟩ = 2 by decide]
    refine apure_in Tryz.func23 Tryz.ntmps23 rfl ?_
    refine aw_seq (aw_run [6] ?_)
    simp -implicitDefEqProofs
    refine aw_seq (aw_run [6] ?_)
    simp -implicitDefEqProofs
    refine awl_call' [6] rfl rfl rfl (by kernel_rfl) rfl (ops_ok _) ?_
    simp -implicitDefEqProofs
    refine awl_lookup [6] rfl rfl opsT rfl (by simp) rfl find2 rfl ?_
    simp -implicitDefEqProofs
    repeat' (first
      | refine aw_seq ?_
      | (refine aw_run [6] ?_; try simp -implicitDefEqProofs (maxSteps := 1000000) [Nat.lt_irrefl])
      | ((first | refine awl_skip' [6] rfl ?_ | refine awl_pure_guard [6] rfl rfl rfl (by first | assumption | kernel_rfl) rfl (fun hc => by first | exact faulty_ok _ | exact hc) (by simp) (by simp) (by simp) ?_ | refine awl_pure' [6] rfl rfl rfl (by first | assumption | kernel_rfl) rfl (by first | exact faulty_ok _ | exact hc) (by simp) (by simp) ?_ | refine aw_skip ?_ | refine aw_exit ?_); try simp -implicitDefEqProofs (maxSteps := 1000000) [Nat.lt_irrefl])
      | (refine aw_cond rfl (fun h => ?_) (fun h => ?_) <;> try (with_reducible first | exact ff_tt h | exact tt_ff h))
      | refine aw_block ?_
      | refine aw_ret (ret_of (.inr rfl) (by simp [Tryz.results23]; rfl) (Fin.of ?_))
      | refine ret_of (.inl rfl) (by simp [Tryz.results23]; rfl) (Fin.of ?_))
    · simp at h
      simp [tupOf, doN, doF, doB, h]
    · rename_i h1
      simp at h h1
      simp [tupOf, doN, doF, doB, h, h1]
    · rename_i h1
      simp at h h1
      simp [tupOf, doN, doF, doB, h, h1, numK, fltK, Nat.lt_irrefl]
  by_cases h3 : s = ⟨#[47]⟩
  · subst h3
    by_cases b0 : b = 0
    · subst b0
      have hc := quotient_zero a
      rw [show doK ⟨#[47]⟩ = 3 by decide]
      refine apure_in Tryz.func23 Tryz.ntmps23 rfl ?_
      refine aw_seq (aw_run [6] ?_)
      simp -implicitDefEqProofs
      refine aw_seq (aw_run [6] ?_)
      simp -implicitDefEqProofs
      refine awl_call' [6] rfl rfl rfl (by kernel_rfl) rfl (ops_ok _) ?_
      simp -implicitDefEqProofs
      refine awl_lookup [6] rfl rfl opsT rfl (by simp) rfl find3 rfl ?_
      simp -implicitDefEqProofs
      repeat' (first
        | refine aw_seq ?_
        | (refine aw_run [6] ?_; try simp -implicitDefEqProofs (maxSteps := 1000000) [Nat.lt_irrefl])
        | ((first | refine awl_skip' [6] rfl ?_ | refine awl_pure_guard [6] rfl rfl rfl (by first | assumption | kernel_rfl) rfl (fun hc => by first | exact faulty_ok _ | exact hc) (by simp) (by simp) (by simp) ?_ | refine awl_pure' [6] rfl rfl rfl (by first | assumption | kernel_rfl) rfl (by first | exact faulty_ok _ | exact hc) (by simp) (by simp) ?_ | refine aw_skip ?_ | refine aw_exit ?_); try simp -implicitDefEqProofs (maxSteps := 1000000) [Nat.lt_irrefl])
        | (refine aw_cond rfl (fun h => ?_) (fun h => ?_) <;> try (with_reducible first | exact ff_tt h | exact tt_ff h))
        | refine aw_block ?_
        | refine aw_ret (ret_of (.inr rfl) (by simp [Tryz.results23]; rfl) (Fin.of ?_))
        | refine ret_of (.inl rfl) (by simp [Tryz.results23]; rfl) (Fin.of ?_))
      · simp at h
        simp [tupOf, doN, doF, doB, h]
      · rename_i h1
        simp at h h1
        simp [tupOf, doN, doF, doB, h, h1]
      · rename_i h1
        simp at h h1
        simp [tupOf, doN, doF, doB, h, h1, numK, fltK, Nat.lt_irrefl]
    · have hc := quotient_ok ha hb b0
      rw [show doK ⟨#[47]⟩ = 3 by decide]
      refine apure_in Tryz.func23 Tryz.ntmps23 rfl ?_
      refine aw_seq (aw_run [6] ?_)
      simp -implicitDefEqProofs
      refine aw_seq (aw_run [6] ?_)
      simp -implicitDefEqProofs
      refine awl_call' [6] rfl rfl rfl (by kernel_rfl) rfl (ops_ok _) ?_
      simp -implicitDefEqProofs
      refine awl_lookup [6] rfl rfl opsT rfl (by simp) rfl find3 rfl ?_
      simp -implicitDefEqProofs
      repeat' first | refine aw_N [6] @b0 (And.intro @faulty_ok (And.intro @hc trivial)) ?_ | refine aw_cond rfl (fun h => ?_) (fun h => ?_)
      · simp at h
        simp [tupOf, doN, doF, doB, h]
      · rename_i h1
        simp at h h1
        simp [tupOf, doN, doF, doB, h, h1]
      · rename_i h1
        simp at h h1
        simp [tupOf, doN, doF, doB, h, h1, numK, fltK, b0]
  by_cases h4 : s = ⟨#[60]⟩
  · subst h4
    have hc := ask1_ok 72 a b (decide (a < b)) (by kernel_rfl) (op1_ok a b)
    rw [show doK ⟨#[60]⟩ = 4 by decide]
    refine apure_in Tryz.func23 Tryz.ntmps23 rfl ?_
    refine aw_seq (aw_run [6] ?_)
    simp -implicitDefEqProofs
    refine aw_seq (aw_run [6] ?_)
    simp -implicitDefEqProofs
    refine awl_call' [6] rfl rfl rfl (by kernel_rfl) rfl (ops_ok _) ?_
    simp -implicitDefEqProofs
    refine awl_lookup [6] rfl rfl opsT rfl (by simp) rfl find4 rfl ?_
    simp -implicitDefEqProofs
    repeat' (first
      | refine aw_seq ?_
      | (refine aw_run [6] ?_; try simp -implicitDefEqProofs (maxSteps := 1000000) [Nat.lt_irrefl])
      | ((first | refine awl_skip' [6] rfl ?_ | refine awl_pure_guard [6] rfl rfl rfl (by first | assumption | kernel_rfl) rfl (fun hc => by first | exact faulty_ok _ | exact hc) (by simp) (by simp) (by simp) ?_ | refine awl_pure' [6] rfl rfl rfl (by first | assumption | kernel_rfl) rfl (by first | exact faulty_ok _ | exact hc) (by simp) (by simp) ?_ | refine aw_skip ?_ | refine aw_exit ?_); try simp -implicitDefEqProofs (maxSteps := 1000000) [Nat.lt_irrefl])
      | (refine aw_cond rfl (fun h => ?_) (fun h => ?_) <;> try (with_reducible first | exact ff_tt h | exact tt_ff h))
      | refine aw_block ?_
      | refine aw_ret (ret_of (.inr rfl) (by simp [Tryz.results23]; rfl) (Fin.of ?_))
      | refine ret_of (.inl rfl) (by simp [Tryz.results23]; rfl) (Fin.of ?_))
    · simp at h
      simp [tupOf, doN, doF, doB, h]
    · rename_i h1
      simp at h h1
      simp [tupOf, doN, doF, doB, h, h1]
    · rename_i h1
      simp at h h1
      simp [tupOf, doN, doF, doB, h, h1, numK, fltK, Nat.lt_irrefl]
  by_cases h5 : s = ⟨#[60, 61]⟩
  · subst h5
    have hc := ask1_ok 73 a b (decide (a ≤ b)) (by kernel_rfl) (op2_ok a b)
    rw [show doK ⟨#[60, 61]⟩ = 5 by decide]
    refine apure_in Tryz.func23 Tryz.ntmps23 rfl ?_
    refine aw_seq (aw_run [6] ?_)
    simp -implicitDefEqProofs
    refine aw_seq (aw_run [6] ?_)
    simp -implicitDefEqProofs
    refine awl_call' [6] rfl rfl rfl (by kernel_rfl) rfl (ops_ok _) ?_
    simp -implicitDefEqProofs
    refine awl_lookup [6] rfl rfl opsT rfl (by simp) rfl find5 rfl ?_
    simp -implicitDefEqProofs
    repeat' (first
      | refine aw_seq ?_
      | (refine aw_run [6] ?_; try simp -implicitDefEqProofs (maxSteps := 1000000) [Nat.lt_irrefl])
      | ((first | refine awl_skip' [6] rfl ?_ | refine awl_pure_guard [6] rfl rfl rfl (by first | assumption | kernel_rfl) rfl (fun hc => by first | exact faulty_ok _ | exact hc) (by simp) (by simp) (by simp) ?_ | refine awl_pure' [6] rfl rfl rfl (by first | assumption | kernel_rfl) rfl (by first | exact faulty_ok _ | exact hc) (by simp) (by simp) ?_ | refine aw_skip ?_ | refine aw_exit ?_); try simp -implicitDefEqProofs (maxSteps := 1000000) [Nat.lt_irrefl])
      | (refine aw_cond rfl (fun h => ?_) (fun h => ?_) <;> try (with_reducible first | exact ff_tt h | exact tt_ff h))
      | refine aw_block ?_
      | refine aw_ret (ret_of (.inr rfl) (by simp [Tryz.results23]; rfl) (Fin.of ?_))
      | refine ret_of (.inl rfl) (by simp [Tryz.results23]; rfl) (Fin.of ?_))
    · simp at h
      simp [tupOf, doN, doF, doB, h]
    · rename_i h1
      simp at h h1
      simp [tupOf, doN, doF, doB, h, h1]
    · rename_i h1
      simp at h h1
      simp [tupOf, doN, doF, doB, h, h1, numK, fltK, Nat.lt_irrefl]
  by_cases h6 : s = ⟨#[61]⟩
  · subst h6
    have hc := ask1_ok 74 a b (decide (a = b)) (by kernel_rfl) (op3_ok a b)
    rw [show doK ⟨#[61]⟩ = 6 by decide]
    refine apure_in Tryz.func23 Tryz.ntmps23 rfl ?_
    refine aw_seq (aw_run [6] ?_)
    simp -implicitDefEqProofs
    refine aw_seq (aw_run [6] ?_)
    simp -implicitDefEqProofs
    refine awl_call' [6] rfl rfl rfl (by kernel_rfl) rfl (ops_ok _) ?_
    simp -implicitDefEqProofs
    refine awl_lookup [6] rfl rfl opsT rfl (by simp) rfl find6 rfl ?_
    simp -implicitDefEqProofs
    repeat' (first
      | refine aw_seq ?_
      | (refine aw_run [6] ?_; try simp -implicitDefEqProofs (maxSteps := 1000000) [Nat.lt_irrefl])
      | ((first | refine awl_skip' [6] rfl ?_ | refine awl_pure_guard [6] rfl rfl rfl (by first | assumption | kernel_rfl) rfl (fun hc => by first | exact faulty_ok _ | exact hc) (by simp) (by simp) (by simp) ?_ | refine awl_pure' [6] rfl rfl rfl (by first | assumption | kernel_rfl) rfl (by first | exact faulty_ok _ | exact hc) (by simp) (by simp) ?_ | refine aw_skip ?_ | refine aw_exit ?_); try simp -implicitDefEqProofs (maxSteps := 1000000) [Nat.lt_irrefl])
      | (refine aw_cond rfl (fun h => ?_) (fun h => ?_) <;> try (with_reducible first | exact ff_tt h | exact tt_ff h))
      | refine aw_block ?_
      | refine aw_ret (ret_of (.inr rfl) (by simp [Tryz.results23]; rfl) (Fin.of ?_))
      | refine ret_of (.inl rfl) (by simp [Tryz.results23]; rfl) (Fin.of ?_))
    · simp at h
      simp [tupOf, doN, doF, doB, h]
    · rename_i h1
      simp at h h1
      simp [tupOf, doN, doF, doB, h, h1]
    · rename_i h1
      simp at h h1
      simp [tupOf, doN, doF, doB, h, h1, numK, fltK, Nat.lt_irrefl]
  by_cases h7 : s = ⟨#[60, 62]⟩
  · subst h7
    have hc := ask1_ok 75 a b (!decide (a = b)) (by kernel_rfl) (op4_ok a b)
    rw [show doK ⟨#[60, 62]⟩ = 7 by decide]
    refine apure_in Tryz.func23 Tryz.ntmps23 rfl ?_
    refine aw_seq (aw_run [6] ?_)
    simp -implicitDefEqProofs
    refine aw_seq (aw_run [6] ?_)
    simp -implicitDefEqProofs
    refine awl_call' [6] rfl rfl rfl (by kernel_rfl) rfl (ops_ok _) ?_
    simp -implicitDefEqProofs
    refine awl_lookup [6] rfl rfl opsT rfl (by simp) rfl find7 rfl ?_
    simp -implicitDefEqProofs
    repeat' (first
      | refine aw_seq ?_
      | (refine aw_run [6] ?_; try simp -implicitDefEqProofs (maxSteps := 1000000) [Nat.lt_irrefl])
      | ((first | refine awl_skip' [6] rfl ?_ | refine awl_pure_guard [6] rfl rfl rfl (by first | assumption | kernel_rfl) rfl (fun hc => by first | exact faulty_ok _ | exact hc) (by simp) (by simp) (by simp) ?_ | refine awl_pure' [6] rfl rfl rfl (by first | assumption | kernel_rfl) rfl (by first | exact faulty_ok _ | exact hc) (by simp) (by simp) ?_ | refine aw_skip ?_ | refine aw_exit ?_); try simp -implicitDefEqProofs (maxSteps := 1000000) [Nat.lt_irrefl])
      | (refine aw_cond rfl (fun h => ?_) (fun h => ?_) <;> try (with_reducible first | exact ff_tt h | exact tt_ff h))
      | refine aw_block ?_
      | refine aw_ret (ret_of (.inr rfl) (by simp [Tryz.results23]; rfl) (Fin.of ?_))
      | refine ret_of (.inl rfl) (by simp [Tryz.results23]; rfl) (Fin.of ?_))
    · simp at h
      simp [tupOf, doN, doF, doB, h]
    · rename_i h1
      simp at h h1
      simp [tupOf, doN, doF, doB, h, h1]
    · rename_i h1
      simp at h h1
      simp [tupOf, doN, doF, doB, h, h1, numK, fltK, Nat.lt_irrefl]
  by_cases h8 : s = ⟨#[62, 61]⟩
  · subst h8
    have hc := ask1_ok 76 a b (decide (b ≤ a)) (by kernel_rfl) (op5_ok a b)
    rw [show doK ⟨#[62, 61]⟩ = 8 by decide]
    refine apure_in Tryz.func23 Tryz.ntmps23 rfl ?_
    refine aw_seq (aw_run [6] ?_)
    simp -implicitDefEqProofs
    refine aw_seq (aw_run [6] ?_)
    simp -implicitDefEqProofs
    refine awl_call' [6] rfl rfl rfl (by kernel_rfl) rfl (ops_ok _) ?_
    simp -implicitDefEqProofs
    refine awl_lookup [6] rfl rfl opsT rfl (by simp) rfl find8 rfl ?_
    simp -implicitDefEqProofs
    repeat' (first
      | refine aw_seq ?_
      | (refine aw_run [6] ?_; try simp -implicitDefEqProofs (maxSteps := 1000000) [Nat.lt_irrefl])
      | ((first | refine awl_skip' [6] rfl ?_ | refine awl_pure_guard [6] rfl rfl rfl (by first | assumption | kernel_rfl) rfl (fun hc => by first | exact faulty_ok _ | exact hc) (by simp) (by simp) (by simp) ?_ | refine awl_pure' [6] rfl rfl rfl (by first | assumption | kernel_rfl) rfl (by first | exact faulty_ok _ | exact hc) (by simp) (by simp) ?_ | refine aw_skip ?_ | refine aw_exit ?_); try simp -implicitDefEqProofs (maxSteps := 1000000) [Nat.lt_irrefl])
      | (refine aw_cond rfl (fun h => ?_) (fun h => ?_) <;> try (with_reducible first | exact ff_tt h | exact tt_ff h))
      | refine aw_block ?_
      | refine aw_ret (ret_of (.inr rfl) (by simp [Tryz.results23]; rfl) (Fin.of ?_))
      | refine ret_of (.inl rfl) (by simp [Tryz.results23]; rfl) (Fin.of ?_))
    · simp at h
      simp [tupOf, doN, doF, doB, h]
    · rename_i h1
      simp at h h1
      simp [tupOf, doN, doF, doB, h, h1]
    · rename_i h1
      simp at h h1
      simp [tupOf, doN, doF, doB, h, h1, numK, fltK, Nat.lt_irrefl]
  by_cases h9 : s = ⟨#[62]⟩
  · subst h9
    have hc := ask1_ok 77 a b (decide (b < a)) (by kernel_rfl) (op6_ok a b)
    rw [show doK ⟨#[62]⟩ = 9 by decide]
    refine apure_in Tryz.func23 Tryz.ntmps23 rfl ?_
    refine aw_seq (aw_run [6] ?_)
    simp -implicitDefEqProofs
    refine aw_seq (aw_run [6] ?_)
    simp -implicitDefEqProofs
    refine awl_call' [6] rfl rfl rfl (by kernel_rfl) rfl (ops_ok _) ?_
    simp -implicitDefEqProofs
    refine awl_lookup [6] rfl rfl opsT rfl (by simp) rfl find9 rfl ?_
    simp -implicitDefEqProofs
    repeat' (first
      | refine aw_seq ?_
      | (refine aw_run [6] ?_; try simp -implicitDefEqProofs (maxSteps := 1000000) [Nat.lt_irrefl])
      | ((first | refine awl_skip' [6] rfl ?_ | refine awl_pure_guard [6] rfl rfl rfl (by first | assumption | kernel_rfl) rfl (fun hc => by first | exact faulty_ok _ | exact hc) (by simp) (by simp) (by simp) ?_ | refine awl_pure' [6] rfl rfl rfl (by first | assumption | kernel_rfl) rfl (by first | exact faulty_ok _ | exact hc) (by simp) (by simp) ?_ | refine aw_skip ?_ | refine aw_exit ?_); try simp -implicitDefEqProofs (maxSteps := 1000000) [Nat.lt_irrefl])
      | (refine aw_cond rfl (fun h => ?_) (fun h => ?_) <;> try (with_reducible first | exact ff_tt h | exact tt_ff h))
      | refine aw_block ?_
      | refine aw_ret (ret_of (.inr rfl) (by simp [Tryz.results23]; rfl) (Fin.of ?_))
      | refine ret_of (.inl rfl) (by simp [Tryz.results23]; rfl) (Fin.of ?_))
    · simp at h
      simp [tupOf, doN, doF, doB, h]
    · rename_i h1
      simp at h h1
      simp [tupOf, doN, doF, doB, h, h1]
    · rename_i h1
      simp at h h1
      simp [tupOf, doN, doF, doB, h, h1, numK, fltK, Nat.lt_irrefl]
  have hk : doK s = 10 := by simp [doK, h0, h1, h2, h3, h4, h5, h6, h7, h8, h9]
  have hf : amfind .string (.p (.string s)) opsE 0 = some none := by simp [opsE, h0, h1, h2, h3, h4, h5, h6, h7, h8, h9]
  rw [hk]
  refine apure_in Tryz.func23 Tryz.ntmps23 rfl ?_
  refine aw_seq (aw_run [6] ?_)
  simp -implicitDefEqProofs
  refine aw_seq (aw_run [6] ?_)
  simp -implicitDefEqProofs
  refine awl_call' [6] rfl rfl rfl (by kernel_rfl) rfl (ops_ok _) ?_
  simp -implicitDefEqProofs
  refine awl_lookup [6] rfl rfl opsT rfl (by simp) rfl hf opsZ ?_
  simp -implicitDefEqProofs
  repeat' first | refine aw_N [6] trivial (And.intro @faulty_ok trivial) ?_ | refine aw_cond rfl (fun h => ?_) (fun h => ?_)
  all_goals simp [tupOf, doN, doF, doB]
end Go.AL
/-! Contracts: value's texts, and gridironref03's. -/
namespace Go.AL
open Go.Proofs
set_option linter.unusedSimpArgs false
set_option linter.unusedVariables false
/-- The faults' names. -/
def nameF (f : Nat) : ByteArray := if f = 1 then ⟨#[35, 79, 86, 69, 82]⟩ else if f = 2 then ⟨#[35, 68, 73, 86]⟩ else if f = 3 then ⟨#[35, 82, 69, 70]⟩ else if f = 4 then ⟨#[35, 67, 89, 67, 76, 69]⟩ else ⟨#[]⟩
/-- Whose name a text is. -/
def faultK (s : ByteArray) : Nat := if s = nameF 1 then 1 else if s = nameF 2 then 2 else if s = nameF 3 then 3 else if s = nameF 4 then 4 else 0
/-- No name so far. -/
def NoName (s : ByteArray) (i : Nat) : Prop := ∀ j, 1 ≤ j → j < i → s ≠ nameF j
theorem NoName.next {s : ByteArray} {i : Nat} (h : NoName s i) (hs : ¬ s = nameF i) : NoName s (i + 1) := fun j h1 h2 => by
  by_cases e : j = i
  · subst e; exact hs
  · exact h j h1 (by omega)
theorem NoName.one (s : ByteArray) : NoName s 1 := fun j h1 h2 => by omega
theorem NoName.all {s : ByteArray} (h : NoName s 5) : faultK s = 0 := by
  unfold faultK
  rw [if_neg (h 1 (by omega) (by omega)), if_neg (h 2 (by omega) (by omega)), if_neg (h 3 (by omega) (by omega)), if_neg (h 4 (by omega) (by omega))]
end Go.AL
/-! Contracts: gridironref03.Do, Neg. -/
namespace Go.AL
open Go.Proofs
set_option linter.unusedSimpArgs false
set_option linter.unusedVariables false
set_option maxRecDepth 100000 in
theorem rtold_ok (c : Int) : APure Tryz.prog 83 [vi (z (inI c) c), vb (inI c)] (value (z (inI c) c) (z (!inI c) 1)) := by
  cases inI c
  · refine apure_in Tryz.func83 Tryz.ntmps83 rfl ?_
    repeat' first | refine aw_N [4] trivial trivial ?_ | refine aw_cond rfl (fun h => ?_) (fun h => ?_)
    rfl
  · refine apure_in Tryz.func83 Tryz.ntmps83 rfl ?_
    repeat' first | refine aw_N [4] trivial trivial ?_ | refine aw_cond rfl (fun h => ?_) (fun h => ?_)
    rfl
set_option maxRecDepth 100000 in
theorem rtruth_ok (b : Bool) : APure Tryz.prog 88 [vb b] (value (z b 1) 0) := by
  cases b
  · refine apure_in Tryz.func88 Tryz.ntmps88 rfl ?_
    repeat' first | refine aw_N [2] trivial trivial ?_ | refine aw_cond rfl (fun h => ?_) (fun h => ?_)
    rfl
  · refine apure_in Tryz.func88 Tryz.ntmps88 rfl ?_
    repeat' first | refine aw_N [2] trivial trivial ?_ | refine aw_cond rfl (fun h => ?_) (fun h => ?_)
    rfl
def numN (k : Nat) (a b : Int) : Int := if k = 10 then 0 else numK k a b
def numF (k : Nat) (a b : Int) : Int := if k = 10 then 0 else fltK k a b
set_option maxHeartbeats 8000000 in
set_option maxRecDepth 100000 in
theorem numbers_ok (s : ByteArray) (a b : Int) (ha : In64 a) (hb : In64 b) : APure Tryz.prog 50 [vs s, vi a, vi b] (.tup [value (numN (doK s) a b) (numF (doK s) a b), vb (doB (doK s))]) := by
  by_cases h0 : s = ⟨#[43]⟩
  · subst h0
    have hc := radd_ok ha hb
    rw [show doK ⟨#[43]⟩ = 0 by decide]
    refine apure_in Tryz.func50 Tryz.ntmps50 rfl ?_
    repeat' (first
      | refine aw_seq ?_
      | (refine aw_run [6] ?_; try simp -implicitDefEqProofs (maxSteps := 1000000) [Nat.lt_irrefl])
      | ((first | refine awl_skip' [6] rfl ?_ | refine awl_pure_guard [6] rfl rfl rfl (by first | assumption | kernel_rfl) rfl (fun hc => by first | exact hc | exact rtold_ok _ | exact rtruth_ok _) (by simp) (by simp) (by simp) ?_ | refine awl_pure' [6] rfl rfl rfl (by first | assumption | kernel_rfl) rfl (by first | exact hc | exact rtold_ok _ | exact rtruth_ok _) (by simp) (by simp) ?_ | refine aw_skip ?_ | refine aw_exit ?_); try simp -implicitDefEqProofs (maxSteps := 1000000) [Nat.lt_irrefl])
      | (refine aw_cond rfl (fun h => ?_) (fun h => ?_) <;> try (with_reducible first | exact ff_tt h | exact tt_ff h))
      | refine aw_block ?_
      | refine aw_ret (ret_of (.inr rfl) (by simp [Tryz.results50]; rfl) (Fin.of ?_))
      | refine ret_of (.inl rfl) (by simp [Tryz.results50]; rfl) (Fin.of ?_))
    all_goals simp [tupOf, numN, numF, numK, fltK, doB, Nat.lt_irrefl]
  by_cases h1 : s = ⟨#[45]⟩
  · subst h1
    have hc := rsub_ok ha hb
    rw [show doK ⟨#[45]⟩ = 1 by decide]
    refine apure_in Tryz.func50 Tryz.ntmps50 rfl ?_
    repeat' (first
      | refine aw_seq ?_
      | (refine aw_run [6] ?_; try simp -implicitDefEqProofs (maxSteps := 1000000) [Nat.lt_irrefl])
      | ((first | refine awl_skip' [6] rfl ?_ | refine awl_pure_guard [6] rfl rfl rfl (by first | assumption | kernel_rfl) rfl (fun hc => by first | exact hc | exact rtold_ok _ | exact rtruth_ok _) (by simp) (by simp) (by simp) ?_ | refine awl_pure' [6] rfl rfl rfl (by first | assumption | kernel_rfl) rfl (by first | exact hc | exact rtold_ok _ | exact rtruth_ok _) (by simp) (by simp) ?_ | refine aw_skip ?_ | refine aw_exit ?_); try simp -implicitDefEqProofs (maxSteps := 1000000) [Nat.lt_irrefl])
      | (refine aw_cond rfl (fun h => ?_) (fun h => ?_) <;> try (with_reducible first | exact ff_tt h | exact tt_ff h))
      | refine aw_block ?_
      | refine aw_ret (ret_of (.inr rfl) (by simp [Tryz.results50]; rfl) (Fin.of ?_))
      | refine ret_of (.inl rfl) (by simp [Tryz.results50]; rfl) (Fin.of ?_))
    all_goals simp [tupOf, numN, numF, numK, fltK, doB, Nat.lt_irrefl]
  by_cases h2 : s = ⟨#[42]⟩
  · subst h2
    have hc := rmul_ok ha hb
    rw [show doK ⟨#[42]⟩ = 2 by decide]
    refine apure_in Tryz.func50 Tryz.ntmps50 rfl ?_
    repeat' (first
      | refine aw_seq ?_
      | (refine aw_run [6] ?_; try simp -implicitDefEqProofs (maxSteps := 1000000) [Nat.lt_irrefl])
      | ((first | refine awl_skip' [6] rfl ?_ | refine awl_pure_guard [6] rfl rfl rfl (by first | assumption | kernel_rfl) rfl (fun hc => by first | exact hc | exact rtold_ok _ | exact rtruth_ok _) (by simp) (by simp) (by simp) ?_ | refine awl_pure' [6] rfl rfl rfl (by first | assumption | kernel_rfl) rfl (by first | exact hc | exact rtold_ok _ | exact rtruth_ok _) (by simp) (by simp) ?_ | refine aw_skip ?_ | refine aw_exit ?_); try simp -implicitDefEqProofs (maxSteps := 1000000) [Nat.lt_irrefl])
      | (refine aw_cond rfl (fun h => ?_) (fun h => ?_) <;> try (with_reducible first | exact ff_tt h | exact tt_ff h))
      | refine aw_block ?_
      | refine aw_ret (ret_of (.inr rfl) (by simp [Tryz.results50]; rfl) (Fin.of ?_))
      | refine ret_of (.inl rfl) (by simp [Tryz.results50]; rfl) (Fin.of ?_))
    all_goals simp [tupOf, numN, numF, numK, fltK, doB, Nat.lt_irrefl]
  by_cases h3 : s = ⟨#[47]⟩
  · subst h3
    have hc := rtruth_ok true
    by_cases b0 : b = 0
    · subst b0
      rw [show doK ⟨#[47]⟩ = 3 by decide]
      refine apure_in Tryz.func50 Tryz.ntmps50 rfl ?_
      repeat' (first
        | refine aw_seq ?_
        | (refine aw_run [6] ?_; try simp -implicitDefEqProofs (maxSteps := 1000000) [Nat.lt_irrefl])
        | ((first | refine awl_skip' [6] rfl ?_ | refine awl_pure_guard [6] rfl rfl rfl (by first | assumption | kernel_rfl) rfl (fun hc => by first | exact hc | exact rtold_ok _ | exact rtruth_ok _) (by simp) (by simp) (by simp) ?_ | refine awl_pure' [6] rfl rfl rfl (by first | assumption | kernel_rfl) rfl (by first | exact hc | exact rtold_ok _ | exact rtruth_ok _) (by simp) (by simp) ?_ | refine aw_skip ?_ | refine aw_exit ?_); try simp -implicitDefEqProofs (maxSteps := 1000000) [Nat.lt_irrefl])
        | (refine aw_cond rfl (fun h => ?_) (fun h => ?_) <;> try (with_reducible first | exact ff_tt h | exact tt_ff h))
        | refine aw_block ?_
        | refine aw_ret (ret_of (.inr rfl) (by simp [Tryz.results50]; rfl) (Fin.of ?_))
        | refine ret_of (.inl rfl) (by simp [Tryz.results50]; rfl) (Fin.of ?_))
      all_goals simp [tupOf, numN, numF, numK, fltK, doB, Nat.lt_irrefl]
    · have hc := rdiv_ok ha hb b0
      rw [show doK ⟨#[47]⟩ = 3 by decide]
      refine apure_in Tryz.func50 Tryz.ntmps50 rfl ?_
      repeat' first | refine aw_N [6] @b0 (And.intro @hc (And.intro @rtold_ok (And.intro @rtruth_ok trivial))) ?_ | refine aw_cond rfl (fun h => ?_) (fun h => ?_)
      all_goals simp [tupOf, numN, numF, numK, fltK, doB, b0]
  by_cases h4 : s = ⟨#[60]⟩
  · subst h4
    have hc := rtruth_ok true
    rw [show doK ⟨#[60]⟩ = 4 by decide]
    refine apure_in Tryz.func50 Tryz.ntmps50 rfl ?_
    repeat' (first
      | refine aw_seq ?_
      | (refine aw_run [6] ?_; try simp -implicitDefEqProofs (maxSteps := 1000000) [Nat.lt_irrefl])
      | ((first | refine awl_skip' [6] rfl ?_ | refine awl_pure_guard [6] rfl rfl rfl (by first | assumption | kernel_rfl) rfl (fun hc => by first | exact hc | exact rtold_ok _ | exact rtruth_ok _) (by simp) (by simp) (by simp) ?_ | refine awl_pure' [6] rfl rfl rfl (by first | assumption | kernel_rfl) rfl (by first | exact hc | exact rtold_ok _ | exact rtruth_ok _) (by simp) (by simp) ?_ | refine aw_skip ?_ | refine aw_exit ?_); try simp -implicitDefEqProofs (maxSteps := 1000000) [Nat.lt_irrefl])
      | (refine aw_cond rfl (fun h => ?_) (fun h => ?_) <;> try (with_reducible first | exact ff_tt h | exact tt_ff h))
      | refine aw_block ?_
      | refine aw_ret (ret_of (.inr rfl) (by simp [Tryz.results50]; rfl) (Fin.of ?_))
      | refine ret_of (.inl rfl) (by simp [Tryz.results50]; rfl) (Fin.of ?_))
    all_goals simp [tupOf, numN, numF, numK, fltK, doB, Nat.lt_irrefl]
  by_cases h5 : s = ⟨#[60, 61]⟩
  · subst h5
    have hc := rtruth_ok true
    rw [show doK ⟨#[60, 61]⟩ = 5 by decide]
    refine apure_in Tryz.func50 Tryz.ntmps50 rfl ?_
    repeat' (first
      | refine aw_seq ?_
      | (refine aw_run [6] ?_; try simp -implicitDefEqProofs (maxSteps := 1000000) [Nat.lt_irrefl])
      | ((first | refine awl_skip' [6] rfl ?_ | refine awl_pure_guard [6] rfl rfl rfl (by first | assumption | kernel_rfl) rfl (fun hc => by first | exact hc | exact rtold_ok _ | exact rtruth_ok _) (by simp) (by simp) (by simp) ?_ | refine awl_pure' [6] rfl rfl rfl (by first | assumption | kernel_rfl) rfl (by first | exact hc | exact rtold_ok _ | exact rtruth_ok _) (by simp) (by simp) ?_ | refine aw_skip ?_ | refine aw_exit ?_); try simp -implicitDefEqProofs (maxSteps := 1000000) [Nat.lt_irrefl])
      | (refine aw_cond rfl (fun h => ?_) (fun h => ?_) <;> try (with_reducible first | exact ff_tt h | exact tt_ff h))
      | refine aw_block ?_
      | refine aw_ret (ret_of (.inr rfl) (by simp [Tryz.results50]; rfl) (Fin.of ?_))
      | refine ret_of (.inl rfl) (by simp [Tryz.results50]; rfl) (Fin.of ?_))
    all_goals simp [tupOf, numN, numF, numK, fltK, doB, Nat.lt_irrefl]
  by_cases h6 : s = ⟨#[61]⟩
  · subst h6
    have hc := rtruth_ok true
    rw [show doK ⟨#[61]⟩ = 6 by decide]
    refine apure_in Tryz.func50 Tryz.ntmps50 rfl ?_
    repeat' (first
      | refine aw_seq ?_
      | (refine aw_run [6] ?_; try simp -implicitDefEqProofs (maxSteps := 1000000) [Nat.lt_irrefl])
      | ((first | refine awl_skip' [6] rfl ?_ | refine awl_pure_guard [6] rfl rfl rfl (by first | assumption | kernel_rfl) rfl (fun hc => by first | exact hc | exact rtold_ok _ | exact rtruth_ok _) (by simp) (by simp) (by simp) ?_ | refine awl_pure' [6] rfl rfl rfl (by first | assumption | kernel_rfl) rfl (by first | exact hc | exact rtold_ok _ | exact rtruth_ok _) (by simp) (by simp) ?_ | refine aw_skip ?_ | refine aw_exit ?_); try simp -implicitDefEqProofs (maxSteps := 1000000) [Nat.lt_irrefl])
      | (refine aw_cond rfl (fun h => ?_) (fun h => ?_) <;> try (with_reducible first | exact ff_tt h | exact tt_ff h))
      | refine aw_block ?_
      | refine aw_ret (ret_of (.inr rfl) (by simp [Tryz.results50]; rfl) (Fin.of ?_))
      | refine ret_of (.inl rfl) (by simp [Tryz.results50]; rfl) (Fin.of ?_))
    all_goals simp [tupOf, numN, numF, numK, fltK, doB, Nat.lt_irrefl]
  by_cases h7 : s = ⟨#[60, 62]⟩
  · subst h7
    have hc := rtruth_ok true
    rw [show doK ⟨#[60, 62]⟩ = 7 by decide]
    refine apure_in Tryz.func50 Tryz.ntmps50 rfl ?_
    repeat' (first
      | refine aw_seq ?_
      | (refine aw_run [6] ?_; try simp -implicitDefEqProofs (maxSteps := 1000000) [Nat.lt_irrefl])
      | ((first | refine awl_skip' [6] rfl ?_ | refine awl_pure_guard [6] rfl rfl rfl (by first | assumption | kernel_rfl) rfl (fun hc => by first | exact hc | exact rtold_ok _ | exact rtruth_ok _) (by simp) (by simp) (by simp) ?_ | refine awl_pure' [6] rfl rfl rfl (by first | assumption | kernel_rfl) rfl (by first | exact hc | exact rtold_ok _ | exact rtruth_ok _) (by simp) (by simp) ?_ | refine aw_skip ?_ | refine aw_exit ?_); try simp -implicitDefEqProofs (maxSteps := 1000000) [Nat.lt_irrefl])
      | (refine aw_cond rfl (fun h => ?_) (fun h => ?_) <;> try (with_reducible first | exact ff_tt h | exact tt_ff h))
      | refine aw_block ?_
      | refine aw_ret (ret_of (.inr rfl) (by simp [Tryz.results50]; rfl) (Fin.of ?_))
      | refine ret_of (.inl rfl) (by simp [Tryz.results50]; rfl) (Fin.of ?_))
    all_goals simp [tupOf, numN, numF, numK, fltK, doB, Nat.lt_irrefl]
  by_cases h8 : s = ⟨#[62, 61]⟩
  · subst h8
    have hc := rtruth_ok true
    rw [show doK ⟨#[62, 61]⟩ = 8 by decide]
    refine apure_in Tryz.func50 Tryz.ntmps50 rfl ?_
    repeat' (first
      | refine aw_seq ?_
      | (refine aw_run [6] ?_; try simp -implicitDefEqProofs (maxSteps := 1000000) [Nat.lt_irrefl])
      | ((first | refine awl_skip' [6] rfl ?_ | refine awl_pure_guard [6] rfl rfl rfl (by first | assumption | kernel_rfl) rfl (fun hc => by first | exact hc | exact rtold_ok _ | exact rtruth_ok _) (by simp) (by simp) (by simp) ?_ | refine awl_pure' [6] rfl rfl rfl (by first | assumption | kernel_rfl) rfl (by first | exact hc | exact rtold_ok _ | exact rtruth_ok _) (by simp) (by simp) ?_ | refine aw_skip ?_ | refine aw_exit ?_); try simp -implicitDefEqProofs (maxSteps := 1000000) [Nat.lt_irrefl])
      | (refine aw_cond rfl (fun h => ?_) (fun h => ?_) <;> try (with_reducible first | exact ff_tt h | exact tt_ff h))
      | refine aw_block ?_
      | refine aw_ret (ret_of (.inr rfl) (by simp [Tryz.results50]; rfl) (Fin.of ?_))
      | refine ret_of (.inl rfl) (by simp [Tryz.results50]; rfl) (Fin.of ?_))
    all_goals simp [tupOf, numN, numF, numK, fltK, doB, Nat.lt_irrefl]
  by_cases h9 : s = ⟨#[62]⟩
  · subst h9
    have hc := rtruth_ok true
    rw [show doK ⟨#[62]⟩ = 9 by decide]
    refine apure_in Tryz.func50 Tryz.ntmps50 rfl ?_
    repeat' (first
      | refine aw_seq ?_
      | (refine aw_run [6] ?_; try simp -implicitDefEqProofs (maxSteps := 1000000) [Nat.lt_irrefl])
      | ((first | refine awl_skip' [6] rfl ?_ | refine awl_pure_guard [6] rfl rfl rfl (by first | assumption | kernel_rfl) rfl (fun hc => by first | exact hc | exact rtold_ok _ | exact rtruth_ok _) (by simp) (by simp) (by simp) ?_ | refine awl_pure' [6] rfl rfl rfl (by first | assumption | kernel_rfl) rfl (by first | exact hc | exact rtold_ok _ | exact rtruth_ok _) (by simp) (by simp) ?_ | refine aw_skip ?_ | refine aw_exit ?_); try simp -implicitDefEqProofs (maxSteps := 1000000) [Nat.lt_irrefl])
      | (refine aw_cond rfl (fun h => ?_) (fun h => ?_) <;> try (with_reducible first | exact ff_tt h | exact tt_ff h))
      | refine aw_block ?_
      | refine aw_ret (ret_of (.inr rfl) (by simp [Tryz.results50]; rfl) (Fin.of ?_))
      | refine ret_of (.inl rfl) (by simp [Tryz.results50]; rfl) (Fin.of ?_))
    all_goals simp [tupOf, numN, numF, numK, fltK, doB, Nat.lt_irrefl]
  have hk : doK s = 10 := by simp [doK, h0, h1, h2, h3, h4, h5, h6, h7, h8, h9]
  rw [hk]
  refine apure_in Tryz.func50 Tryz.ntmps50 rfl ?_
  repeat' first | refine aw_N [6] (And.intro @h0 (And.intro @h1 (And.intro @h2 (And.intro @h3 (And.intro @h4 (And.intro @h5 (And.intro @h6 (And.intro @h7 (And.intro @h8 @h9))))))))) trivial ?_ | refine aw_cond rfl (fun h => ?_) (fun h => ?_)
  all_goals simp [tupOf, numN, numF, doB]
set_option maxRecDepth 100000 in
theorem rdo_ok (s : ByteArray) (a fa b fb : Int) (ha : In64 a) (hb : In64 b) : APure Tryz.prog 28 [vs s, value a fa, value b fb] (.tup [value (doN (doK s) a fa b fb) (doF (doK s) a fa b fb), vb (doB (doK s))]) := by
  have hn := numbers_ok s a b ha hb
  cases hB : doB (doK s) with
  | false =>
    rw [hB] at hn
    have hk : doK s = 10 := by simpa [doB] using hB
    rw [hk] at hn ⊢
    refine apure_in Tryz.func28 Tryz.ntmps28 rfl ?_
    repeat' first | refine aw_N [6, 8] trivial (And.intro @hn trivial) ?_ | refine aw_cond rfl (fun h => ?_) (fun h => ?_)
    all_goals simp [tupOf, doN, doF, doB]
  | true =>
    rw [hB] at hn
    have hk : ¬ doK s = 10 := by simpa [doB] using hB
    refine apure_in Tryz.func28 Tryz.ntmps28 rfl ?_
    repeat' first | refine aw_N [6, 8] trivial (And.intro @hn trivial) ?_ | refine aw_cond rfl (fun h => ?_) (fun h => ?_)
    · simp at h
      simp [tupOf, doN, doF, hk, h]
    · rename_i h1
      simp at h h1
      simp [tupOf, doN, doF, hk, h, h1]
    · rename_i h1
      simp at h h1
      simp [tupOf, doN, doF, hk, h, h1, numN, numF]
theorem doK_minus : doK ⟨#[45]⟩ = 1 := by decide
theorem doK_plus : doK ⟨#[43]⟩ = 0 := by decide
def negN (a fa : Int) : Int := if fa = 0 then z (inI (-a)) (-a) else 0
def negFv (a fa : Int) : Int := if fa = 0 then z (!inI (-a)) 1 else fa
set_option maxRecDepth 100000 in
theorem rvneg_ok (a fa : Int) (ha : In64 a) : APure Tryz.prog 27 [value a fa] (value (negN a fa) (negFv a fa)) := by
  have hd := rdo_ok ⟨#[45]⟩ 0 0 a fa (by unfold In64; omega) ha
  rw [doK_minus] at hd
  refine apure_in Tryz.func27 Tryz.ntmps27 rfl ?_
  repeat' first | refine aw_N [2, 3] trivial (And.intro @hd trivial) ?_ | refine aw_cond rfl (fun h => ?_) (fun h => ?_)
  simp [tupOf, doN, doF, negN, negFv, numK, fltK]
set_option maxRecDepth 100000 in
theorem vneg_ok (a fa : Int) (ha : In64 a) : APure Tryz.prog 22 [value a fa] (value (negN a fa) (negFv a fa)) := by
  refine apure_in Tryz.func22 Tryz.ntmps22 rfl ?_
  repeat' first | refine aw_N [2] trivial (And.intro @faulty_ok (And.intro (neg_ok ha) (And.intro @fine_ok trivial))) ?_ | refine aw_cond rfl (fun h => ?_) (fun h => ?_)
  · simp at h
    simp [tupOf, negN, negFv, h]
  · simp at h
    cases hi : inI (-a) <;> simp [tupOf, negN, negFv, h, hi]
end Go.AL
