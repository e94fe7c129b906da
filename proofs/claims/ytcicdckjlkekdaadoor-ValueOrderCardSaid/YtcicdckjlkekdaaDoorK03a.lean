import Derived.Test.YtcicdckjlkekdaaDoorK01e
/-! Contracts: value. -/
namespace Go.AL
open Go.Proofs
set_option linter.unusedSimpArgs false
set_option linter.unusedVariables false
abbrev value (n f : Int) : AV := .agg [vi n, vi f]
abbrev vf (n : Nat) : AV := .p (.func (.func n) #[] #[])
set_option maxRecDepth 100000 in
theorem faulty_ok (f : Int) : APure Tryd.prog 30 [vi f] (value 0 f) := by
  refine apure_of Tryd.func30 Tryd.ntmps30 rfl ?_
  simp only [List.length_cons, List.length_nil, List.cons_append, List.nil_append, List.replicate]
  repeat' (first
    | refine aw_seq ?_
    | (refine aw_run [2] ?_; simp -implicitDefEqProofs)
    | (refine aw_ymix [2] draws (by decide +kernel) ?_; simp -implicitDefEqProofs)
    | (refine aw_yrun draws (by kernel_rfl) ?_; simp -implicitDefEqProofs)
    | (refine awl_skip' [2] rfl ?_; simp -implicitDefEqProofs)
    | (refine aw_cond rfl (fun h => ?_) (fun h => ?_) <;> try (with_reducible first | exact ff_tt h | exact tt_ff h))
    | (refine aw_skip ?_; simp -implicitDefEqProofs)
    | refine aw_block ?_
    | (refine aw_exit ?_; simp -implicitDefEqProofs)
    | refine aw_ret (ret_of (.inr rfl) (by simp [Tryd.results30]; rfl) (Fin.of ?_)))
  rfl
set_option maxRecDepth 100000 in
theorem fine_ok (n : Int) (ok : Bool) (f : Int) : APure Tryd.prog 38 [vi n, vb ok, vi f] (value (z ok n) (z (!ok) f)) := by
  cases ok
  · refine apure_of Tryd.func38 Tryd.ntmps38 rfl ?_
    simp only [List.length_cons, List.length_nil, List.cons_append, List.nil_append, List.replicate]
    repeat' (first
      | refine aw_seq ?_
      | (refine aw_run [6] ?_; simp -implicitDefEqProofs)
      | (refine aw_ymix [6] draws (by decide +kernel) ?_; simp -implicitDefEqProofs)
      | (refine aw_yrun draws (by kernel_rfl) ?_; simp -implicitDefEqProofs)
      | (refine awl_skip' [6] rfl ?_; simp -implicitDefEqProofs)
      | (refine awl_pure_guard [6] rfl rfl rfl (by first | assumption | kernel_rfl) rfl (fun hc => by first | exact faulty_ok _) (by simp) (by simp) (by simp) ?_; simp -implicitDefEqProofs)
      | (refine yl_pureG rfl rfl rfl (by first | assumption | kernel_rfl) rfl (fun hc => by first | exact faulty_ok _) (by simp) (by simp) (by simp) ?_; simp -implicitDefEqProofs)
      | (refine awl_pure' [6] rfl rfl rfl (by first | assumption | kernel_rfl) rfl (by first | exact faulty_ok _) (by simp) (by simp) ?_; simp -implicitDefEqProofs)
      | (refine yl_pure rfl rfl rfl (by first | assumption | kernel_rfl) rfl (by first | exact faulty_ok _) (by simp) (by simp) ?_; simp -implicitDefEqProofs)
      | (refine aw_cond rfl (fun h => ?_) (fun h => ?_) <;> try (with_reducible first | exact ff_tt h | exact tt_ff h))
      | (refine aw_skip ?_; simp -implicitDefEqProofs)
      | refine aw_block ?_
      | (refine aw_exit ?_; simp -implicitDefEqProofs)
      | refine aw_ret (ret_of (.inr rfl) (by simp [Tryd.results38]; rfl) (Fin.of ?_)))
    rfl
  · refine apure_of Tryd.func38 Tryd.ntmps38 rfl ?_
    simp only [List.length_cons, List.length_nil, List.cons_append, List.nil_append, List.replicate]
    repeat' (first
      | refine aw_seq ?_
      | (refine aw_run [6] ?_; simp -implicitDefEqProofs)
      | (refine aw_ymix [6] draws (by decide +kernel) ?_; simp -implicitDefEqProofs)
      | (refine aw_yrun draws (by kernel_rfl) ?_; simp -implicitDefEqProofs)
      | (refine awl_skip' [6] rfl ?_; simp -implicitDefEqProofs)
      | (refine awl_pure_guard [6] rfl rfl rfl (by first | assumption | kernel_rfl) rfl (fun hc => by first | exact faulty_ok _) (by simp) (by simp) (by simp) ?_; simp -implicitDefEqProofs)
      | (refine yl_pureG rfl rfl rfl (by first | assumption | kernel_rfl) rfl (fun hc => by first | exact faulty_ok _) (by simp) (by simp) (by simp) ?_; simp -implicitDefEqProofs)
      | (refine awl_pure' [6] rfl rfl rfl (by first | assumption | kernel_rfl) rfl (by first | exact faulty_ok _) (by simp) (by simp) ?_; simp -implicitDefEqProofs)
      | (refine yl_pure rfl rfl rfl (by first | assumption | kernel_rfl) rfl (by first | exact faulty_ok _) (by simp) (by simp) ?_; simp -implicitDefEqProofs)
      | (refine aw_cond rfl (fun h => ?_) (fun h => ?_) <;> try (with_reducible first | exact ff_tt h | exact tt_ff h))
      | (refine aw_skip ?_; simp -implicitDefEqProofs)
      | refine aw_block ?_
      | (refine aw_exit ?_; simp -implicitDefEqProofs)
      | refine aw_ret (ret_of (.inr rfl) (by simp [Tryd.results38]; rfl) (Fin.of ?_)))
    rfl
set_option maxRecDepth 100000 in
theorem truth_ok (b : Bool) : APure Tryd.prog 91 [vb b] (value (z b 1) 0) := by
  cases b
  · refine apure_of Tryd.func91 Tryd.ntmps91 rfl ?_
    simp only [List.length_cons, List.length_nil, List.cons_append, List.nil_append, List.replicate]
    repeat' (first
      | refine aw_seq ?_
      | (refine aw_run [2] ?_; simp -implicitDefEqProofs)
      | (refine aw_ymix [2] draws (by decide +kernel) ?_; simp -implicitDefEqProofs)
      | (refine aw_yrun draws (by kernel_rfl) ?_; simp -implicitDefEqProofs)
      | (refine awl_skip' [2] rfl ?_; simp -implicitDefEqProofs)
      | (refine aw_cond rfl (fun h => ?_) (fun h => ?_) <;> try (with_reducible first | exact ff_tt h | exact tt_ff h))
      | (refine aw_skip ?_; simp -implicitDefEqProofs)
      | refine aw_block ?_
      | (refine aw_exit ?_; simp -implicitDefEqProofs)
      | refine aw_ret (ret_of (.inr rfl) (by simp [Tryd.results91]; rfl) (Fin.of ?_)))
    rfl
  · refine apure_of Tryd.func91 Tryd.ntmps91 rfl ?_
    simp only [List.length_cons, List.length_nil, List.cons_append, List.nil_append, List.replicate]
    repeat' (first
      | refine aw_seq ?_
      | (refine aw_run [2] ?_; simp -implicitDefEqProofs)
      | (refine aw_ymix [2] draws (by decide +kernel) ?_; simp -implicitDefEqProofs)
      | (refine aw_yrun draws (by kernel_rfl) ?_; simp -implicitDefEqProofs)
      | (refine awl_skip' [2] rfl ?_; simp -implicitDefEqProofs)
      | (refine aw_cond rfl (fun h => ?_) (fun h => ?_) <;> try (with_reducible first | exact ff_tt h | exact tt_ff h))
      | (refine aw_skip ?_; simp -implicitDefEqProofs)
      | refine aw_block ?_
      | (refine aw_exit ?_; simp -implicitDefEqProofs)
      | refine aw_ret (ret_of (.inr rfl) (by simp [Tryd.results91]; rfl) (Fin.of ?_)))
    rfl
def rightV (n f : Int) : Bool := decide (f = 0) || decide (0 < f) && decide (f ≤ 4) && decide (n = 0)
set_option maxRecDepth 100000 in
theorem vright_ok (n f : Int) : APure Tryd.prog 14 [value n f] (vb (rightV n f)) := by
  refine apure_of Tryd.func14 Tryd.ntmps14 rfl ?_
  simp only [List.length_cons, List.length_nil, List.cons_append, List.nil_append, List.replicate]
  repeat' (first
    | refine aw_seq ?_
    | (refine aw_run [] ?_; simp -implicitDefEqProofs)
    | (refine aw_ymix [] draws (by decide +kernel) ?_; simp -implicitDefEqProofs)
    | (refine aw_yrun draws (by kernel_rfl) ?_; simp -implicitDefEqProofs)
    | (refine awl_skip' [] rfl ?_; simp -implicitDefEqProofs)
    | (refine aw_cond rfl (fun h => ?_) (fun h => ?_) <;> try (with_reducible first | exact ff_tt h | exact tt_ff h))
    | (refine aw_skip ?_; simp -implicitDefEqProofs)
    | refine aw_block ?_
    | (refine aw_exit ?_; simp -implicitDefEqProofs)
    | refine aw_ret (ret_of (.inr rfl) (by simp [Tryd.results14]; rfl) (Fin.of ?_)))
  simp [tupOf, rightV, Bool.and_assoc]
set_option maxRecDepth 100000 in
theorem reckon_ok (g : Nat) : APure Tryd.prog 48 [vf g] (.fn (.func 88) [] [.vel [vf g] 0 0]) := by
  refine apure_of Tryd.func48 Tryd.ntmps48 rfl ?_
  simp only [List.length_cons, List.length_nil, List.cons_append, List.nil_append, List.replicate]
  repeat' (first
    | refine aw_seq ?_
    | (refine aw_run [] ?_; simp -implicitDefEqProofs)
    | (refine aw_ymix [] draws (by decide +kernel) ?_; simp -implicitDefEqProofs)
    | (refine aw_yrun draws (by kernel_rfl) ?_; simp -implicitDefEqProofs)
    | (refine awl_skip' [] rfl ?_; simp -implicitDefEqProofs)
    | (refine aw_cond rfl (fun h => ?_) (fun h => ?_) <;> try (with_reducible first | exact ff_tt h | exact tt_ff h))
    | (refine aw_skip ?_; simp -implicitDefEqProofs)
    | refine aw_block ?_
    | (refine aw_exit ?_; simp -implicitDefEqProofs)
    | refine aw_ret (ret_of (.inr rfl) (by simp [Tryd.results48]; rfl) (Fin.of ?_)))
  rfl
set_option maxRecDepth 100000 in
theorem reckon1_ok (g : Nat) (a b c : Int) (hc : callable Tryd.prog g = true) (h : APure Tryd.prog g [vi a, vi b] (chk c)) : APure Tryd.prog 88 [vi a, vi b, .vel [vf g] 0 0] (value (z (inI c) c) (z (!inI c) 1)) := by
  refine apure_of Tryd.func88 Tryd.ntmps88 rfl ?_
  simp only [List.length_cons, List.length_nil, List.cons_append, List.nil_append, List.replicate]
  repeat' (first
    | refine aw_seq ?_
    | (refine aw_run [5] ?_; simp -implicitDefEqProofs)
    | (refine aw_ymix [5] draws (by decide +kernel) ?_; simp -implicitDefEqProofs)
    | (refine aw_yrun draws (by kernel_rfl) ?_; simp -implicitDefEqProofs)
    | (refine awl_skip' [5] rfl ?_; simp -implicitDefEqProofs)
    | (refine awl_pure_guard [5] rfl rfl rfl (by first | assumption | kernel_rfl) rfl (fun hc => by first | exact h | exact fine_ok _ _ _) (by simp) (by simp) (by simp) ?_; simp -implicitDefEqProofs)
    | (refine yl_pureG rfl rfl rfl (by first | assumption | kernel_rfl) rfl (fun hc => by first | exact h | exact fine_ok _ _ _) (by simp) (by simp) (by simp) ?_; simp -implicitDefEqProofs)
    | (refine awl_pure' [5] rfl rfl rfl (by first | assumption | kernel_rfl) rfl (by first | exact h | exact fine_ok _ _ _) (by simp) (by simp) ?_; simp -implicitDefEqProofs)
    | (refine yl_pure rfl rfl rfl (by first | assumption | kernel_rfl) rfl (by first | exact h | exact fine_ok _ _ _) (by simp) (by simp) ?_; simp -implicitDefEqProofs)
    | (refine aw_cond rfl (fun h => ?_) (fun h => ?_) <;> try (with_reducible first | exact ff_tt h | exact tt_ff h))
    | (refine aw_skip ?_; simp -implicitDefEqProofs)
    | refine aw_block ?_
    | (refine aw_exit ?_; simp -implicitDefEqProofs)
    | refine aw_ret (ret_of (.inr rfl) (by simp [Tryd.results88]; rfl) (Fin.of ?_)))
  cases inI c <;> rfl
set_option maxRecDepth 100000 in
theorem ask_ok (g : Nat) : APure Tryd.prog 53 [vf g] (.fn (.func 90) [] [.vel [vf g] 0 0]) := by
  refine apure_of Tryd.func53 Tryd.ntmps53 rfl ?_
  simp only [List.length_cons, List.length_nil, List.cons_append, List.nil_append, List.replicate]
  repeat' (first
    | refine aw_seq ?_
    | (refine aw_run [] ?_; simp -implicitDefEqProofs)
    | (refine aw_ymix [] draws (by decide +kernel) ?_; simp -implicitDefEqProofs)
    | (refine aw_yrun draws (by kernel_rfl) ?_; simp -implicitDefEqProofs)
    | (refine awl_skip' [] rfl ?_; simp -implicitDefEqProofs)
    | (refine aw_cond rfl (fun h => ?_) (fun h => ?_) <;> try (with_reducible first | exact ff_tt h | exact tt_ff h))
    | (refine aw_skip ?_; simp -implicitDefEqProofs)
    | refine aw_block ?_
    | (refine aw_exit ?_; simp -implicitDefEqProofs)
    | refine aw_ret (ret_of (.inr rfl) (by simp [Tryd.results53]; rfl) (Fin.of ?_)))
  rfl
set_option maxRecDepth 100000 in
theorem ask1_ok (g : Nat) (a b : Int) (t : Bool) (hc : callable Tryd.prog g = true) (h : APure Tryd.prog g [vi a, vi b] (vb t)) : APure Tryd.prog 90 [vi a, vi b, .vel [vf g] 0 0] (value (z t 1) 0) := by
  refine apure_of Tryd.func90 Tryd.ntmps90 rfl ?_
  simp only [List.length_cons, List.length_nil, List.cons_append, List.nil_append, List.replicate]
  repeat' (first
    | refine aw_seq ?_
    | (refine aw_run [5] ?_; simp -implicitDefEqProofs)
    | (refine aw_ymix [5] draws (by decide +kernel) ?_; simp -implicitDefEqProofs)
    | (refine aw_yrun draws (by kernel_rfl) ?_; simp -implicitDefEqProofs)
    | (refine awl_skip' [5] rfl ?_; simp -implicitDefEqProofs)
    | (refine awl_pure_guard [5] rfl rfl rfl (by first | assumption | kernel_rfl) rfl (fun hc => by first | exact h | exact truth_ok _) (by simp) (by simp) (by simp) ?_; simp -implicitDefEqProofs)
    | (refine yl_pureG rfl rfl rfl (by first | assumption | kernel_rfl) rfl (fun hc => by first | exact h | exact truth_ok _) (by simp) (by simp) (by simp) ?_; simp -implicitDefEqProofs)
    | (refine awl_pure' [5] rfl rfl rfl (by first | assumption | kernel_rfl) rfl (by first | exact h | exact truth_ok _) (by simp) (by simp) ?_; simp -implicitDefEqProofs)
    | (refine yl_pure rfl rfl rfl (by first | assumption | kernel_rfl) rfl (by first | exact h | exact truth_ok _) (by simp) (by simp) ?_; simp -implicitDefEqProofs)
    | (refine aw_cond rfl (fun h => ?_) (fun h => ?_) <;> try (with_reducible first | exact ff_tt h | exact tt_ff h))
    | (refine aw_skip ?_; simp -implicitDefEqProofs)
    | refine aw_block ?_
    | (refine aw_exit ?_; simp -implicitDefEqProofs)
    | refine aw_ret (ret_of (.inr rfl) (by simp [Tryd.results90]; rfl) (Fin.of ?_)))
  rfl
set_option maxRecDepth 100000 in
theorem op1_ok (a b : Int) : APure Tryd.prog 54 [vi a, vi b] (vb (decide (a < b))) := by
  refine apure_of Tryd.func54 Tryd.ntmps54 rfl ?_
  simp only [List.length_cons, List.length_nil, List.cons_append, List.nil_append, List.replicate]
  repeat' (first
    | refine aw_seq ?_
    | (refine aw_run [] ?_; simp -implicitDefEqProofs)
    | (refine aw_ymix [] draws (by decide +kernel) ?_; simp -implicitDefEqProofs)
    | (refine aw_yrun draws (by kernel_rfl) ?_; simp -implicitDefEqProofs)
    | (refine awl_skip' [] rfl ?_; simp -implicitDefEqProofs)
    | (refine aw_cond rfl (fun h => ?_) (fun h => ?_) <;> try (with_reducible first | exact ff_tt h | exact tt_ff h))
    | (refine aw_skip ?_; simp -implicitDefEqProofs)
    | refine aw_block ?_
    | (refine aw_exit ?_; simp -implicitDefEqProofs)
    | refine aw_ret (ret_of (.inr rfl) (by simp [Tryd.results54]; rfl) (Fin.of ?_)))
  rfl
set_option maxRecDepth 100000 in
theorem op2_ok (a b : Int) : APure Tryd.prog 55 [vi a, vi b] (vb (decide (a ≤ b))) := by
  refine apure_of Tryd.func55 Tryd.ntmps55 rfl ?_
  simp only [List.length_cons, List.length_nil, List.cons_append, List.nil_append, List.replicate]
  repeat' (first
    | refine aw_seq ?_
    | (refine aw_run [] ?_; simp -implicitDefEqProofs)
    | (refine aw_ymix [] draws (by decide +kernel) ?_; simp -implicitDefEqProofs)
    | (refine aw_yrun draws (by kernel_rfl) ?_; simp -implicitDefEqProofs)
    | (refine awl_skip' [] rfl ?_; simp -implicitDefEqProofs)
    | (refine aw_cond rfl (fun h => ?_) (fun h => ?_) <;> try (with_reducible first | exact ff_tt h | exact tt_ff h))
    | (refine aw_skip ?_; simp -implicitDefEqProofs)
    | refine aw_block ?_
    | (refine aw_exit ?_; simp -implicitDefEqProofs)
    | refine aw_ret (ret_of (.inr rfl) (by simp [Tryd.results55]; rfl) (Fin.of ?_)))
  rfl
set_option maxRecDepth 100000 in
theorem op3_ok (a b : Int) : APure Tryd.prog 56 [vi a, vi b] (vb (decide (a = b))) := by
  refine apure_of Tryd.func56 Tryd.ntmps56 rfl ?_
  simp only [List.length_cons, List.length_nil, List.cons_append, List.nil_append, List.replicate]
  repeat' (first
    | refine aw_seq ?_
    | (refine aw_run [] ?_; simp -implicitDefEqProofs)
    | (refine aw_ymix [] draws (by decide +kernel) ?_; simp -implicitDefEqProofs)
    | (refine aw_yrun draws (by kernel_rfl) ?_; simp -implicitDefEqProofs)
    | (refine awl_skip' [] rfl ?_; simp -implicitDefEqProofs)
    | (refine aw_cond rfl (fun h => ?_) (fun h => ?_) <;> try (with_reducible first | exact ff_tt h | exact tt_ff h))
    | (refine aw_skip ?_; simp -implicitDefEqProofs)
    | refine aw_block ?_
    | (refine aw_exit ?_; simp -implicitDefEqProofs)
    | refine aw_ret (ret_of (.inr rfl) (by simp [Tryd.results56]; rfl) (Fin.of ?_)))
  rfl
set_option maxRecDepth 100000 in
theorem op4_ok (a b : Int) : APure Tryd.prog 57 [vi a, vi b] (vb (!decide (a = b))) := by
  refine apure_of Tryd.func57 Tryd.ntmps57 rfl ?_
  simp only [List.length_cons, List.length_nil, List.cons_append, List.nil_append, List.replicate]
  repeat' (first
    | refine aw_seq ?_
    | (refine aw_run [] ?_; simp -implicitDefEqProofs)
    | (refine aw_ymix [] draws (by decide +kernel) ?_; simp -implicitDefEqProofs)
    | (refine aw_yrun draws (by kernel_rfl) ?_; simp -implicitDefEqProofs)
    | (refine awl_skip' [] rfl ?_; simp -implicitDefEqProofs)
    | (refine aw_cond rfl (fun h => ?_) (fun h => ?_) <;> try (with_reducible first | exact ff_tt h | exact tt_ff h))
    | (refine aw_skip ?_; simp -implicitDefEqProofs)
    | refine aw_block ?_
    | (refine aw_exit ?_; simp -implicitDefEqProofs)
    | refine aw_ret (ret_of (.inr rfl) (by simp [Tryd.results57]; rfl) (Fin.of ?_)))
  rfl
set_option maxRecDepth 100000 in
theorem op5_ok (a b : Int) : APure Tryd.prog 58 [vi a, vi b] (vb (decide (b ≤ a))) := by
  refine apure_of Tryd.func58 Tryd.ntmps58 rfl ?_
  simp only [List.length_cons, List.length_nil, List.cons_append, List.nil_append, List.replicate]
  repeat' (first
    | refine aw_seq ?_
    | (refine aw_run [] ?_; simp -implicitDefEqProofs)
    | (refine aw_ymix [] draws (by decide +kernel) ?_; simp -implicitDefEqProofs)
    | (refine aw_yrun draws (by kernel_rfl) ?_; simp -implicitDefEqProofs)
    | (refine awl_skip' [] rfl ?_; simp -implicitDefEqProofs)
    | (refine aw_cond rfl (fun h => ?_) (fun h => ?_) <;> try (with_reducible first | exact ff_tt h | exact tt_ff h))
    | (refine aw_skip ?_; simp -implicitDefEqProofs)
    | refine aw_block ?_
    | (refine aw_exit ?_; simp -implicitDefEqProofs)
    | refine aw_ret (ret_of (.inr rfl) (by simp [Tryd.results58]; rfl) (Fin.of ?_)))
  rfl
set_option maxRecDepth 100000 in
theorem op6_ok (a b : Int) : APure Tryd.prog 59 [vi a, vi b] (vb (decide (b < a))) := by
  refine apure_of Tryd.func59 Tryd.ntmps59 rfl ?_
  simp only [List.length_cons, List.length_nil, List.cons_append, List.nil_append, List.replicate]
  repeat' (first
    | refine aw_seq ?_
    | (refine aw_run [] ?_; simp -implicitDefEqProofs)
    | (refine aw_ymix [] draws (by decide +kernel) ?_; simp -implicitDefEqProofs)
    | (refine aw_yrun draws (by kernel_rfl) ?_; simp -implicitDefEqProofs)
    | (refine awl_skip' [] rfl ?_; simp -implicitDefEqProofs)
    | (refine aw_cond rfl (fun h => ?_) (fun h => ?_) <;> try (with_reducible first | exact ff_tt h | exact tt_ff h))
    | (refine aw_skip ?_; simp -implicitDefEqProofs)
    | refine aw_block ?_
    | (refine aw_exit ?_; simp -implicitDefEqProofs)
    | refine aw_ret (ret_of (.inr rfl) (by simp [Tryd.results59]; rfl) (Fin.of ?_)))
  rfl
set_option maxRecDepth 100000 in
theorem quotient_zero (a : Int) : APure Tryd.prog 52 [vi a, vi 0] (value 0 2) := by
  refine apure_of Tryd.func52 Tryd.ntmps52 rfl ?_
  simp only [List.length_cons, List.length_nil, List.cons_append, List.nil_append, List.replicate]
  repeat' (first
    | refine aw_seq ?_
    | (refine aw_run [4] ?_; simp -implicitDefEqProofs)
    | (refine aw_ymix [4] draws (by decide +kernel) ?_; simp -implicitDefEqProofs)
    | (refine aw_yrun draws (by kernel_rfl) ?_; simp -implicitDefEqProofs)
    | (refine awl_skip' [4] rfl ?_; simp -implicitDefEqProofs)
    | (refine awl_pure_guard [4] rfl rfl rfl (by first | assumption | kernel_rfl) rfl (fun hc => by first | exact faulty_ok _) (by simp) (by simp) (by simp) ?_; simp -implicitDefEqProofs)
    | (refine yl_pureG rfl rfl rfl (by first | assumption | kernel_rfl) rfl (fun hc => by first | exact faulty_ok _) (by simp) (by simp) (by simp) ?_; simp -implicitDefEqProofs)
    | (refine awl_pure' [4] rfl rfl rfl (by first | assumption | kernel_rfl) rfl (by first | exact faulty_ok _) (by simp) (by simp) ?_; simp -implicitDefEqProofs)
    | (refine yl_pure rfl rfl rfl (by first | assumption | kernel_rfl) rfl (by first | exact faulty_ok _) (by simp) (by simp) ?_; simp -implicitDefEqProofs)
    | (refine aw_cond rfl (fun h => ?_) (fun h => ?_) <;> try (with_reducible first | exact ff_tt h | exact tt_ff h))
    | (refine aw_skip ?_; simp -implicitDefEqProofs)
    | refine aw_block ?_
    | (refine aw_exit ?_; simp -implicitDefEqProofs)
    | refine aw_ret (ret_of (.inr rfl) (by simp [Tryd.results52]; rfl) (Fin.of ?_)))
  rfl
set_option maxRecDepth 100000 in
theorem quotient_ok {a b : Int} (ha : In64 a) (hb : In64 b) (b0 : b ≠ 0) : APure Tryd.prog 52 [vi a, vi b] (value (z (inI (a.tdiv b)) (a.tdiv b)) (z (!inI (a.tdiv b)) 1)) := by
  have hc : callable Tryd.prog 89 = true := by kernel_rfl
  have hd := reckon1_ok 89 a b (a.tdiv b) hc (div_ok ha hb b0)
  refine apure_of Tryd.func52 Tryd.ntmps52 rfl ?_
  simp only [List.length_cons, List.length_nil, List.cons_append, List.nil_append, List.replicate]
  repeat' (first
    | refine aw_seq ?_
    | (refine aw_run [4] ?_; simp -implicitDefEqProofs [b0])
    | (refine aw_ymix [4] draws (by decide +kernel) ?_; simp -implicitDefEqProofs [b0])
    | (refine aw_yrun draws (by kernel_rfl) ?_; simp -implicitDefEqProofs [b0])
    | (refine awl_skip' [4] rfl ?_; simp -implicitDefEqProofs [b0])
    | (refine awl_pure_guard [4] rfl rfl rfl (by first | assumption | kernel_rfl) rfl (fun hc => by first | exact faulty_ok _ | exact reckon_ok _ | exact hd) (by simp) (by simp) (by simp) ?_; simp -implicitDefEqProofs [b0])
    | (refine yl_pureG rfl rfl rfl (by first | assumption | kernel_rfl) rfl (fun hc => by first | exact faulty_ok _ | exact reckon_ok _ | exact hd) (by simp) (by simp) (by simp) ?_; simp -implicitDefEqProofs [b0])
    | (refine awl_pure' [4] rfl rfl rfl (by first | assumption | kernel_rfl) rfl (by first | exact faulty_ok _ | exact reckon_ok _ | exact hd) (by simp) (by simp) ?_; simp -implicitDefEqProofs [b0])
    | (refine yl_pure rfl rfl rfl (by first | assumption | kernel_rfl) rfl (by first | exact faulty_ok _ | exact reckon_ok _ | exact hd) (by simp) (by simp) ?_; simp -implicitDefEqProofs [b0])
    | (refine aw_cond rfl (fun h => ?_) (fun h => ?_) <;> try (with_reducible first | exact ff_tt h | exact tt_ff h))
    | (refine aw_skip ?_; simp -implicitDefEqProofs [b0])
    | refine aw_block ?_
    | (refine aw_exit ?_; simp -implicitDefEqProofs [b0])
    | refine aw_ret (ret_of (.inr rfl) (by simp [Tryd.results52]; rfl) (Fin.of ?_)))
  rfl
end Go.AL
