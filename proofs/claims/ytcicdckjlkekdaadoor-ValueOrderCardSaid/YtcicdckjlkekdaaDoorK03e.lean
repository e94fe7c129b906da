import Derived.Test.YtcicdckjlkekdaaDoorK03d
/-! Contracts: gridironref03.Do, Neg. -/
namespace Go.AL
open Go.Proofs
set_option linter.unusedSimpArgs false
set_option linter.unusedVariables false
set_option maxRecDepth 100000 in
theorem rtold_ok (c : Int) : APure Tryd.prog 60 [vi (z (inI c) c), vb (inI c)] (value (z (inI c) c) (z (!inI c) 1)) := by
  cases inI c
  · refine apure_of Tryd.func60 Tryd.ntmps60 rfl ?_
    simp only [List.length_cons, List.length_nil, List.cons_append, List.nil_append, List.replicate]
    repeat' (first
      | refine aw_seq ?_
      | (refine aw_run [4] ?_; simp -implicitDefEqProofs)
      | (refine aw_ymix [4] draws (by decide +kernel) ?_; simp -implicitDefEqProofs)
      | (refine aw_yrun draws (by kernel_rfl) ?_; simp -implicitDefEqProofs)
      | (refine awl_skip' [4] rfl ?_; simp -implicitDefEqProofs)
      | (refine aw_cond rfl (fun h => ?_) (fun h => ?_) <;> try (with_reducible first | exact ff_tt h | exact tt_ff h))
      | (refine aw_skip ?_; simp -implicitDefEqProofs)
      | refine aw_block ?_
      | (refine aw_exit ?_; simp -implicitDefEqProofs)
      | refine aw_ret (ret_of (.inr rfl) (by simp [Tryd.results60]; rfl) (Fin.of ?_)))
    rfl
  · refine apure_of Tryd.func60 Tryd.ntmps60 rfl ?_
    simp only [List.length_cons, List.length_nil, List.cons_append, List.nil_append, List.replicate]
    repeat' (first
      | refine aw_seq ?_
      | (refine aw_run [4] ?_; simp -implicitDefEqProofs)
      | (refine aw_ymix [4] draws (by decide +kernel) ?_; simp -implicitDefEqProofs)
      | (refine aw_yrun draws (by kernel_rfl) ?_; simp -implicitDefEqProofs)
      | (refine awl_skip' [4] rfl ?_; simp -implicitDefEqProofs)
      | (refine aw_cond rfl (fun h => ?_) (fun h => ?_) <;> try (with_reducible first | exact ff_tt h | exact tt_ff h))
      | (refine aw_skip ?_; simp -implicitDefEqProofs)
      | refine aw_block ?_
      | (refine aw_exit ?_; simp -implicitDefEqProofs)
      | refine aw_ret (ret_of (.inr rfl) (by simp [Tryd.results60]; rfl) (Fin.of ?_)))
    rfl
set_option maxRecDepth 100000 in
theorem rtruth_ok (b : Bool) : APure Tryd.prog 65 [vb b] (value (z b 1) 0) := by
  cases b
  · refine apure_of Tryd.func65 Tryd.ntmps65 rfl ?_
    simp only [List.length_cons, List.length_nil, List.cons_append, List.nil_append, List.replicate]
    repeat' (first
      | refine aw_seq ?_
      | (refine aw_run [2] ?_; simp -implicitDefEqProofs)
      | (refine aw_ymix [2] draws (by decide +kernel) ?_; simp -implicitDefEqProofs)
      | (refine aw_yrun draws (by kernel_rfl) ?_; simp -implicitDefEqProofs)
      | (refine awl_skip' [2] rfl ?_; simp -implicitDefEqProofs)
      | (refine aw_cond rfl (fun h => ?_) (fun h => ?_) <;> try (with_reducible first | exact ff_tt h | exact tt_ff h))
      | (refine aw_skip ?_; simp -implicitDefEqProofs)
      | refine aw_block ?_
      | (refine aw_exit ?_; simp -implicitDefEqProofs)
      | refine aw_ret (ret_of (.inr rfl) (by simp [Tryd.results65]; rfl) (Fin.of ?_)))
    rfl
  · refine apure_of Tryd.func65 Tryd.ntmps65 rfl ?_
    simp only [List.length_cons, List.length_nil, List.cons_append, List.nil_append, List.replicate]
    repeat' (first
      | refine aw_seq ?_
      | (refine aw_run [2] ?_; simp -implicitDefEqProofs)
      | (refine aw_ymix [2] draws (by decide +kernel) ?_; simp -implicitDefEqProofs)
      | (refine aw_yrun draws (by kernel_rfl) ?_; simp -implicitDefEqProofs)
      | (refine awl_skip' [2] rfl ?_; simp -implicitDefEqProofs)
      | (refine aw_cond rfl (fun h => ?_) (fun h => ?_) <;> try (with_reducible first | exact ff_tt h | exact tt_ff h))
      | (refine aw_skip ?_; simp -implicitDefEqProofs)
      | refine aw_block ?_
      | (refine aw_exit ?_; simp -implicitDefEqProofs)
      | refine aw_ret (ret_of (.inr rfl) (by simp [Tryd.results65]; rfl) (Fin.of ?_)))
    rfl
def numN (k : Nat) (a b : Int) : Int := if k = 10 then 0 else numK k a b
def numF (k : Nat) (a b : Int) : Int := if k = 10 then 0 else fltK k a b
set_option maxHeartbeats 8000000 in
set_option maxRecDepth 100000 in
theorem numbers_ok (s : ByteArray) (a b : Int) (ha : In64 a) (hb : In64 b) : APure Tryd.prog 34 [vs s, vi a, vi b] (.tup [value (numN (doK s) a b) (numF (doK s) a b), vb (doB (doK s))]) := by
  by_cases h0 : s = ⟨#[43]⟩
  · subst h0
    have hc := radd_ok ha hb
    rw [show doK ⟨#[43]⟩ = 0 by decide]
    refine apure_of Tryd.func34 Tryd.ntmps34 rfl ?_
    simp only [List.length_cons, List.length_nil, List.cons_append, List.nil_append, List.replicate]
    repeat' (first
      | refine aw_seq ?_
      | (refine aw_run [6] ?_; simp -implicitDefEqProofs [Nat.lt_irrefl])
      | (refine aw_ymix [6] draws (by decide +kernel) ?_; simp -implicitDefEqProofs [Nat.lt_irrefl])
      | (refine aw_yrun draws (by kernel_rfl) ?_; simp -implicitDefEqProofs [Nat.lt_irrefl])
      | (refine awl_skip' [6] rfl ?_; simp -implicitDefEqProofs [Nat.lt_irrefl])
      | (refine awl_pure_guard [6] rfl rfl rfl (by first | assumption | kernel_rfl) rfl (fun hc => by first | exact hc | exact rtold_ok _ | exact rtruth_ok _) (by simp) (by simp) (by simp) ?_; simp -implicitDefEqProofs [Nat.lt_irrefl])
      | (refine yl_pureG rfl rfl rfl (by first | assumption | kernel_rfl) rfl (fun hc => by first | exact hc | exact rtold_ok _ | exact rtruth_ok _) (by simp) (by simp) (by simp) ?_; simp -implicitDefEqProofs [Nat.lt_irrefl])
      | (refine awl_pure' [6] rfl rfl rfl (by first | assumption | kernel_rfl) rfl (by first | exact hc | exact rtold_ok _ | exact rtruth_ok _) (by simp) (by simp) ?_; simp -implicitDefEqProofs [Nat.lt_irrefl])
      | (refine yl_pure rfl rfl rfl (by first | assumption | kernel_rfl) rfl (by first | exact hc | exact rtold_ok _ | exact rtruth_ok _) (by simp) (by simp) ?_; simp -implicitDefEqProofs [Nat.lt_irrefl])
      | (refine aw_cond rfl (fun h => ?_) (fun h => ?_) <;> try (with_reducible first | exact ff_tt h | exact tt_ff h))
      | (refine aw_skip ?_; simp -implicitDefEqProofs [Nat.lt_irrefl])
      | refine aw_block ?_
      | (refine aw_exit ?_; simp -implicitDefEqProofs [Nat.lt_irrefl])
      | refine aw_ret (ret_of (.inr rfl) (by simp [Tryd.results34]; rfl) (Fin.of ?_)))
    all_goals simp [tupOf, numN, numF, numK, fltK, doB, Nat.lt_irrefl]
  by_cases h1 : s = ⟨#[45]⟩
  · subst h1
    have hc := rsub_ok ha hb
    rw [show doK ⟨#[45]⟩ = 1 by decide]
    refine apure_of Tryd.func34 Tryd.ntmps34 rfl ?_
    simp only [List.length_cons, List.length_nil, List.cons_append, List.nil_append, List.replicate]
    repeat' (first
      | refine aw_seq ?_
      | (refine aw_run [6] ?_; simp -implicitDefEqProofs [Nat.lt_irrefl])
      | (refine aw_ymix [6] draws (by decide +kernel) ?_; simp -implicitDefEqProofs [Nat.lt_irrefl])
      | (refine aw_yrun draws (by kernel_rfl) ?_; simp -implicitDefEqProofs [Nat.lt_irrefl])
      | (refine awl_skip' [6] rfl ?_; simp -implicitDefEqProofs [Nat.lt_irrefl])
      | (refine awl_pure_guard [6] rfl rfl rfl (by first | assumption | kernel_rfl) rfl (fun hc => by first | exact hc | exact rtold_ok _ | exact rtruth_ok _) (by simp) (by simp) (by simp) ?_; simp -implicitDefEqProofs [Nat.lt_irrefl])
      | (refine yl_pureG rfl rfl rfl (by first | assumption | kernel_rfl) rfl (fun hc => by first | exact hc | exact rtold_ok _ | exact rtruth_ok _) (by simp) (by simp) (by simp) ?_; simp -implicitDefEqProofs [Nat.lt_irrefl])
      | (refine awl_pure' [6] rfl rfl rfl (by first | assumption | kernel_rfl) rfl (by first | exact hc | exact rtold_ok _ | exact rtruth_ok _) (by simp) (by simp) ?_; simp -implicitDefEqProofs [Nat.lt_irrefl])
      | (refine yl_pure rfl rfl rfl (by first | assumption | kernel_rfl) rfl (by first | exact hc | exact rtold_ok _ | exact rtruth_ok _) (by simp) (by simp) ?_; simp -implicitDefEqProofs [Nat.lt_irrefl])
      | (refine aw_cond rfl (fun h => ?_) (fun h => ?_) <;> try (with_reducible first | exact ff_tt h | exact tt_ff h))
      | (refine aw_skip ?_; simp -implicitDefEqProofs [Nat.lt_irrefl])
      | refine aw_block ?_
      | (refine aw_exit ?_; simp -implicitDefEqProofs [Nat.lt_irrefl])
      | refine aw_ret (ret_of (.inr rfl) (by simp [Tryd.results34]; rfl) (Fin.of ?_)))
    all_goals simp [tupOf, numN, numF, numK, fltK, doB, Nat.lt_irrefl]
  by_cases h2 : s = ⟨#[42]⟩
  · subst h2
    have hc := rmul_ok ha hb
    rw [show doK ⟨#[42]⟩ = 2 by decide]
    refine apure_of Tryd.func34 Tryd.ntmps34 rfl ?_
    simp only [List.length_cons, List.length_nil, List.cons_append, List.nil_append, List.replicate]
    repeat' (first
      | refine aw_seq ?_
      | (refine aw_run [6] ?_; simp -implicitDefEqProofs [Nat.lt_irrefl])
      | (refine aw_ymix [6] draws (by decide +kernel) ?_; simp -implicitDefEqProofs [Nat.lt_irrefl])
      | (refine aw_yrun draws (by kernel_rfl) ?_; simp -implicitDefEqProofs [Nat.lt_irrefl])
      | (refine awl_skip' [6] rfl ?_; simp -implicitDefEqProofs [Nat.lt_irrefl])
      | (refine awl_pure_guard [6] rfl rfl rfl (by first | assumption | kernel_rfl) rfl (fun hc => by first | exact hc | exact rtold_ok _ | exact rtruth_ok _) (by simp) (by simp) (by simp) ?_; simp -implicitDefEqProofs [Nat.lt_irrefl])
      | (refine yl_pureG rfl rfl rfl (by first | assumption | kernel_rfl) rfl (fun hc => by first | exact hc | exact rtold_ok _ | exact rtruth_ok _) (by simp) (by simp) (by simp) ?_; simp -implicitDefEqProofs [Nat.lt_irrefl])
      | (refine awl_pure' [6] rfl rfl rfl (by first | assumption | kernel_rfl) rfl (by first | exact hc | exact rtold_ok _ | exact rtruth_ok _) (by simp) (by simp) ?_; simp -implicitDefEqProofs [Nat.lt_irrefl])
      | (refine yl_pure rfl rfl rfl (by first | assumption | kernel_rfl) rfl (by first | exact hc | exact rtold_ok _ | exact rtruth_ok _) (by simp) (by simp) ?_; simp -implicitDefEqProofs [Nat.lt_irrefl])
      | (refine aw_cond rfl (fun h => ?_) (fun h => ?_) <;> try (with_reducible first | exact ff_tt h | exact tt_ff h))
      | (refine aw_skip ?_; simp -implicitDefEqProofs [Nat.lt_irrefl])
      | refine aw_block ?_
      | (refine aw_exit ?_; simp -implicitDefEqProofs [Nat.lt_irrefl])
      | refine aw_ret (ret_of (.inr rfl) (by simp [Tryd.results34]; rfl) (Fin.of ?_)))
    all_goals simp [tupOf, numN, numF, numK, fltK, doB, Nat.lt_irrefl]
  by_cases h3 : s = ⟨#[47]⟩
  · subst h3
    have hc := rtruth_ok true
    by_cases b0 : b = 0
    · subst b0
      rw [show doK ⟨#[47]⟩ = 3 by decide]
      refine apure_of Tryd.func34 Tryd.ntmps34 rfl ?_
      simp only [List.length_cons, List.length_nil, List.cons_append, List.nil_append, List.replicate]
      repeat' (first
        | refine aw_seq ?_
        | (refine aw_run [6] ?_; simp -implicitDefEqProofs [Nat.lt_irrefl])
        | (refine aw_ymix [6] draws (by decide +kernel) ?_; simp -implicitDefEqProofs [Nat.lt_irrefl])
        | (refine aw_yrun draws (by kernel_rfl) ?_; simp -implicitDefEqProofs [Nat.lt_irrefl])
        | (refine awl_skip' [6] rfl ?_; simp -implicitDefEqProofs [Nat.lt_irrefl])
        | (refine awl_pure_guard [6] rfl rfl rfl (by first | assumption | kernel_rfl) rfl (fun hc => by first | exact hc | exact rtold_ok _ | exact rtruth_ok _) (by simp) (by simp) (by simp) ?_; simp -implicitDefEqProofs [Nat.lt_irrefl])
        | (refine yl_pureG rfl rfl rfl (by first | assumption | kernel_rfl) rfl (fun hc => by first | exact hc | exact rtold_ok _ | exact rtruth_ok _) (by simp) (by simp) (by simp) ?_; simp -implicitDefEqProofs [Nat.lt_irrefl])
        | (refine awl_pure' [6] rfl rfl rfl (by first | assumption | kernel_rfl) rfl (by first | exact hc | exact rtold_ok _ | exact rtruth_ok _) (by simp) (by simp) ?_; simp -implicitDefEqProofs [Nat.lt_irrefl])
        | (refine yl_pure rfl rfl rfl (by first | assumption | kernel_rfl) rfl (by first | exact hc | exact rtold_ok _ | exact rtruth_ok _) (by simp) (by simp) ?_; simp -implicitDefEqProofs [Nat.lt_irrefl])
        | (refine aw_cond rfl (fun h => ?_) (fun h => ?_) <;> try (with_reducible first | exact ff_tt h | exact tt_ff h))
        | (refine aw_skip ?_; simp -implicitDefEqProofs [Nat.lt_irrefl])
        | refine aw_block ?_
        | (refine aw_exit ?_; simp -implicitDefEqProofs [Nat.lt_irrefl])
        | refine aw_ret (ret_of (.inr rfl) (by simp [Tryd.results34]; rfl) (Fin.of ?_)))
      all_goals simp [tupOf, numN, numF, numK, fltK, doB, Nat.lt_irrefl]
    · have hc := rdiv_ok ha hb b0
      rw [show doK ⟨#[47]⟩ = 3 by decide]
      refine apure_of Tryd.func34 Tryd.ntmps34 rfl ?_
      simp only [List.length_cons, List.length_nil, List.cons_append, List.nil_append, List.replicate]
      repeat' (first
        | refine aw_seq ?_
        | (refine aw_run [6] ?_; simp -implicitDefEqProofs [b0])
        | (refine aw_ymix [6] draws (by decide +kernel) ?_; simp -implicitDefEqProofs [b0])
        | (refine aw_yrun draws (by kernel_rfl) ?_; simp -implicitDefEqProofs [b0])
        | (refine awl_skip' [6] rfl ?_; simp -implicitDefEqProofs [b0])
        | (refine awl_pure_guard [6] rfl rfl rfl (by first | assumption | kernel_rfl) rfl (fun hc => by first | exact hc | exact rtold_ok _ | exact rtruth_ok _) (by simp) (by simp) (by simp) ?_; simp -implicitDefEqProofs [b0])
        | (refine yl_pureG rfl rfl rfl (by first | assumption | kernel_rfl) rfl (fun hc => by first | exact hc | exact rtold_ok _ | exact rtruth_ok _) (by simp) (by simp) (by simp) ?_; simp -implicitDefEqProofs [b0])
        | (refine awl_pure' [6] rfl rfl rfl (by first | assumption | kernel_rfl) rfl (by first | exact hc | exact rtold_ok _ | exact rtruth_ok _) (by simp) (by simp) ?_; simp -implicitDefEqProofs [b0])
        | (refine yl_pure rfl rfl rfl (by first | assumption | kernel_rfl) rfl (by first | exact hc | exact rtold_ok _ | exact rtruth_ok _) (by simp) (by simp) ?_; simp -implicitDefEqProofs [b0])
        | (refine aw_cond rfl (fun h => ?_) (fun h => ?_) <;> try (with_reducible first | exact ff_tt h | exact tt_ff h))
        | (refine aw_skip ?_; simp -implicitDefEqProofs [b0])
        | refine aw_block ?_
        | (refine aw_exit ?_; simp -implicitDefEqProofs [b0])
        | refine aw_ret (ret_of (.inr rfl) (by simp [Tryd.results34]; rfl) (Fin.of ?_)))
      all_goals simp [tupOf, numN, numF, numK, fltK, doB, b0]
  by_cases h4 : s = ⟨#[60]⟩
  · subst h4
    have hc := rtruth_ok true
    rw [show doK ⟨#[60]⟩ = 4 by decide]
    refine apure_of Tryd.func34 Tryd.ntmps34 rfl ?_
    simp only [List.length_cons, List.length_nil, List.cons_append, List.nil_append, List.replicate]
    repeat' (first
      | refine aw_seq ?_
      | (refine aw_run [6] ?_; simp -implicitDefEqProofs [Nat.lt_irrefl])
      | (refine aw_ymix [6] draws (by decide +kernel) ?_; simp -implicitDefEqProofs [Nat.lt_irrefl])
      | (refine aw_yrun draws (by kernel_rfl) ?_; simp -implicitDefEqProofs [Nat.lt_irrefl])
      | (refine awl_skip' [6] rfl ?_; simp -implicitDefEqProofs [Nat.lt_irrefl])
      | (refine awl_pure_guard [6] rfl rfl rfl (by first | assumption | kernel_rfl) rfl (fun hc => by first | exact hc | exact rtold_ok _ | exact rtruth_ok _) (by simp) (by simp) (by simp) ?_; simp -implicitDefEqProofs [Nat.lt_irrefl])
      | (refine yl_pureG rfl rfl rfl (by first | assumption | kernel_rfl) rfl (fun hc => by first | exact hc | exact rtold_ok _ | exact rtruth_ok _) (by simp) (by simp) (by simp) ?_; simp -implicitDefEqProofs [Nat.lt_irrefl])
      | (refine awl_pure' [6] rfl rfl rfl (by first | assumption | kernel_rfl) rfl (by first | exact hc | exact rtold_ok _ | exact rtruth_ok _) (by simp) (by simp) ?_; simp -implicitDefEqProofs [Nat.lt_irrefl])
      | (refine yl_pure rfl rfl rfl (by first | assumption | kernel_rfl) rfl (by first | exact hc | exact rtold_ok _ | exact rtruth_ok _) (by simp) (by simp) ?_; simp -implicitDefEqProofs [Nat.lt_irrefl])
      | (refine aw_cond rfl (fun h => ?_) (fun h => ?_) <;> try (with_reducible first | exact ff_tt h | exact tt_ff h))
      | (refine aw_skip ?_; simp -implicitDefEqProofs [Nat.lt_irrefl])
      | refine aw_block ?_
      | (refine aw_exit ?_; simp -implicitDefEqProofs [Nat.lt_irrefl])
      | refine aw_ret (ret_of (.inr rfl) (by simp [Tryd.results34]; rfl) (Fin.of ?_)))
    all_goals simp [tupOf, numN, numF, numK, fltK, doB, Nat.lt_irrefl]
  by_cases h5 : s = ⟨#[60, 61]⟩
  · subst h5
    have hc := rtruth_ok true
    rw [show doK ⟨#[60, 61]⟩ = 5 by decide]
    refine apure_of Tryd.func34 Tryd.ntmps34 rfl ?_
    simp only [List.length_cons, List.length_nil, List.cons_append, List.nil_append, List.replicate]
    repeat' (first
      | refine aw_seq ?_
      | (refine aw_run [6] ?_; simp -implicitDefEqProofs [Nat.lt_irrefl])
      | (refine aw_ymix [6] draws (by decide +kernel) ?_; simp -implicitDefEqProofs [Nat.lt_irrefl])
      | (refine aw_yrun draws (by kernel_rfl) ?_; simp -implicitDefEqProofs [Nat.lt_irrefl])
      | (refine awl_skip' [6] rfl ?_; simp -implicitDefEqProofs [Nat.lt_irrefl])
      | (refine awl_pure_guard [6] rfl rfl rfl (by first | assumption | kernel_rfl) rfl (fun hc => by first | exact hc | exact rtold_ok _ | exact rtruth_ok _) (by simp) (by simp) (by simp) ?_; simp -implicitDefEqProofs [Nat.lt_irrefl])
      | (refine yl_pureG rfl rfl rfl (by first | assumption | kernel_rfl) rfl (fun hc => by first | exact hc | exact rtold_ok _ | exact rtruth_ok _) (by simp) (by simp) (by simp) ?_; simp -implicitDefEqProofs [Nat.lt_irrefl])
      | (refine awl_pure' [6] rfl rfl rfl (by first | assumption | kernel_rfl) rfl (by first | exact hc | exact rtold_ok _ | exact rtruth_ok _) (by simp) (by simp) ?_; simp -implicitDefEqProofs [Nat.lt_irrefl])
      | (refine yl_pure rfl rfl rfl (by first | assumption | kernel_rfl) rfl (by first | exact hc | exact rtold_ok _ | exact rtruth_ok _) (by simp) (by simp) ?_; simp -implicitDefEqProofs [Nat.lt_irrefl])
      | (refine aw_cond rfl (fun h => ?_) (fun h => ?_) <;> try (with_reducible first | exact ff_tt h | exact tt_ff h))
      | (refine aw_skip ?_; simp -implicitDefEqProofs [Nat.lt_irrefl])
      | refine aw_block ?_
      | (refine aw_exit ?_; simp -implicitDefEqProofs [Nat.lt_irrefl])
      | refine aw_ret (ret_of (.inr rfl) (by simp [Tryd.results34]; rfl) (Fin.of ?_)))
    all_goals simp [tupOf, numN, numF, numK, fltK, doB, Nat.lt_irrefl]
  by_cases h6 : s = ⟨#[61]⟩
  · subst h6
    have hc := rtruth_ok true
    rw [show doK ⟨#[61]⟩ = 6 by decide]
    refine apure_of Tryd.func34 Tryd.ntmps34 rfl ?_
    simp only [List.length_cons, List.length_nil, List.cons_append, List.nil_append, List.replicate]
    repeat' (first
      | refine aw_seq ?_
      | (refine aw_run [6] ?_; simp -implicitDefEqProofs [Nat.lt_irrefl])
      | (refine aw_ymix [6] draws (by decide +kernel) ?_; simp -implicitDefEqProofs [Nat.lt_irrefl])
      | (refine aw_yrun draws (by kernel_rfl) ?_; simp -implicitDefEqProofs [Nat.lt_irrefl])
      | (refine awl_skip' [6] rfl ?_; simp -implicitDefEqProofs [Nat.lt_irrefl])
      | (refine awl_pure_guard [6] rfl rfl rfl (by first | assumption | kernel_rfl) rfl (fun hc => by first | exact hc | exact rtold_ok _ | exact rtruth_ok _) (by simp) (by simp) (by simp) ?_; simp -implicitDefEqProofs [Nat.lt_irrefl])
      | (refine yl_pureG rfl rfl rfl (by first | assumption | kernel_rfl) rfl (fun hc => by first | exact hc | exact rtold_ok _ | exact rtruth_ok _) (by simp) (by simp) (by simp) ?_; simp -implicitDefEqProofs [Nat.lt_irrefl])
      | (refine awl_pure' [6] rfl rfl rfl (by first | assumption | kernel_rfl) rfl (by first | exact hc | exact rtold_ok _ | exact rtruth_ok _) (by simp) (by simp) ?_; simp -implicitDefEqProofs [Nat.lt_irrefl])
      | (refine yl_pure rfl rfl rfl (by first | assumption | kernel_rfl) rfl (by first | exact hc | exact rtold_ok _ | exact rtruth_ok _) (by simp) (by simp) ?_; simp -implicitDefEqProofs [Nat.lt_irrefl])
      | (refine aw_cond rfl (fun h => ?_) (fun h => ?_) <;> try (with_reducible first | exact ff_tt h | exact tt_ff h))
      | (refine aw_skip ?_; simp -implicitDefEqProofs [Nat.lt_irrefl])
      | refine aw_block ?_
      | (refine aw_exit ?_; simp -implicitDefEqProofs [Nat.lt_irrefl])
      | refine aw_ret (ret_of (.inr rfl) (by simp [Tryd.results34]; rfl) (Fin.of ?_)))
    all_goals simp [tupOf, numN, numF, numK, fltK, doB, Nat.lt_irrefl]
  by_cases h7 : s = ⟨#[60, 62]⟩
  · subst h7
    have hc := rtruth_ok true
    rw [show doK ⟨#[60, 62]⟩ = 7 by decide]
    refine apure_of Tryd.func34 Tryd.ntmps34 rfl ?_
    simp only [List.length_cons, List.length_nil, List.cons_append, List.nil_append, List.replicate]
    repeat' (first
      | refine aw_seq ?_
      | (refine aw_run [6] ?_; simp -implicitDefEqProofs [Nat.lt_irrefl])
      | (refine aw_ymix [6] draws (by decide +kernel) ?_; simp -implicitDefEqProofs [Nat.lt_irrefl])
      | (refine aw_yrun draws (by kernel_rfl) ?_; simp -implicitDefEqProofs [Nat.lt_irrefl])
      | (refine awl_skip' [6] rfl ?_; simp -implicitDefEqProofs [Nat.lt_irrefl])
      | (refine awl_pure_guard [6] rfl rfl rfl (by first | assumption | kernel_rfl) rfl (fun hc => by first | exact hc | exact rtold_ok _ | exact rtruth_ok _) (by simp) (by simp) (by simp) ?_; simp -implicitDefEqProofs [Nat.lt_irrefl])
      | (refine yl_pureG rfl rfl rfl (by first | assumption | kernel_rfl) rfl (fun hc => by first | exact hc | exact rtold_ok _ | exact rtruth_ok _) (by simp) (by simp) (by simp) ?_; simp -implicitDefEqProofs [Nat.lt_irrefl])
      | (refine awl_pure' [6] rfl rfl rfl (by first | assumption | kernel_rfl) rfl (by first | exact hc | exact rtold_ok _ | exact rtruth_ok _) (by simp) (by simp) ?_; simp -implicitDefEqProofs [Nat.lt_irrefl])
      | (refine yl_pure rfl rfl rfl (by first | assumption | kernel_rfl) rfl (by first | exact hc | exact rtold_ok _ | exact rtruth_ok _) (by simp) (by simp) ?_; simp -implicitDefEqProofs [Nat.lt_irrefl])
      | (refine aw_cond rfl (fun h => ?_) (fun h => ?_) <;> try (with_reducible first | exact ff_tt h | exact tt_ff h))
      | (refine aw_skip ?_; simp -implicitDefEqProofs [Nat.lt_irrefl])
      | refine aw_block ?_
      | (refine aw_exit ?_; simp -implicitDefEqProofs [Nat.lt_irrefl])
      | refine aw_ret (ret_of (.inr rfl) (by simp [Tryd.results34]; rfl) (Fin.of ?_)))
    all_goals simp [tupOf, numN, numF, numK, fltK, doB, Nat.lt_irrefl]
  by_cases h8 : s = ⟨#[62, 61]⟩
  · subst h8
    have hc := rtruth_ok true
    rw [show doK ⟨#[62, 61]⟩ = 8 by decide]
    refine apure_of Tryd.func34 Tryd.ntmps34 rfl ?_
    simp only [List.length_cons, List.length_nil, List.cons_append, List.nil_append, List.replicate]
    repeat' (first
      | refine aw_seq ?_
      | (refine aw_run [6] ?_; simp -implicitDefEqProofs [Nat.lt_irrefl])
      | (refine aw_ymix [6] draws (by decide +kernel) ?_; simp -implicitDefEqProofs [Nat.lt_irrefl])
      | (refine aw_yrun draws (by kernel_rfl) ?_; simp -implicitDefEqProofs [Nat.lt_irrefl])
      | (refine awl_skip' [6] rfl ?_; simp -implicitDefEqProofs [Nat.lt_irrefl])
      | (refine awl_pure_guard [6] rfl rfl rfl (by first | assumption | kernel_rfl) rfl (fun hc => by first | exact hc | exact rtold_ok _ | exact rtruth_ok _) (by simp) (by simp) (by simp) ?_; simp -implicitDefEqProofs [Nat.lt_irrefl])
      | (refine yl_pureG rfl rfl rfl (by first | assumption | kernel_rfl) rfl (fun hc => by first | exact hc | exact rtold_ok _ | exact rtruth_ok _) (by simp) (by simp) (by simp) ?_; simp -implicitDefEqProofs [Nat.lt_irrefl])
      | (refine awl_pure' [6] rfl rfl rfl (by first | assumption | kernel_rfl) rfl (by first | exact hc | exact rtold_ok _ | exact rtruth_ok _) (by simp) (by simp) ?_; simp -implicitDefEqProofs [Nat.lt_irrefl])
      | (refine yl_pure rfl rfl rfl (by first | assumption | kernel_rfl) rfl (by first | exact hc | exact rtold_ok _ | exact rtruth_ok _) (by simp) (by simp) ?_; simp -implicitDefEqProofs [Nat.lt_irrefl])
      | (refine aw_cond rfl (fun h => ?_) (fun h => ?_) <;> try (with_reducible first | exact ff_tt h | exact tt_ff h))
      | (refine aw_skip ?_; simp -implicitDefEqProofs [Nat.lt_irrefl])
      | refine aw_block ?_
      | (refine aw_exit ?_; simp -implicitDefEqProofs [Nat.lt_irrefl])
      | refine aw_ret (ret_of (.inr rfl) (by simp [Tryd.results34]; rfl) (Fin.of ?_)))
    all_goals simp [tupOf, numN, numF, numK, fltK, doB, Nat.lt_irrefl]
  by_cases h9 : s = ⟨#[62]⟩
  · subst h9
    have hc := rtruth_ok true
    rw [show doK ⟨#[62]⟩ = 9 by decide]
    refine apure_of Tryd.func34 Tryd.ntmps34 rfl ?_
    simp only [List.length_cons, List.length_nil, List.cons_append, List.nil_append, List.replicate]
    repeat' (first
      | refine aw_seq ?_
      | (refine aw_run [6] ?_; simp -implicitDefEqProofs [Nat.lt_irrefl])
      | (refine aw_ymix [6] draws (by decide +kernel) ?_; simp -implicitDefEqProofs [Nat.lt_irrefl])
      | (refine aw_yrun draws (by kernel_rfl) ?_; simp -implicitDefEqProofs [Nat.lt_irrefl])
      | (refine awl_skip' [6] rfl ?_; simp -implicitDefEqProofs [Nat.lt_irrefl])
      | (refine awl_pure_guard [6] rfl rfl rfl (by first | assumption | kernel_rfl) rfl (fun hc => by first | exact hc | exact rtold_ok _ | exact rtruth_ok _) (by simp) (by simp) (by simp) ?_; simp -implicitDefEqProofs [Nat.lt_irrefl])
      | (refine yl_pureG rfl rfl rfl (by first | assumption | kernel_rfl) rfl (fun hc => by first | exact hc | exact rtold_ok _ | exact rtruth_ok _) (by simp) (by simp) (by simp) ?_; simp -implicitDefEqProofs [Nat.lt_irrefl])
      | (refine awl_pure' [6] rfl rfl rfl (by first | assumption | kernel_rfl) rfl (by first | exact hc | exact rtold_ok _ | exact rtruth_ok _) (by simp) (by simp) ?_; simp -implicitDefEqProofs [Nat.lt_irrefl])
      | (refine yl_pure rfl rfl rfl (by first | assumption | kernel_rfl) rfl (by first | exact hc | exact rtold_ok _ | exact rtruth_ok _) (by simp) (by simp) ?_; simp -implicitDefEqProofs [Nat.lt_irrefl])
      | (refine aw_cond rfl (fun h => ?_) (fun h => ?_) <;> try (with_reducible first | exact ff_tt h | exact tt_ff h))
      | (refine aw_skip ?_; simp -implicitDefEqProofs [Nat.lt_irrefl])
      | refine aw_block ?_
      | (refine aw_exit ?_; simp -implicitDefEqProofs [Nat.lt_irrefl])
      | refine aw_ret (ret_of (.inr rfl) (by simp [Tryd.results34]; rfl) (Fin.of ?_)))
    all_goals simp [tupOf, numN, numF, numK, fltK, doB, Nat.lt_irrefl]
  have hk : doK s = 10 := by simp [doK, h0, h1, h2, h3, h4, h5, h6, h7, h8, h9]
  rw [hk]
  refine apure_of Tryd.func34 Tryd.ntmps34 rfl ?_
  simp only [List.length_cons, List.length_nil, List.cons_append, List.nil_append, List.replicate]
  repeat' (first
    | refine aw_seq ?_
    | (refine aw_run [6] ?_; simp -implicitDefEqProofs [h0, h1, h2, h3, h4, h5, h6, h7, h8, h9])
    | (refine aw_ymix [6] draws (by decide +kernel) ?_; simp -implicitDefEqProofs [h0, h1, h2, h3, h4, h5, h6, h7, h8, h9])
    | (refine aw_yrun draws (by kernel_rfl) ?_; simp -implicitDefEqProofs [h0, h1, h2, h3, h4, h5, h6, h7, h8, h9])
    | (refine awl_skip' [6] rfl ?_; simp -implicitDefEqProofs [h0, h1, h2, h3, h4, h5, h6, h7, h8, h9])
    | (refine aw_cond rfl (fun h => ?_) (fun h => ?_) <;> try (with_reducible first | exact ff_tt h | exact tt_ff h))
    | (refine aw_skip ?_; simp -implicitDefEqProofs [h0, h1, h2, h3, h4, h5, h6, h7, h8, h9])
    | refine aw_block ?_
    | (refine aw_exit ?_; simp -implicitDefEqProofs [h0, h1, h2, h3, h4, h5, h6, h7, h8, h9])
    | refine aw_ret (ret_of (.inr rfl) (by simp [Tryd.results34]; rfl) (Fin.of ?_)))
  all_goals simp [tupOf, numN, numF, doB]
set_option maxRecDepth 100000 in
theorem rdo_ok (s : ByteArray) (a fa b fb : Int) (ha : In64 a) (hb : In64 b) : APure Tryd.prog 12 [vs s, value a fa, value b fb] (.tup [value (doN (doK s) a fa b fb) (doF (doK s) a fa b fb), vb (doB (doK s))]) := by
  have hn := numbers_ok s a b ha hb
  cases hB : doB (doK s) with
  | false =>
    rw [hB] at hn
    have hk : doK s = 10 := by simpa [doB] using hB
    rw [hk] at hn ⊢
    refine apure_of Tryd.func12 Tryd.ntmps12 rfl ?_
    simp only [List.length_cons, List.length_nil, List.cons_append, List.nil_append, List.replicate]
    repeat' (first
      | refine aw_seq ?_
      | (refine aw_run [6, 8] ?_; simp -implicitDefEqProofs)
      | (refine aw_ymix [6, 8] draws (by decide +kernel) ?_; simp -implicitDefEqProofs)
      | (refine aw_yrun draws (by kernel_rfl) ?_; simp -implicitDefEqProofs)
      | (refine awl_skip' [6, 8] rfl ?_; simp -implicitDefEqProofs)
      | (refine awl_pure_guard [6, 8] rfl rfl rfl (by first | assumption | kernel_rfl) rfl (fun hc => by first | exact hn) (by simp) (by simp) (by simp) ?_; simp -implicitDefEqProofs)
      | (refine yl_pureG rfl rfl rfl (by first | assumption | kernel_rfl) rfl (fun hc => by first | exact hn) (by simp) (by simp) (by simp) ?_; simp -implicitDefEqProofs)
      | (refine awl_pure' [6, 8] rfl rfl rfl (by first | assumption | kernel_rfl) rfl (by first | exact hn) (by simp) (by simp) ?_; simp -implicitDefEqProofs)
      | (refine yl_pure rfl rfl rfl (by first | assumption | kernel_rfl) rfl (by first | exact hn) (by simp) (by simp) ?_; simp -implicitDefEqProofs)
      | (refine aw_cond rfl (fun h => ?_) (fun h => ?_) <;> try (with_reducible first | exact ff_tt h | exact tt_ff h))
      | (refine aw_skip ?_; simp -implicitDefEqProofs)
      | refine aw_block ?_
      | (refine aw_exit ?_; simp -implicitDefEqProofs)
      | refine aw_ret (ret_of (.inr rfl) (by simp [Tryd.results12]; rfl) (Fin.of ?_)))
    all_goals simp [tupOf, doN, doF, doB]
  | true =>
    rw [hB] at hn
    have hk : ¬ doK s = 10 := by simpa [doB] using hB
    refine apure_of Tryd.func12 Tryd.ntmps12 rfl ?_
    simp only [List.length_cons, List.length_nil, List.cons_append, List.nil_append, List.replicate]
    repeat' (first
      | refine aw_seq ?_
      | (refine aw_run [6, 8] ?_; simp -implicitDefEqProofs)
      | (refine aw_ymix [6, 8] draws (by decide +kernel) ?_; simp -implicitDefEqProofs)
      | (refine aw_yrun draws (by kernel_rfl) ?_; simp -implicitDefEqProofs)
      | (refine awl_skip' [6, 8] rfl ?_; simp -implicitDefEqProofs)
      | (refine awl_pure_guard [6, 8] rfl rfl rfl (by first | assumption | kernel_rfl) rfl (fun hc => by first | exact hn) (by simp) (by simp) (by simp) ?_; simp -implicitDefEqProofs)
      | (refine yl_pureG rfl rfl rfl (by first | assumption | kernel_rfl) rfl (fun hc => by first | exact hn) (by simp) (by simp) (by simp) ?_; simp -implicitDefEqProofs)
      | (refine awl_pure' [6, 8] rfl rfl rfl (by first | assumption | kernel_rfl) rfl (by first | exact hn) (by simp) (by simp) ?_; simp -implicitDefEqProofs)
      | (refine yl_pure rfl rfl rfl (by first | assumption | kernel_rfl) rfl (by first | exact hn) (by simp) (by simp) ?_; simp -implicitDefEqProofs)
      | (refine aw_cond rfl (fun h => ?_) (fun h => ?_) <;> try (with_reducible first | exact ff_tt h | exact tt_ff h))
      | (refine aw_skip ?_; simp -implicitDefEqProofs)
      | refine aw_block ?_
      | (refine aw_exit ?_; simp -implicitDefEqProofs)
      | refine aw_ret (ret_of (.inr rfl) (by simp [Tryd.results12]; rfl) (Fin.of ?_)))
    · simp at h
      simp [tupOf, doN, doF, hk, h]
    · rename_i h1
      simp at h h1
      simp [tupOf, doN, doF, hk, h, h1]
    · rename_i h1
      simp at h h1
      simp [tupOf, doN, doF, hk, h, h1, numN, numF]
theorem doK_minus : doK ⟨#[45]⟩ = 1 := by decide
theorem doK_plus : doK ⟨#[43]⟩ = 0 := by decide
def negN (a fa : Int) : Int := if fa = 0 then z (inI (-a)) (-a) else 0
def negF (a fa : Int) : Int := if fa = 0 then z (!inI (-a)) 1 else fa
set_option maxRecDepth 100000 in
theorem rvneg_ok (a fa : Int) (ha : In64 a) : APure Tryd.prog 18 [value a fa] (value (negN a fa) (negF a fa)) := by
  have hd := rdo_ok ⟨#[45]⟩ 0 0 a fa (by unfold In64; omega) ha
  rw [doK_minus] at hd
  refine apure_of Tryd.func18 Tryd.ntmps18 rfl ?_
  simp only [List.length_cons, List.length_nil, List.cons_append, List.nil_append, List.replicate]
  repeat' (first
    | refine aw_seq ?_
    | (refine aw_run [2, 3] ?_; simp -implicitDefEqProofs)
    | (refine aw_ymix [2, 3] draws (by decide +kernel) ?_; simp -implicitDefEqProofs)
    | (refine aw_yrun draws (by kernel_rfl) ?_; simp -implicitDefEqProofs)
    | (refine awl_skip' [2, 3] rfl ?_; simp -implicitDefEqProofs)
    | (refine awl_pure_guard [2, 3] rfl rfl rfl (by first | assumption | kernel_rfl) rfl (fun hc => by first | exact hd) (by simp) (by simp) (by simp) ?_; simp -implicitDefEqProofs)
    | (refine yl_pureG rfl rfl rfl (by first | assumption | kernel_rfl) rfl (fun hc => by first | exact hd) (by simp) (by simp) (by simp) ?_; simp -implicitDefEqProofs)
    | (refine awl_pure' [2, 3] rfl rfl rfl (by first | assumption | kernel_rfl) rfl (by first | exact hd) (by simp) (by simp) ?_; simp -implicitDefEqProofs)
    | (refine yl_pure rfl rfl rfl (by first | assumption | kernel_rfl) rfl (by first | exact hd) (by simp) (by simp) ?_; simp -implicitDefEqProofs)
    | (refine aw_cond rfl (fun h => ?_) (fun h => ?_) <;> try (with_reducible first | exact ff_tt h | exact tt_ff h))
    | (refine aw_skip ?_; simp -implicitDefEqProofs)
    | refine aw_block ?_
    | (refine aw_exit ?_; simp -implicitDefEqProofs)
    | refine aw_ret (ret_of (.inr rfl) (by simp [Tryd.results18]; rfl) (Fin.of ?_)))
  simp [tupOf, doN, doF, negN, negF, numK, fltK]
set_option maxRecDepth 100000 in
theorem vneg_ok (a fa : Int) (ha : In64 a) : APure Tryd.prog 17 [value a fa] (value (negN a fa) (negF a fa)) := by
  refine apure_of Tryd.func17 Tryd.ntmps17 rfl ?_
  simp only [List.length_cons, List.length_nil, List.cons_append, List.nil_append, List.replicate]
  repeat' (first
    | refine aw_seq ?_
    | (refine aw_run [2] ?_; simp -implicitDefEqProofs)
    | (refine aw_ymix [2] draws (by decide +kernel) ?_; simp -implicitDefEqProofs)
    | (refine aw_yrun draws (by kernel_rfl) ?_; simp -implicitDefEqProofs)
    | (refine awl_skip' [2] rfl ?_; simp -implicitDefEqProofs)
    | (refine awl_pure_guard [2] rfl rfl rfl (by first | assumption | kernel_rfl) rfl (fun hc => by first | exact faulty_ok _ | exact neg_ok ha | exact fine_ok _ _ _) (by simp) (by simp) (by simp) ?_; simp -implicitDefEqProofs)
    | (refine yl_pureG rfl rfl rfl (by first | assumption | kernel_rfl) rfl (fun hc => by first | exact faulty_ok _ | exact neg_ok ha | exact fine_ok _ _ _) (by simp) (by simp) (by simp) ?_; simp -implicitDefEqProofs)
    | (refine awl_pure' [2] rfl rfl rfl (by first | assumption | kernel_rfl) rfl (by first | exact faulty_ok _ | exact neg_ok ha | exact fine_ok _ _ _) (by simp) (by simp) ?_; simp -implicitDefEqProofs)
    | (refine yl_pure rfl rfl rfl (by first | assumption | kernel_rfl) rfl (by first | exact faulty_ok _ | exact neg_ok ha | exact fine_ok _ _ _) (by simp) (by simp) ?_; simp -implicitDefEqProofs)
    | (refine aw_cond rfl (fun h => ?_) (fun h => ?_) <;> try (with_reducible first | exact ff_tt h | exact tt_ff h))
    | (refine aw_skip ?_; simp -implicitDefEqProofs)
    | refine aw_block ?_
    | (refine aw_exit ?_; simp -implicitDefEqProofs)
    | refine aw_ret (ret_of (.inr rfl) (by simp [Tryd.results17]; rfl) (Fin.of ?_)))
  · simp at h
    simp [tupOf, negN, negF, h]
  · simp at h
    cases hi : inI (-a) <;> simp [tupOf, negN, negF, h, hi]
end Go.AL
