import Derived.Test.YtcicdckjlkekdaaDoorK01b
/-! Contracts: gridironref01's numbers. -/
namespace Go.AL
open Go.Proofs
set_option linter.unusedSimpArgs false
set_option linter.unusedVariables false
theorem no_chk {c : Int} (h : ¬ In64 c) : AV.tup [vi 0, vb false] = chk c := z_chk (d := false) (fun hh => absurd hh h) (fun _ => rfl) (w := 0) (fun hh => absurd hh h)
theorem yes_chk {c w : Int} (h : In64 c) (e : w = c) : AV.tup [vi w, vb true] = chk c := z_chk (d := true) (fun _ => rfl) (fun hh => absurd h hh) (fun _ => e)
theorem wrap_u {x : Int} (h0 : 0 ≤ x) (h1 : x ≤ 18446744073709551615) : IntKind.u64.wrap x = x := uwrap_id h0 (by omega)
/-- With its sign. -/
def sgn (m : Bool) (u : Int) : Int := if m = true then -u else u
theorem chk_of {X Y : Int} (h : X = Y) : tupOf [vi (z (inI X) X), vb (inI X)] = chk Y := by subst h; rfl
theorem uw_lo (x : Int) : 0 ≤ IntKind.u64.wrap x := by rw [uwrap_eq]; omega
theorem uw_hi (x : Int) : IntKind.u64.wrap x ≤ 18446744073709551615 := by rw [uwrap_eq]; omega
set_option maxRecDepth 100000 in
theorem signed_ok (u : Int) (m : Bool) (h0 : 0 ≤ u) (h1 : u ≤ 18446744073709551615) : APure Tryd.prog 47 [vu u, vb m] (chk (sgn m u)) := by
  cases m with
  | true =>
    refine apure_of Tryd.func47 Tryd.ntmps47 rfl ?_
    simp only [List.length_cons, List.length_nil, List.cons_append, List.nil_append, List.replicate]
    repeat' (first
      | refine aw_seq ?_
      | (refine aw_run [] ?_; simp -implicitDefEqProofs)
      | (refine aw_ymix [] draws (by decide +kernel) ?_; simp -implicitDefEqProofs)
      | (refine aw_yrun draws (by kernel_rfl) ?_; simp -implicitDefEqProofs)
      | (refine awl_skip' [] rfl ?_; simp -implicitDefEqProofs)
      | (refine aw_cond rfl (fun h => ?_) (fun h => ?_) <;> try (with_reducible first | exact ff_tt h | exact tt_ff h))
      | (refine aw_skip ?_; simp -implicitDefEqProofs)
      | refine aw_block ?_
      | (refine aw_exit ?_; simp -implicitDefEqProofs)
      | refine aw_ret (ret_of (.inr rfl) (by simp [Tryd.results47]; rfl) (Fin.of ?_)))
    · simp at h
      subst h
      exact yes_chk (by unfold In64 sgn; decide) (by unfold sgn; decide)
    · rename_i g1
      simp at h g1
      exact no_chk (by unfold In64 sgn; simp; omega)
    · rename_i g1 g2
      simp at g1 g2
      rw [wrap_in (c := u) (by unfold In64; omega), wrap_in (c := -u) (by unfold In64; omega)]
      exact yes_chk (by unfold In64 sgn; simp; omega) (by unfold sgn; simp)
  | false =>
    refine apure_of Tryd.func47 Tryd.ntmps47 rfl ?_
    simp only [List.length_cons, List.length_nil, List.cons_append, List.nil_append, List.replicate]
    repeat' (first
      | refine aw_seq ?_
      | (refine aw_run [] ?_; simp -implicitDefEqProofs)
      | (refine aw_ymix [] draws (by decide +kernel) ?_; simp -implicitDefEqProofs)
      | (refine aw_yrun draws (by kernel_rfl) ?_; simp -implicitDefEqProofs)
      | (refine awl_skip' [] rfl ?_; simp -implicitDefEqProofs)
      | (refine aw_cond rfl (fun h => ?_) (fun h => ?_) <;> try (with_reducible first | exact ff_tt h | exact tt_ff h))
      | (refine aw_skip ?_; simp -implicitDefEqProofs)
      | refine aw_block ?_
      | (refine aw_exit ?_; simp -implicitDefEqProofs)
      | refine aw_ret (ret_of (.inr rfl) (by simp [Tryd.results47]; rfl) (Fin.of ?_)))
    · simp at h
      exact no_chk (by unfold In64 sgn; simp; omega)
    · rename_i g1 g2
      simp at g2
      rw [wrap_in (c := u) (by unfold In64; omega)]
      exact yes_chk (by unfold In64 sgn; simp; omega) (by unfold sgn; simp)
set_option maxRecDepth 100000 in
theorem both_ok (x y : Int) (m : Bool) (hx0 : 0 ≤ x) (hx : x ≤ 9223372036854775808) (hy0 : 0 ≤ y) (hy : y ≤ 9223372036854775808) : APure Tryd.prog 92 [vu x, vu y, vb m] (chk (sgn m (x + y))) := by
  have w1 : IntKind.u64.wrap (9223372036854775808 - y) = 9223372036854775808 - y := wrap_u (by omega) (by omega)
  refine apure_of Tryd.func92 Tryd.ntmps92 rfl ?_
  simp only [List.length_cons, List.length_nil, List.cons_append, List.nil_append, List.replicate]
  repeat' (first
    | refine aw_seq ?_
    | (refine aw_run [] ?_; simp -implicitDefEqProofs [w1])
    | (refine aw_ymix [] draws (by decide +kernel) ?_; simp -implicitDefEqProofs [w1])
    | (refine aw_yrun draws (by kernel_rfl) ?_; simp -implicitDefEqProofs [w1])
    | (refine awl_skip' [] rfl ?_; simp -implicitDefEqProofs [w1])
    | (refine awl_pure_guard [] rfl rfl rfl (by first | assumption | kernel_rfl) rfl (fun hc => by first | exact signed_ok _ _ (uw_lo _) (uw_hi _)) (by simp) (by simp) (by simp) ?_; simp -implicitDefEqProofs [w1])
    | (refine yl_pureG rfl rfl rfl (by first | assumption | kernel_rfl) rfl (fun hc => by first | exact signed_ok _ _ (uw_lo _) (uw_hi _)) (by simp) (by simp) (by simp) ?_; simp -implicitDefEqProofs [w1])
    | (refine awl_pure' [] rfl rfl rfl (by first | assumption | kernel_rfl) rfl (by first | exact signed_ok _ _ (uw_lo _) (uw_hi _)) (by simp) (by simp) ?_; simp -implicitDefEqProofs [w1])
    | (refine yl_pure rfl rfl rfl (by first | assumption | kernel_rfl) rfl (by first | exact signed_ok _ _ (uw_lo _) (uw_hi _)) (by simp) (by simp) ?_; simp -implicitDefEqProofs [w1])
    | (refine aw_cond rfl (fun h => ?_) (fun h => ?_) <;> try (with_reducible first | exact ff_tt h | exact tt_ff h))
    | (refine aw_skip ?_; simp -implicitDefEqProofs [w1])
    | refine aw_block ?_
    | (refine aw_exit ?_; simp -implicitDefEqProofs [w1])
    | refine aw_ret (ret_of (.inr rfl) (by simp [Tryd.results92]; rfl) (Fin.of ?_)))
  · simp at h
    exact no_chk (by unfold In64 sgn; split <;> omega)
  · simp at h
    refine chk_of ?_
    rw [wrap_u (by omega) (by omega)]
theorem dec_eq (p q : Prop) [Decidable p] [Decidable q] : ((decide p == decide q) = true) ↔ (p ↔ q) := by rw [beq_iff_eq, decide_eq_decide]
theorem dec_ne' (p q : Prop) [Decidable p] [Decidable q] : ((decide p == decide q) = false) ↔ ¬ (p ↔ q) := by rw [beq_eq_false_iff_ne, ne_eq, decide_eq_decide]
theorem dec_neT (p q : Prop) [Decidable p] [Decidable q] : ((decide p != decide q) = true) ↔ ¬ (p ↔ q) := by rw [bne_iff_ne, ne_eq, decide_eq_decide]
theorem dec_neF (p q : Prop) [Decidable p] [Decidable q] : ((decide p != decide q) = false) ↔ (p ↔ q) := by rw [bne_eq_false_iff_eq, decide_eq_decide]
set_option maxRecDepth 100000 in
theorem radd_ok {a b : Int} (ha : In64 a) (hb : In64 b) : APure Tryd.prog 61 [vi a, vi b] (chk (a + b)) := by
  have ha' := ha
  have hb' := hb
  unfold In64 at ha' hb'
  have h1 := both_ok a.natAbs b.natAbs (decide (a < 0)) (by omega) (by omega) (by omega) (by omega)
  refine apure_of Tryd.func61 Tryd.ntmps61 rfl ?_
  simp only [List.length_cons, List.length_nil, List.cons_append, List.nil_append, List.replicate]
  repeat' (first
    | refine aw_seq ?_
    | (refine aw_run [] ?_; simp -implicitDefEqProofs)
    | (refine aw_ymix [] draws (by decide +kernel) ?_; simp -implicitDefEqProofs)
    | (refine aw_yrun draws (by kernel_rfl) ?_; simp -implicitDefEqProofs)
    | (refine awl_skip' [] rfl ?_; simp -implicitDefEqProofs)
    | (refine awl_pure_guard [] rfl rfl rfl (by first | assumption | kernel_rfl) rfl (fun hc => by first | exact size_ok a ha.1 ha.2 | exact size_ok b hb.1 hb.2 | exact h1 | exact signed_ok _ _ (uw_lo _) (uw_hi _)) (by simp) (by simp) (by simp) ?_; simp -implicitDefEqProofs)
    | (refine yl_pureG rfl rfl rfl (by first | assumption | kernel_rfl) rfl (fun hc => by first | exact size_ok a ha.1 ha.2 | exact size_ok b hb.1 hb.2 | exact h1 | exact signed_ok _ _ (uw_lo _) (uw_hi _)) (by simp) (by simp) (by simp) ?_; simp -implicitDefEqProofs)
    | (refine awl_pure' [] rfl rfl rfl (by first | assumption | kernel_rfl) rfl (by first | exact size_ok a ha.1 ha.2 | exact size_ok b hb.1 hb.2 | exact h1 | exact signed_ok _ _ (uw_lo _) (uw_hi _)) (by simp) (by simp) ?_; simp -implicitDefEqProofs)
    | (refine yl_pure rfl rfl rfl (by first | assumption | kernel_rfl) rfl (by first | exact size_ok a ha.1 ha.2 | exact size_ok b hb.1 hb.2 | exact h1 | exact signed_ok _ _ (uw_lo _) (uw_hi _)) (by simp) (by simp) ?_; simp -implicitDefEqProofs)
    | (refine aw_cond rfl (fun h => ?_) (fun h => ?_) <;> try (with_reducible first | exact ff_tt h | exact tt_ff h))
    | (refine aw_skip ?_; simp -implicitDefEqProofs)
    | refine aw_block ?_
    | (refine aw_exit ?_; simp -implicitDefEqProofs)
    | refine aw_ret (ret_of (.inr rfl) (by simp [Tryd.results61]; rfl) (Fin.of ?_)))
  · rw [dec_eq] at h
    refine chk_of ?_
    unfold sgn; split <;> rename_i h3 <;> simp at h3 <;> omega
  · rename_i h4
    rw [dec_ne'] at h4
    simp at h
    refine chk_of ?_
    rw [wrap_u (by omega) (by omega)]
    unfold sgn; split <;> rename_i h3 <;> simp at h3 <;> omega
  · rename_i h4
    rw [dec_ne'] at h4
    simp at h
    refine chk_of ?_
    rw [wrap_u (by omega) (by omega)]
    unfold sgn; split <;> rename_i h3 <;> simp at h3 <;> omega
set_option maxRecDepth 100000 in
theorem rsub_ok {a b : Int} (ha : In64 a) (hb : In64 b) : APure Tryd.prog 62 [vi a, vi b] (chk (a - b)) := by
  have ha' := ha
  have hb' := hb
  unfold In64 at ha' hb'
  have h1 := both_ok a.natAbs b.natAbs (decide (a < 0)) (by omega) (by omega) (by omega) (by omega)
  refine apure_of Tryd.func62 Tryd.ntmps62 rfl ?_
  simp only [List.length_cons, List.length_nil, List.cons_append, List.nil_append, List.replicate]
  repeat' (first
    | refine aw_seq ?_
    | (refine aw_run [] ?_; simp -implicitDefEqProofs)
    | (refine aw_ymix [] draws (by decide +kernel) ?_; simp -implicitDefEqProofs)
    | (refine aw_yrun draws (by kernel_rfl) ?_; simp -implicitDefEqProofs)
    | (refine awl_skip' [] rfl ?_; simp -implicitDefEqProofs)
    | (refine awl_pure_guard [] rfl rfl rfl (by first | assumption | kernel_rfl) rfl (fun hc => by first | exact size_ok a ha.1 ha.2 | exact size_ok b hb.1 hb.2 | exact h1 | exact signed_ok _ _ (uw_lo _) (uw_hi _)) (by simp) (by simp) (by simp) ?_; simp -implicitDefEqProofs)
    | (refine yl_pureG rfl rfl rfl (by first | assumption | kernel_rfl) rfl (fun hc => by first | exact size_ok a ha.1 ha.2 | exact size_ok b hb.1 hb.2 | exact h1 | exact signed_ok _ _ (uw_lo _) (uw_hi _)) (by simp) (by simp) (by simp) ?_; simp -implicitDefEqProofs)
    | (refine awl_pure' [] rfl rfl rfl (by first | assumption | kernel_rfl) rfl (by first | exact size_ok a ha.1 ha.2 | exact size_ok b hb.1 hb.2 | exact h1 | exact signed_ok _ _ (uw_lo _) (uw_hi _)) (by simp) (by simp) ?_; simp -implicitDefEqProofs)
    | (refine yl_pure rfl rfl rfl (by first | assumption | kernel_rfl) rfl (by first | exact size_ok a ha.1 ha.2 | exact size_ok b hb.1 hb.2 | exact h1 | exact signed_ok _ _ (uw_lo _) (uw_hi _)) (by simp) (by simp) ?_; simp -implicitDefEqProofs)
    | (refine aw_cond rfl (fun h => ?_) (fun h => ?_) <;> try (with_reducible first | exact ff_tt h | exact tt_ff h))
    | (refine aw_skip ?_; simp -implicitDefEqProofs)
    | refine aw_block ?_
    | (refine aw_exit ?_; simp -implicitDefEqProofs)
    | refine aw_ret (ret_of (.inr rfl) (by simp [Tryd.results62]; rfl) (Fin.of ?_)))
  · rw [dec_neT] at h
    refine chk_of ?_
    unfold sgn; split <;> rename_i h3 <;> simp at h3 <;> omega
  · rename_i h4
    rw [dec_neF] at h4
    simp at h
    refine chk_of ?_
    rw [wrap_u (by omega) (by omega)]
    unfold sgn; split <;> rename_i h3 <;> simp at h3 <;> omega
  · rename_i h4
    rw [dec_neF] at h4
    simp at h
    refine chk_of ?_
    rw [wrap_u (by omega) (by omega)]
    unfold sgn; split <;> rename_i h3 <;> simp at h3 <;> omega
theorem sign_mul (a b : Int) : sgn (decide (a < 0) != decide (b < 0)) ((a.natAbs : Int) * b.natAbs) = a * b := by
  unfold sgn
  rcases Int.natAbs_eq a with ea | ea <;> rcases Int.natAbs_eq b with eb | eb <;> generalize a.natAbs = x at * <;> generalize b.natAbs = y at * <;> subst ea <;> subst eb <;> by_cases hx : x = 0 <;> by_cases hy : y = 0 <;> simp [hx, hy, Int.neg_mul, Int.mul_neg] <;> omega
theorem sign_div (a b : Int) : sgn (decide (a < 0) != decide (b < 0)) ((a.natAbs : Int) / b.natAbs) = a.tdiv b := by
  have e : (a.natAbs : Int) / (b.natAbs : Int) = Int.tdiv (a.natAbs : Int) (b.natAbs : Int) := (Int.tdiv_eq_ediv_of_nonneg (by omega)).symm
  rw [e]
  unfold sgn
  rcases Int.natAbs_eq a with ea | ea <;> rcases Int.natAbs_eq b with eb | eb <;> generalize a.natAbs = x at * <;> generalize b.natAbs = y at * <;> subst ea <;> subst eb <;> by_cases hx : x = 0 <;> by_cases hy : y = 0 <;> simp [hx, hy, Int.neg_tdiv, Int.tdiv_neg] <;> omega
set_option maxRecDepth 100000 in
theorem rmul_ok {a b : Int} (ha : In64 a) (hb : In64 b) : APure Tryd.prog 63 [vi a, vi b] (chk (a * b)) := by
  by_cases a0 : a = 0
  · subst a0
    refine apure_of Tryd.func63 Tryd.ntmps63 rfl ?_
    simp only [List.length_cons, List.length_nil, List.cons_append, List.nil_append, List.replicate]
    repeat' (first
      | refine aw_seq ?_
      | (refine aw_run [] ?_; simp -implicitDefEqProofs)
      | (refine aw_ymix [] draws (by decide +kernel) ?_; simp -implicitDefEqProofs)
      | (refine aw_yrun draws (by kernel_rfl) ?_; simp -implicitDefEqProofs)
      | (refine awl_skip' [] rfl ?_; simp -implicitDefEqProofs)
      | (refine awl_pure_guard [] rfl rfl rfl (by first | assumption | kernel_rfl) rfl (fun hc => by first | exact size_ok 0 ha.1 ha.2 | exact size_ok b hb.1 hb.2 | exact signed_ok _ _ (uw_lo _) (uw_hi _)) (by simp) (by simp) (by simp) ?_; simp -implicitDefEqProofs)
      | (refine yl_pureG rfl rfl rfl (by first | assumption | kernel_rfl) rfl (fun hc => by first | exact size_ok 0 ha.1 ha.2 | exact size_ok b hb.1 hb.2 | exact signed_ok _ _ (uw_lo _) (uw_hi _)) (by simp) (by simp) (by simp) ?_; simp -implicitDefEqProofs)
      | (refine awl_pure' [] rfl rfl rfl (by first | assumption | kernel_rfl) rfl (by first | exact size_ok 0 ha.1 ha.2 | exact size_ok b hb.1 hb.2 | exact signed_ok _ _ (uw_lo _) (uw_hi _)) (by simp) (by simp) ?_; simp -implicitDefEqProofs)
      | (refine yl_pure rfl rfl rfl (by first | assumption | kernel_rfl) rfl (by first | exact size_ok 0 ha.1 ha.2 | exact size_ok b hb.1 hb.2 | exact signed_ok _ _ (uw_lo _) (uw_hi _)) (by simp) (by simp) ?_; simp -implicitDefEqProofs)
      | (refine aw_cond rfl (fun h => ?_) (fun h => ?_) <;> try (with_reducible first | exact ff_tt h | exact tt_ff h))
      | (refine aw_skip ?_; simp -implicitDefEqProofs)
      | refine aw_block ?_
      | (refine aw_exit ?_; simp -implicitDefEqProofs)
      | refine aw_ret (ret_of (.inr rfl) (by simp [Tryd.results63]; rfl) (Fin.of ?_)))
    refine chk_of ?_
    rw [show IntKind.u64.wrap 0 = 0 by rw [uwrap_eq]; rfl]
    unfold sgn; split <;> rfl
  · have hx : ¬ (a.natAbs : Int) = 0 := by omega
    have hq : IntKind.u64.wrap (Int.tdiv 9223372036854775808 (a.natAbs : Int)) = 9223372036854775808 / (a.natAbs : Int) := by
      have e : Int.tdiv 9223372036854775808 (a.natAbs : Int) = 9223372036854775808 / (a.natAbs : Int) := Int.tdiv_eq_ediv_of_nonneg (by omega)
      have q0 : 0 ≤ (9223372036854775808 : Int) / (a.natAbs : Int) := Int.ediv_nonneg (by omega) (by omega)
      have q1 : (9223372036854775808 : Int) / (a.natAbs : Int) ≤ 9223372036854775808 := Int.ediv_le_self _ (by omega)
      rw [e, wrap_u q0 (by omega)]
    refine apure_of Tryd.func63 Tryd.ntmps63 rfl ?_
    simp only [List.length_cons, List.length_nil, List.cons_append, List.nil_append, List.replicate]
    repeat' (first
      | refine aw_seq ?_
      | (refine aw_run [] ?_; simp -implicitDefEqProofs [hx, a0])
      | (refine aw_ymix [] draws (by decide +kernel) ?_; simp -implicitDefEqProofs [hx, a0])
      | (refine aw_yrun draws (by kernel_rfl) ?_; simp -implicitDefEqProofs [hx, a0])
      | (refine awl_skip' [] rfl ?_; simp -implicitDefEqProofs [hx, a0])
      | (refine awl_pure_guard [] rfl rfl rfl (by first | assumption | kernel_rfl) rfl (fun hc => by first | exact size_ok a ha.1 ha.2 | exact size_ok b hb.1 hb.2 | exact signed_ok _ _ (uw_lo _) (uw_hi _)) (by simp) (by simp) (by simp) ?_; simp -implicitDefEqProofs [hx, a0])
      | (refine yl_pureG rfl rfl rfl (by first | assumption | kernel_rfl) rfl (fun hc => by first | exact size_ok a ha.1 ha.2 | exact size_ok b hb.1 hb.2 | exact signed_ok _ _ (uw_lo _) (uw_hi _)) (by simp) (by simp) (by simp) ?_; simp -implicitDefEqProofs [hx, a0])
      | (refine awl_pure' [] rfl rfl rfl (by first | assumption | kernel_rfl) rfl (by first | exact size_ok a ha.1 ha.2 | exact size_ok b hb.1 hb.2 | exact signed_ok _ _ (uw_lo _) (uw_hi _)) (by simp) (by simp) ?_; simp -implicitDefEqProofs [hx, a0])
      | (refine yl_pure rfl rfl rfl (by first | assumption | kernel_rfl) rfl (by first | exact size_ok a ha.1 ha.2 | exact size_ok b hb.1 hb.2 | exact signed_ok _ _ (uw_lo _) (uw_hi _)) (by simp) (by simp) ?_; simp -implicitDefEqProofs [hx, a0])
      | (refine aw_cond rfl (fun h => ?_) (fun h => ?_) <;> try (with_reducible first | exact ff_tt h | exact tt_ff h))
      | (refine aw_skip ?_; simp -implicitDefEqProofs [hx, a0])
      | refine aw_block ?_
      | (refine aw_exit ?_; simp -implicitDefEqProofs [hx, a0])
      | refine aw_ret (ret_of (.inr rfl) (by simp [Tryd.results63]; rfl) (Fin.of ?_)))
    · simp at h
      have g2 : 9223372036854775808 < (b.natAbs : Int) * a.natAbs := (Int.ediv_lt_iff_lt_mul (by omega)).1 (by rw [hq] at h; exact h)
      refine no_chk ?_
      have g3 : (a * b).natAbs = a.natAbs * b.natAbs := Int.natAbs_mul a b
      have g4 : 9223372036854775808 < ((a * b).natAbs : Int) := by rw [g3, Int.natCast_mul, Int.mul_comm]; exact g2
      unfold In64
      generalize a * b = p at *
      omega
    · simp at h
      refine chk_of ?_
      have g2 : (b.natAbs : Int) * a.natAbs ≤ 9223372036854775808 := Int.not_lt.1 (fun hh => by
        have := (Int.ediv_lt_iff_lt_mul (show 0 < (a.natAbs : Int) by omega)).2 hh
        rw [hq] at h; omega)
      have hp : 0 ≤ (a.natAbs : Int) * b.natAbs := Int.mul_nonneg (by omega) (by omega)
      rw [Int.mul_comm] at g2
      rw [wrap_u hp (by omega), sign_mul]
set_option maxRecDepth 100000 in
theorem rdiv_ok {a b : Int} (ha : In64 a) (hb : In64 b) (b0 : b ≠ 0) : APure Tryd.prog 64 [vi a, vi b] (chk (a.tdiv b)) := by
  have hy : ¬ (b.natAbs : Int) = 0 := by omega
  refine apure_of Tryd.func64 Tryd.ntmps64 rfl ?_
  simp only [List.length_cons, List.length_nil, List.cons_append, List.nil_append, List.replicate]
  repeat' (first
    | refine aw_seq ?_
    | (refine aw_run [] ?_; simp -implicitDefEqProofs [hy, b0])
    | (refine aw_ymix [] draws (by decide +kernel) ?_; simp -implicitDefEqProofs [hy, b0])
    | (refine aw_yrun draws (by kernel_rfl) ?_; simp -implicitDefEqProofs [hy, b0])
    | (refine awl_skip' [] rfl ?_; simp -implicitDefEqProofs [hy, b0])
    | (refine awl_pure_guard [] rfl rfl rfl (by first | assumption | kernel_rfl) rfl (fun hc => by first | exact size_ok a ha.1 ha.2 | exact size_ok b hb.1 hb.2 | exact signed_ok _ _ (uw_lo _) (uw_hi _)) (by simp) (by simp) (by simp) ?_; simp -implicitDefEqProofs [hy, b0])
    | (refine yl_pureG rfl rfl rfl (by first | assumption | kernel_rfl) rfl (fun hc => by first | exact size_ok a ha.1 ha.2 | exact size_ok b hb.1 hb.2 | exact signed_ok _ _ (uw_lo _) (uw_hi _)) (by simp) (by simp) (by simp) ?_; simp -implicitDefEqProofs [hy, b0])
    | (refine awl_pure' [] rfl rfl rfl (by first | assumption | kernel_rfl) rfl (by first | exact size_ok a ha.1 ha.2 | exact size_ok b hb.1 hb.2 | exact signed_ok _ _ (uw_lo _) (uw_hi _)) (by simp) (by simp) ?_; simp -implicitDefEqProofs [hy, b0])
    | (refine yl_pure rfl rfl rfl (by first | assumption | kernel_rfl) rfl (by first | exact size_ok a ha.1 ha.2 | exact size_ok b hb.1 hb.2 | exact signed_ok _ _ (uw_lo _) (uw_hi _)) (by simp) (by simp) ?_; simp -implicitDefEqProofs [hy, b0])
    | (refine aw_cond rfl (fun h => ?_) (fun h => ?_) <;> try (with_reducible first | exact ff_tt h | exact tt_ff h))
    | (refine aw_skip ?_; simp -implicitDefEqProofs [hy, b0])
    | refine aw_block ?_
    | (refine aw_exit ?_; simp -implicitDefEqProofs [hy, b0])
    | refine aw_ret (ret_of (.inr rfl) (by simp [Tryd.results64]; rfl) (Fin.of ?_)))
  refine chk_of ?_
  have q0 : 0 ≤ (a.natAbs : Int) / (b.natAbs : Int) := Int.ediv_nonneg (by omega) (by omega)
  have q1 : (a.natAbs : Int) / (b.natAbs : Int) ≤ a.natAbs := Int.ediv_le_self _ (by omega)
  unfold In64 at ha
  rw [wrap_u q0 (by omega), sign_div]
end Go.AL
