import Derived.Test.YtadepmefdanenaaDoorK02a
/-! Contracts: gridironref02, what has no loop. -/
namespace Go.AL
open Go.Proofs
set_option linter.unusedSimpArgs false
set_option linter.unusedVariables false
def rright (c r : Int) : Bool := decide (0 ≤ c) && decide (c ≤ 15) && decide (0 ≤ r) && decide (r ≤ 63)
theorem rright_eq (c r : Int) : rright c r = rightP c r := by unfold rright rightP; grind
set_option maxRecDepth 100000 in
theorem rright_ok (c r : Int) : APure Tryd.prog 15 [place c r] (vb (rightP c r)) := by
  rw [← rright_eq]
  refine apure_of Tryd.func15 Tryd.ntmps15 rfl ?_
  simp only [List.length_cons, List.length_nil, List.cons_append, List.nil_append, List.replicate]
  repeat' (first
    | refine aw_seq ?_
    | (refine aw_run [] ?_; simp -implicitDefEqProofs)
    | (refine aw_ymix [] draws (by decide +kernel) ?_; simp -implicitDefEqProofs)
    | (refine aw_yrun draws (by kernel_rfl) ?_; simp -implicitDefEqProofs)
    | (refine awl_skip' [] rfl ?_; simp -implicitDefEqProofs)
    | (refine aw_cond rfl (fun h => ?_) (fun h => ?_) <;> try (with_reducible first | exact ff_tt h | exact tt_ff h))
    | (refine aw_skip ?_; simp -implicitDefEqProofs)
    | refine aw_block ?_
    | (refine aw_exit ?_; simp -implicitDefEqProofs)
    | refine aw_ret (ret_of (.inr rfl) (by simp [Tryd.results15]; rfl) (Fin.of ?_)))
  simp [rright, tupOf]
set_option maxRecDepth 100000 in
theorem rindex_ok (c r : Int) : APure Tryd.prog 19 [place c r] (vi (if rightP c r then r * 16 + c else -1)) := by
  refine apure_of Tryd.func19 Tryd.ntmps19 rfl ?_
  simp only [List.length_cons, List.length_nil, List.cons_append, List.nil_append, List.replicate]
  repeat' (first
    | refine aw_seq ?_
    | (refine aw_run [] ?_; simp -implicitDefEqProofs)
    | (refine aw_ymix [] draws (by decide +kernel) ?_; simp -implicitDefEqProofs)
    | (refine aw_yrun draws (by kernel_rfl) ?_; simp -implicitDefEqProofs)
    | (refine awl_skip' [] rfl ?_; simp -implicitDefEqProofs)
    | (refine awl_pure_guard [] rfl rfl rfl (by kernel_rfl) rfl (fun hc => by first | exact rright_ok _ _) (by simp) (by simp) (by simp) ?_; simp -implicitDefEqProofs)
    | (refine yl_pureG rfl rfl rfl (by kernel_rfl) rfl (fun hc => by first | exact rright_ok _ _) (by simp) (by simp) (by simp) ?_; simp -implicitDefEqProofs)
    | (refine awl_pure' [] rfl rfl rfl (by kernel_rfl) rfl (by first | exact rright_ok _ _) (by simp) (by simp) ?_; simp -implicitDefEqProofs)
    | (refine yl_pure rfl rfl rfl (by kernel_rfl) rfl (by first | exact rright_ok _ _) (by simp) (by simp) ?_; simp -implicitDefEqProofs)
    | (refine aw_cond rfl (fun h => ?_) (fun h => ?_) <;> try (with_reducible first | exact ff_tt h | exact tt_ff h))
    | (refine aw_skip ?_; simp -implicitDefEqProofs)
    | refine aw_block ?_
    | (refine aw_exit ?_; simp -implicitDefEqProofs)
    | refine aw_ret (ret_of (.inr rfl) (by simp [Tryd.results19]; rfl) (Fin.of ?_)))
  · simp_all [tupOf]
  · simp at h
    have h' := h
    simp [rightP] at h'
    simp [h, tupOf]
    rw [show 16 * r = r * 16 by omega, wmul (by omega) (by omega), wrap_id (by omega) (by omega)]
set_option maxRecDepth 100000 in
theorem rat_ok (i : Int) : APure Tryd.prog 13 [vi i] (.tup [place (atC i) (atR i), vb (decide (0 ≤ i ∧ i < 1024))]) := by
  refine apure_of Tryd.func13 Tryd.ntmps13 rfl ?_
  simp only [List.length_cons, List.length_nil, List.cons_append, List.nil_append, List.replicate]
  repeat' (first
    | refine aw_seq ?_
    | (refine aw_run [2] ?_; simp -implicitDefEqProofs)
    | (refine aw_ymix [2] draws (by decide +kernel) ?_; simp -implicitDefEqProofs)
    | (refine aw_yrun draws (by kernel_rfl) ?_; simp -implicitDefEqProofs)
    | (refine awl_skip' [2] rfl ?_; simp -implicitDefEqProofs)
    | (refine aw_cond rfl (fun h => ?_) (fun h => ?_) <;> try (with_reducible first | exact ff_tt h | exact tt_ff h))
    | (refine aw_skip ?_; simp -implicitDefEqProofs)
    | refine aw_block ?_
    | (refine aw_exit ?_; simp -implicitDefEqProofs)
    | refine aw_ret (ret_of (.inr rfl) (by simp [Tryd.results13]; rfl) (Fin.of ?_)))
  · simp [tupOf] at h ⊢
    have : ¬ (0 ≤ i ∧ i < 1024) := by omega
    simp [atC, atR, this]
    omega
  · simp [tupOf] at h ⊢
    have h1 : 0 ≤ i ∧ i < 1024 := by omega
    rw [Int.tdiv_eq_ediv_of_nonneg h1.1, wrap_id (by omega) (by omega)]
    simp [atC, atR, h1, Int.tmod_eq_emod_of_nonneg h1.1]
def farP (n : Int) : Bool := decide (n < -64) || decide (64 < n)
set_option maxRecDepth 100000 in
theorem far_ok (n : Int) : APure Tryd.prog 58 [vi n] (vb (farP n)) := by
  refine apure_of Tryd.func58 Tryd.ntmps58 rfl ?_
  simp only [List.length_cons, List.length_nil, List.cons_append, List.nil_append, List.replicate]
  repeat' (first
    | refine aw_seq ?_
    | (refine aw_run [] ?_; simp -implicitDefEqProofs)
    | (refine aw_ymix [] draws (by decide +kernel) ?_; simp -implicitDefEqProofs)
    | (refine aw_yrun draws (by kernel_rfl) ?_; simp -implicitDefEqProofs)
    | (refine awl_skip' [] rfl ?_; simp -implicitDefEqProofs)
    | (refine aw_cond rfl (fun h => ?_) (fun h => ?_) <;> try (with_reducible first | exact ff_tt h | exact tt_ff h))
    | (refine aw_skip ?_; simp -implicitDefEqProofs)
    | refine aw_block ?_
    | (refine aw_exit ?_; simp -implicitDefEqProofs)
    | refine aw_ret (ret_of (.inr rfl) (by simp [Tryd.results58]; rfl) (Fin.of ?_)))
  simp [farP, tupOf]
def moveQ (c r bc br : Int) : Bool := rightP c r && rightP (c + bc) (r + br)
set_option maxRecDepth 100000 in
theorem rmove_ok (c r bc br : Int) : APure Tryd.prog 21 [place c r, place bc br] (.tup [place (z (moveQ c r bc br) (c + bc)) (z (moveQ c r bc br) (r + br)), vb (moveQ c r bc br)]) := by
  refine apure_of Tryd.func21 Tryd.ntmps21 rfl ?_
  simp only [List.length_cons, List.length_nil, List.cons_append, List.nil_append, List.replicate]
  repeat' (first
    | refine aw_seq ?_
    | (refine aw_run [4, 7] ?_; simp -implicitDefEqProofs)
    | (refine aw_ymix [4, 7] draws (by decide +kernel) ?_; simp -implicitDefEqProofs)
    | (refine aw_yrun draws (by kernel_rfl) ?_; simp -implicitDefEqProofs)
    | (refine awl_skip' [4, 7] rfl ?_; simp -implicitDefEqProofs)
    | (refine awl_pure_guard [4, 7] rfl rfl rfl (by kernel_rfl) rfl (fun hc => by first | exact rright_ok _ _ | exact far_ok _) (by simp) (by simp) (by simp) ?_; simp -implicitDefEqProofs)
    | (refine yl_pureG rfl rfl rfl (by kernel_rfl) rfl (fun hc => by first | exact rright_ok _ _ | exact far_ok _) (by simp) (by simp) (by simp) ?_; simp -implicitDefEqProofs)
    | (refine awl_pure' [4, 7] rfl rfl rfl (by kernel_rfl) rfl (by first | exact rright_ok _ _ | exact far_ok _) (by simp) (by simp) ?_; simp -implicitDefEqProofs)
    | (refine yl_pure rfl rfl rfl (by kernel_rfl) rfl (by first | exact rright_ok _ _ | exact far_ok _) (by simp) (by simp) ?_; simp -implicitDefEqProofs)
    | (refine aw_cond rfl (fun h => ?_) (fun h => ?_) <;> try (with_reducible first | exact ff_tt h | exact tt_ff h))
    | (refine aw_skip ?_; simp -implicitDefEqProofs)
    | refine aw_block ?_
    | (refine aw_exit ?_; simp -implicitDefEqProofs)
    | refine aw_ret (ret_of (.inr rfl) (by simp [Tryd.results21]; rfl) (Fin.of ?_)))
  · have e : moveQ c r bc br = false := by
      simp only [moveQ]
      cases h1 : rightP c r with
      | false => rfl
      | true =>
        rw [Bool.eq_false_iff]
        intro h2
        simp [rightP] at h1 h2
        simp [farP, rightP, h1] at h
        omega
    simp [e, tupOf]
  · rename_i h0
    simp at h0 h
    have h1 := h0.1.1
    simp [rightP] at h1
    have f1 := h0.1.2
    have f2 := h0.2
    simp [farP] at f1 f2
    rw [wrap_id (by omega) (by omega), wrap_id (by omega) (by omega)] at h
    have e : moveQ c r bc br = false := by simp [moveQ, h]
    simp [e, tupOf]
  · rename_i h0
    simp at h0 h
    have h1 := h0.1.1
    have h1' := h1
    simp [rightP] at h1
    have f1 := h0.1.2
    have f2 := h0.2
    simp [farP] at f1 f2
    rw [wrap_id (by omega) (by omega), wrap_id (by omega) (by omega)] at h
    rw [wrap_id (by omega) (by omega), wrap_id (by omega) (by omega)]
    have e : moveQ c r bc br = true := by simp [moveQ, h, h1']
    simp [e, tupOf]
set_option maxRecDepth 100000 in
theorem rmirror_ok (c r : Int) : APure Tryd.prog 23 [place c r] (.tup [place (z (rightP c r && rightP r c) r) (z (rightP c r && rightP r c) c), vb (rightP c r && rightP r c)]) := by
  refine apure_of Tryd.func23 Tryd.ntmps23 rfl ?_
  simp only [List.length_cons, List.length_nil, List.cons_append, List.nil_append, List.replicate]
  repeat' (first
    | refine aw_seq ?_
    | (refine aw_run [2, 4] ?_; simp -implicitDefEqProofs)
    | (refine aw_ymix [2, 4] draws (by decide +kernel) ?_; simp -implicitDefEqProofs)
    | (refine aw_yrun draws (by kernel_rfl) ?_; simp -implicitDefEqProofs)
    | (refine awl_skip' [2, 4] rfl ?_; simp -implicitDefEqProofs)
    | (refine awl_pure_guard [2, 4] rfl rfl rfl (by kernel_rfl) rfl (fun hc => by first | exact rright_ok _ _) (by simp) (by simp) (by simp) ?_; simp -implicitDefEqProofs)
    | (refine yl_pureG rfl rfl rfl (by kernel_rfl) rfl (fun hc => by first | exact rright_ok _ _) (by simp) (by simp) (by simp) ?_; simp -implicitDefEqProofs)
    | (refine awl_pure' [2, 4] rfl rfl rfl (by kernel_rfl) rfl (by first | exact rright_ok _ _) (by simp) (by simp) ?_; simp -implicitDefEqProofs)
    | (refine yl_pure rfl rfl rfl (by kernel_rfl) rfl (by first | exact rright_ok _ _) (by simp) (by simp) ?_; simp -implicitDefEqProofs)
    | (refine aw_cond rfl (fun h => ?_) (fun h => ?_) <;> try (with_reducible first | exact ff_tt h | exact tt_ff h))
    | (refine aw_skip ?_; simp -implicitDefEqProofs)
    | refine aw_block ?_
    | (refine aw_exit ?_; simp -implicitDefEqProofs)
    | refine aw_ret (ret_of (.inr rfl) (by simp [Tryd.results23]; rfl) (Fin.of ?_)))
  · have e : (rightP c r && rightP r c) = false := by simp at h ⊢; grind
    simp [e, tupOf]
  · have e : (rightP c r && rightP r c) = true := by simp at h ⊢; exact h
    simp [e, tupOf]
set_option maxRecDepth 100000 in
theorem rwhole_ok (a b c d : Int) : APure Tryd.prog 33 [range a b c d] (vb (wholeP a b c d)) := by
  refine apure_of Tryd.func33 Tryd.ntmps33 rfl ?_
  simp only [List.length_cons, List.length_nil, List.cons_append, List.nil_append, List.replicate]
  repeat' (first
    | refine aw_seq ?_
    | (refine aw_run [] ?_; simp -implicitDefEqProofs)
    | (refine aw_ymix [] draws (by decide +kernel) ?_; simp -implicitDefEqProofs)
    | (refine aw_yrun draws (by kernel_rfl) ?_; simp -implicitDefEqProofs)
    | (refine awl_skip' [] rfl ?_; simp -implicitDefEqProofs)
    | (refine awl_pure_guard [] rfl rfl rfl (by kernel_rfl) rfl (fun hc => by first | exact rright_ok _ _) (by simp) (by simp) (by simp) ?_; simp -implicitDefEqProofs)
    | (refine yl_pureG rfl rfl rfl (by kernel_rfl) rfl (fun hc => by first | exact rright_ok _ _) (by simp) (by simp) (by simp) ?_; simp -implicitDefEqProofs)
    | (refine awl_pure' [] rfl rfl rfl (by kernel_rfl) rfl (by first | exact rright_ok _ _) (by simp) (by simp) ?_; simp -implicitDefEqProofs)
    | (refine yl_pure rfl rfl rfl (by kernel_rfl) rfl (by first | exact rright_ok _ _) (by simp) (by simp) ?_; simp -implicitDefEqProofs)
    | (refine aw_cond rfl (fun h => ?_) (fun h => ?_) <;> try (with_reducible first | exact ff_tt h | exact tt_ff h))
    | (refine aw_skip ?_; simp -implicitDefEqProofs)
    | refine aw_block ?_
    | (refine aw_exit ?_; simp -implicitDefEqProofs)
    | refine aw_ret (ret_of (.inr rfl) (by simp [Tryd.results33]; rfl) (Fin.of ?_)))
  simp [wholeP, withinP, tupOf]
  all_goals grind
set_option maxRecDepth 100000 in
theorem rhas_ok (a b c d x y : Int) : APure Tryd.prog 34 [range a b c d, place x y] (vb (hasP a b c d x y)) := by
  refine apure_of Tryd.func34 Tryd.ntmps34 rfl ?_
  simp only [List.length_cons, List.length_nil, List.cons_append, List.nil_append, List.replicate]
  repeat' (first
    | refine aw_seq ?_
    | (refine aw_run [] ?_; simp -implicitDefEqProofs)
    | (refine aw_ymix [] draws (by decide +kernel) ?_; simp -implicitDefEqProofs)
    | (refine aw_yrun draws (by kernel_rfl) ?_; simp -implicitDefEqProofs)
    | (refine awl_skip' [] rfl ?_; simp -implicitDefEqProofs)
    | (refine awl_pure_guard [] rfl rfl rfl (by kernel_rfl) rfl (fun hc => by first | exact rwhole_ok _ _ _ _) (by simp) (by simp) (by simp) ?_; simp -implicitDefEqProofs)
    | (refine yl_pureG rfl rfl rfl (by kernel_rfl) rfl (fun hc => by first | exact rwhole_ok _ _ _ _) (by simp) (by simp) (by simp) ?_; simp -implicitDefEqProofs)
    | (refine awl_pure' [] rfl rfl rfl (by kernel_rfl) rfl (by first | exact rwhole_ok _ _ _ _) (by simp) (by simp) ?_; simp -implicitDefEqProofs)
    | (refine yl_pure rfl rfl rfl (by kernel_rfl) rfl (by first | exact rwhole_ok _ _ _ _) (by simp) (by simp) ?_; simp -implicitDefEqProofs)
    | (refine aw_cond rfl (fun h => ?_) (fun h => ?_) <;> try (with_reducible first | exact ff_tt h | exact tt_ff h))
    | (refine aw_skip ?_; simp -implicitDefEqProofs)
    | refine aw_block ?_
    | (refine aw_exit ?_; simp -implicitDefEqProofs)
    | refine aw_ret (ret_of (.inr rfl) (by simp [Tryd.results34]; rfl) (Fin.of ?_)))
  simp [hasP, withinP, tupOf]
  all_goals grind
set_option maxRecDepth 100000 in
theorem rspan_ok (a b c d : Int) : APure Tryd.prog 27 [place a b, place c d] (.tup [range (z (spanP a b c d) (min a c)) (z (spanP a b c d) (min b d)) (z (spanP a b c d) (max a c)) (z (spanP a b c d) (max b d)), vb (spanP a b c d)]) := by
  refine apure_of Tryd.func27 Tryd.ntmps27 rfl ?_
  simp only [List.length_cons, List.length_nil, List.cons_append, List.nil_append, List.replicate]
  repeat' (first
    | refine aw_seq ?_
    | (refine aw_run [4] ?_; simp -implicitDefEqProofs)
    | (refine aw_ymix [4] draws (by decide +kernel) ?_; simp -implicitDefEqProofs)
    | (refine aw_yrun draws (by kernel_rfl) ?_; simp -implicitDefEqProofs)
    | (refine awl_skip' [4] rfl ?_; simp -implicitDefEqProofs)
    | (refine awl_pure_guard [4] rfl rfl rfl (by kernel_rfl) rfl (fun hc => by first | exact rright_ok _ _) (by simp) (by simp) (by simp) ?_; simp -implicitDefEqProofs)
    | (refine yl_pureG rfl rfl rfl (by kernel_rfl) rfl (fun hc => by first | exact rright_ok _ _) (by simp) (by simp) (by simp) ?_; simp -implicitDefEqProofs)
    | (refine awl_pure' [4] rfl rfl rfl (by kernel_rfl) rfl (by first | exact rright_ok _ _) (by simp) (by simp) ?_; simp -implicitDefEqProofs)
    | (refine yl_pure rfl rfl rfl (by kernel_rfl) rfl (by first | exact rright_ok _ _) (by simp) (by simp) ?_; simp -implicitDefEqProofs)
    | (refine aw_cond rfl (fun h => ?_) (fun h => ?_) <;> try (with_reducible first | exact ff_tt h | exact tt_ff h))
    | (refine aw_skip ?_; simp -implicitDefEqProofs)
    | refine aw_block ?_
    | (refine aw_exit ?_; simp -implicitDefEqProofs)
    | refine aw_ret (ret_of (.inr rfl) (by simp [Tryd.results27]; rfl) (Fin.of ?_)))
  · have h' : spanP a b c d = false := by simp [spanP] at h ⊢; grind
    simp [h', tupOf]
  · have h' : spanP a b c d = true := by simp [spanP] at h ⊢; exact h
    simp [h', tupOf, mn, mx]
end Go.AL
