import Derived.Test.YtcicdckjlkekdaaDoorK03f
/-! Contracts: gridironlaw03.alive, ValueTells. -/
namespace Go.AL
open Go.Proofs Go.Proofs.YtcicdckjlkekdaaDoor.Dec Go.Lib
set_option linter.unusedSimpArgs false
set_option linter.unusedVariables false
theorem vdo1 : APure Tryd.prog 11 [vs ⟨#[47]⟩, value 7 0, value 0 0] (.tup [value 0 2, vb true]) := by
  have h := do_ok ⟨#[47]⟩ 7 0 0 0 (by decide) (by decide)
  rwa [show doK ⟨#[47]⟩ = 3 by decide, show doN 3 7 0 0 0 = 0 by decide, show doF 3 7 0 0 0 = 2 by decide] at h
theorem vdo2 : APure Tryd.prog 11 [vs ⟨#[43]⟩, value 0 2, value 0 4] (.tup [value 0 2, vb true]) := by
  have h := do_ok ⟨#[43]⟩ 0 2 0 4 (by decide) (by decide)
  rwa [show doK ⟨#[43]⟩ = 0 by decide, show doN 0 0 2 0 4 = 0 by decide, show doF 0 0 2 0 4 = 2 by decide] at h
theorem vdo3 : APure Tryd.prog 11 [vs ⟨#[60, 61]⟩, value 3 0, value 3 0] (.tup [value 1 0, vb true]) := by
  have h := do_ok ⟨#[60, 61]⟩ 3 0 3 0 (by decide) (by decide)
  rwa [show doK ⟨#[60, 61]⟩ = 5 by decide, show doN 5 3 0 3 0 = 1 by decide, show doF 5 3 0 3 0 = 0 by decide] at h
theorem vdo4 : APure Tryd.prog 11 [vs ⟨#[61, 62]⟩, value 0 2, value 0 2] (.tup [value 0 0, vb false]) := by
  have h := do_ok ⟨#[61, 62]⟩ 0 2 0 2 (by decide) (by decide)
  rwa [show doK ⟨#[61, 62]⟩ = 10 by decide, show doN 10 0 2 0 2 = 0 by decide, show doF 10 0 2 0 2 = 0 by decide] at h
theorem vparse1 : APure Tryd.prog 9 [vs ⟨#[35, 67, 89, 67, 76, 69]⟩] (.tup [value 0 4, vb true]) := by
  have h := vparse_ok ⟨#[35, 67, 89, 67, 76, 69]⟩ (by decide)
  have hk : faultK ⟨#[35, 67, 89, 67, 76, 69]⟩ = 4 := by decide
  rwa [show vpN ⟨#[35, 67, 89, 67, 76, 69]⟩ = 0 by unfold vpN; rw [hk]; rfl, show vpB ⟨#[35, 67, 89, 67, 76, 69]⟩ = true by unfold vpB; rw [hk]; rfl, hk] at h
theorem vgreat1 : APure Tryd.prog 23 [.vsl [value (-4) 0, value (-2) 0]] (value (-2) 0) := by
  have h := greatest_ok [(-4, 0), (-2, 0)] (by decide)
  rwa [show highL [(-4, 0), (-2, 0)] = (-2, 0) by decide] at h
theorem vsum1 : APure Tryd.prog 19 [.vsl [value 9223372036854775807 0, value 1 0, value 0 3]] (value 0 1) := by
  have h := vsum_ok [(9223372036854775807, 0), (1, 0), (0, 3)] (by decide) (by decide)
  rwa [show sumL [(9223372036854775807, 0), (1, 0), (0, 3)] = (0, 1) by decide] at h
theorem vtext1 : APure Tryd.prog 15 [value 0 1] (vs ⟨#[35, 79, 86, 69, 82]⟩) := vtext_ok 0 1 (by decide)
theorem vneg1 : APure Tryd.prog 17 [value (-2) 0] (value 2 0) := vneg_ok (-2) 0 (by decide)
set_option maxHeartbeats 4000000 in
set_option maxRecDepth 100000 in
theorem alive3_ok : APure Tryd.prog 8 [] (vb true) := by
  refine apure_of Tryd.func8 Tryd.ntmps8 rfl ?_
  simp only [List.length_cons, List.length_nil, List.cons_append, List.nil_append, List.replicate]
  repeat' (first
    | refine aw_seq ?_
    | (refine aw_run [1, 3, 5, 7, 9, 11, 12] ?_; simp -implicitDefEqProofs)
    | (refine aw_ymix [1, 3, 5, 7, 9, 11, 12] draws (by decide +kernel) ?_; simp -implicitDefEqProofs)
    | (refine aw_yrun draws (by kernel_rfl) ?_; simp -implicitDefEqProofs)
    | (refine awl_skip' [1, 3, 5, 7, 9, 11, 12] rfl ?_; simp -implicitDefEqProofs)
    | (refine awl_pure_guard [1, 3, 5, 7, 9, 11, 12] rfl rfl rfl (by first | assumption | kernel_rfl) rfl (fun hc => by first | exact vdo1 | exact vdo2 | exact vdo3 | exact vdo4 | exact vparse1 | exact vgreat1 | exact vsum1 | exact vtext1 | exact vneg1) (by simp) (by simp) (by simp) ?_; simp -implicitDefEqProofs)
    | (refine yl_pureG rfl rfl rfl (by first | assumption | kernel_rfl) rfl (fun hc => by first | exact vdo1 | exact vdo2 | exact vdo3 | exact vdo4 | exact vparse1 | exact vgreat1 | exact vsum1 | exact vtext1 | exact vneg1) (by simp) (by simp) (by simp) ?_; simp -implicitDefEqProofs)
    | (refine awl_pure' [1, 3, 5, 7, 9, 11, 12] rfl rfl rfl (by first | assumption | kernel_rfl) rfl (by first | exact vdo1 | exact vdo2 | exact vdo3 | exact vdo4 | exact vparse1 | exact vgreat1 | exact vsum1 | exact vtext1 | exact vneg1) (by simp) (by simp) ?_; simp -implicitDefEqProofs)
    | (refine yl_pure rfl rfl rfl (by first | assumption | kernel_rfl) rfl (by first | exact vdo1 | exact vdo2 | exact vdo3 | exact vdo4 | exact vparse1 | exact vgreat1 | exact vsum1 | exact vtext1 | exact vneg1) (by simp) (by simp) ?_; simp -implicitDefEqProofs)
    | (refine aw_cond rfl (fun h => ?_) (fun h => ?_) <;> try (with_reducible first | exact ff_tt h | exact tt_ff h))
    | (refine aw_skip ?_; simp -implicitDefEqProofs)
    | refine aw_block ?_
    | (refine aw_exit ?_; simp -implicitDefEqProofs)
    | refine aw_ret (ret_of (.inr rfl) (by simp [Tryd.results8]; rfl) (Fin.of ?_)))
  all_goals first | rfl | simp [tupOf]
theorem pB_itoa {v : Int} (h : In64 v) : pB (itoa v) = true ∧ pV (itoa v) = v := by
  have hs := splitS_fig (decide (v < 0)) (dec_all v.natAbs)
  rw [← itoa_sgnL] at hs
  have hc := canon_of h
  have hi : sgn (decide (v < 0)) (fval 0 (decDigits v.natAbs)) = v := by
    rw [dec_val]; unfold sgn; split <;> rename_i h3 <;> simp at h3 <;> omega
  have hp : pB (itoa v) = true := by unfold pB; rw [hs, hc, hi, inI_iff.2 h]; rfl
  refine ⟨hp, ?_⟩
  unfold pV
  rw [hp, hs, hi]; rfl
theorem itoa_noName {v : Int} (h : In64 v) : faultK ⟨(itoa v).toArray⟩ = 0 := by
  have key : ∀ (k : Nat) (r : List UInt8), nameF k = ⟨(35 :: r).toArray⟩ → (⟨(itoa v).toArray⟩ : ByteArray) ≠ nameF k := by
    intro k r hk e
    rw [hk] at e
    have e : itoa v = 35 :: r := by
      have := congrArg (fun b : ByteArray => b.data.toList) e
      simpa using this
    rw [itoa_sgnL] at e
    unfold sgnL at e
    split at e
    · exact absurd (List.cons.inj e).1 (by decide)
    · have := fig_head (dec_all v.natAbs) (c := 35) (by rw [e]; rfl)
      exact absurd this (by decide)
  unfold faultK
  rw [if_neg (key 1 _ rfl), if_neg (key 2 _ rfl), if_neg (key 3 _ rfl), if_neg (key 4 _ rfl)]
theorem back_ok (n f : Int) (hn : In64 n) (hr : rightV n f = true) : APure Tryd.prog 9 [vs (vtext n f)] (.tup [value n f, vb true]) := by
  by_cases h0 : f = 0
  · subst h0
    have ht : vtext n 0 = ⟨(itoa n).toArray⟩ := by simp [vtext, hr]
    have hl : (itoa n).length ≤ 21 := by have := Lib.itoa_length_le n hn.1 hn.2; omega
    have h := vparse_ok ⟨(itoa n).toArray⟩ (by simp [ByteArray.size]; omega)
    have hk := itoa_noName hn
    obtain ⟨h1, h2⟩ := pB_itoa hn
    have e1 : vpN ⟨(itoa n).toArray⟩ = n := by unfold vpN; rw [hk, if_pos rfl]; simpa using h2
    have e2 : vpB ⟨(itoa n).toArray⟩ = true := by unfold vpB; rw [hk]; simpa using h1
    rw [ht]
    rwa [hk, e1, e2] at h
  · obtain ⟨rfl, hf⟩ := rightV_f hr h0
    have ht : vtext 0 f = nameF f.toNat := by simp [vtext, hr, h0]
    obtain ⟨hk, -⟩ := isName (i := f.toNat) (by omega)
    have h := vparse_ok (nameF f.toNat) (by rcases hf with rfl | rfl | rfl | rfl <;> decide)
    have e1 : vpN (nameF f.toNat) = 0 := by unfold vpN; rw [hk, if_neg (by omega)]
    have e2 : vpB (nameF f.toNat) = true := by unfold vpB; rw [hk, decide_eq_false (by omega)]; rfl
    rw [ht]
    rwa [hk, e1, e2, show ((f.toNat : Nat) : Int) = f by omega] at h
set_option maxHeartbeats 4000000 in
set_option maxRecDepth 100000 in
theorem valueTells_ok (a fa b fb : Int) (ha : In64 a) (hb : In64 b) (s : ByteArray) (hs : s.size ≤ 281474976710656) : APure Tryd.prog 3 [value a fa, value b fb, vs s] (vb true) := by
  have hvr := vright_ok a fa
  have hrr := rvright_ok a fa
  cases hr : rightV a fa with
  | false =>
    rw [hr] at hvr hrr
    refine apure_of Tryd.func3 Tryd.ntmps3 rfl ?_
    simp only [List.length_cons, List.length_nil, List.cons_append, List.nil_append, List.replicate]
    repeat' (first
      | refine aw_seq ?_
      | (refine aw_run [7, 9, 11, 13, 16] ?_; simp -implicitDefEqProofs)
      | (refine aw_ymix [7, 9, 11, 13, 16] draws (by decide +kernel) ?_; simp -implicitDefEqProofs)
      | (refine aw_yrun draws (by kernel_rfl) ?_; simp -implicitDefEqProofs)
      | (refine awl_skip' [7, 9, 11, 13, 16] rfl ?_; simp -implicitDefEqProofs)
      | (refine awl_pure_guard [7, 9, 11, 13, 16] rfl rfl rfl (by first | assumption | kernel_rfl) rfl (fun hc => by first | exact alive3_ok | exact vparse_ok s hs | exact rvparse_ok s hs | exact do_ok s a fa b fb ha hb | exact rdo_ok s a fa b fb ha hb | exact hvr | exact hrr | exact vtext_ok a fa ha | exact rvtext_ok a fa ha | exact vneg_ok a fa ha | exact rvneg_ok a fa ha) (by simp) (by simp) (by simp) ?_; simp -implicitDefEqProofs)
      | (refine yl_pureG rfl rfl rfl (by first | assumption | kernel_rfl) rfl (fun hc => by first | exact alive3_ok | exact vparse_ok s hs | exact rvparse_ok s hs | exact do_ok s a fa b fb ha hb | exact rdo_ok s a fa b fb ha hb | exact hvr | exact hrr | exact vtext_ok a fa ha | exact rvtext_ok a fa ha | exact vneg_ok a fa ha | exact rvneg_ok a fa ha) (by simp) (by simp) (by simp) ?_; simp -implicitDefEqProofs)
      | (refine awl_pure' [7, 9, 11, 13, 16] rfl rfl rfl (by first | assumption | kernel_rfl) rfl (by first | exact alive3_ok | exact vparse_ok s hs | exact rvparse_ok s hs | exact do_ok s a fa b fb ha hb | exact rdo_ok s a fa b fb ha hb | exact hvr | exact hrr | exact vtext_ok a fa ha | exact rvtext_ok a fa ha | exact vneg_ok a fa ha | exact rvneg_ok a fa ha) (by simp) (by simp) ?_; simp -implicitDefEqProofs)
      | (refine yl_pure rfl rfl rfl (by first | assumption | kernel_rfl) rfl (by first | exact alive3_ok | exact vparse_ok s hs | exact rvparse_ok s hs | exact do_ok s a fa b fb ha hb | exact rdo_ok s a fa b fb ha hb | exact hvr | exact hrr | exact vtext_ok a fa ha | exact rvtext_ok a fa ha | exact vneg_ok a fa ha | exact rvneg_ok a fa ha) (by simp) (by simp) ?_; simp -implicitDefEqProofs)
      | (refine aw_cond rfl (fun h => ?_) (fun h => ?_) <;> try (with_reducible first | exact ff_tt h | exact tt_ff h))
      | (refine aw_skip ?_; simp -implicitDefEqProofs)
      | refine aw_block ?_
      | (refine aw_exit ?_; simp -implicitDefEqProofs)
      | refine aw_ret (ret_of (.inr rfl) (by simp [Tryd.results3]; rfl) (Fin.of ?_)))
    all_goals first | rfl | simp [tupOf]
  | true =>
    rw [hr] at hvr hrr
    have hback := back_ok a fa ha hr
    refine apure_of Tryd.func3 Tryd.ntmps3 rfl ?_
    simp only [List.length_cons, List.length_nil, List.cons_append, List.nil_append, List.replicate]
    repeat' (first
      | refine aw_seq ?_
      | (refine aw_run [7, 9, 11, 13, 16] ?_; simp -implicitDefEqProofs)
      | (refine aw_ymix [7, 9, 11, 13, 16] draws (by decide +kernel) ?_; simp -implicitDefEqProofs)
      | (refine aw_yrun draws (by kernel_rfl) ?_; simp -implicitDefEqProofs)
      | (refine awl_skip' [7, 9, 11, 13, 16] rfl ?_; simp -implicitDefEqProofs)
      | (refine awl_pure_guard [7, 9, 11, 13, 16] rfl rfl rfl (by first | assumption | kernel_rfl) rfl (fun hc => by first | exact alive3_ok | exact vparse_ok s hs | exact rvparse_ok s hs | exact do_ok s a fa b fb ha hb | exact rdo_ok s a fa b fb ha hb | exact hvr | exact hrr | exact vtext_ok a fa ha | exact rvtext_ok a fa ha | exact vneg_ok a fa ha | exact rvneg_ok a fa ha | exact hback) (by simp) (by simp) (by simp) ?_; simp -implicitDefEqProofs)
      | (refine yl_pureG rfl rfl rfl (by first | assumption | kernel_rfl) rfl (fun hc => by first | exact alive3_ok | exact vparse_ok s hs | exact rvparse_ok s hs | exact do_ok s a fa b fb ha hb | exact rdo_ok s a fa b fb ha hb | exact hvr | exact hrr | exact vtext_ok a fa ha | exact rvtext_ok a fa ha | exact vneg_ok a fa ha | exact rvneg_ok a fa ha | exact hback) (by simp) (by simp) (by simp) ?_; simp -implicitDefEqProofs)
      | (refine awl_pure' [7, 9, 11, 13, 16] rfl rfl rfl (by first | assumption | kernel_rfl) rfl (by first | exact alive3_ok | exact vparse_ok s hs | exact rvparse_ok s hs | exact do_ok s a fa b fb ha hb | exact rdo_ok s a fa b fb ha hb | exact hvr | exact hrr | exact vtext_ok a fa ha | exact rvtext_ok a fa ha | exact vneg_ok a fa ha | exact rvneg_ok a fa ha | exact hback) (by simp) (by simp) ?_; simp -implicitDefEqProofs)
      | (refine yl_pure rfl rfl rfl (by first | assumption | kernel_rfl) rfl (by first | exact alive3_ok | exact vparse_ok s hs | exact rvparse_ok s hs | exact do_ok s a fa b fb ha hb | exact rdo_ok s a fa b fb ha hb | exact hvr | exact hrr | exact vtext_ok a fa ha | exact rvtext_ok a fa ha | exact vneg_ok a fa ha | exact rvneg_ok a fa ha | exact hback) (by simp) (by simp) ?_; simp -implicitDefEqProofs)
      | (refine aw_cond rfl (fun h => ?_) (fun h => ?_) <;> try (with_reducible first | exact ff_tt h | exact tt_ff h))
      | (refine aw_skip ?_; simp -implicitDefEqProofs)
      | refine aw_block ?_
      | (refine aw_exit ?_; simp -implicitDefEqProofs)
      | refine aw_ret (ret_of (.inr rfl) (by simp [Tryd.results3]; rfl) (Fin.of ?_)))
    all_goals first | rfl | simp [tupOf]
theorem ValueTells_all (a fa b fb : Int) (s : ByteArray) (ha : (Lit.int .i64 a).wf = true) (_ : (Lit.int .i64 fa).wf = true) (hb : (Lit.int .i64 b).wf = true) (_ : (Lit.int .i64 fb).wf = true) (hs : s.size ≤ 140737488351232) :
    APure Tryd.prog 3 [value a fa, value b fb, vs s] (vb true) := valueTells_ok a fa b fb (.of_wf ha) (.of_wf hb) s (by omega)
end Go.AL
