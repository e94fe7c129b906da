import Derived.Test.YtadepmefdanenaaDoorK02q
import Derived.Test.YtadepmefdanenaaDoorK02p
/-! Contracts: gridironlaw02.PlaceBack, PlaceRanges. -/
namespace Go.AL
open Go.Proofs Go.Proofs.YtadepmefdanenaaDoor.Dec Go.Lib
set_option linter.unusedSimpArgs false
set_option linter.unusedVariables false
@[simp high] theorem cl_pls (l : List (Int × Int)) : Cl (.vsl (l.map pl)) := by
  simp [pl]; rintro _ _ _ _ rfl; simp
theorem parse_text {c r : Int} (h : rightP c r = true) : APure Tryd.prog 10 [vs (textP c r)] (.tup [place c r, vi 0]) := by
  have hb := rightP_iff'.1 h
  have e := textP_list h
  have hv : fval 0 (decDigits (r + 1).toNat) = (r + 1).toNat := dec_val _
  have hc : (UInt8.ofNat (65 + c).toNat).toNat = (65 + c).toNat := u8_of _ (by omega)
  have hd := dec_ne (r + 1).toNat
  have hl : (decDigits (r + 1).toNat).length ≤ 2 := dec_len 1 _ (by omega)
  have hf := dec_all (r + 1).toNat
  have hh : ∀ x, (decDigits (r + 1).toNat).head? = some x → x.toNat ≠ 48 := fun x hx => by have := dec_head (r + 1).toNat (by omega) x hx; omega
  have hF : formedP (textP c r) = true := by
    unfold formedP
    rw [e]
    cases hq : decDigits (r + 1).toNat with
    | nil => exact absurd hq hd
    | cons x t =>
      rw [hq] at hl hf hh
      have hx := hh x rfl
      have hf2 : (x :: t).all digitB = true := by
        rw [List.all_eq_true] at hf ⊢
        exact fun y hy => by rw [fig_digit]; exact hf y hy
      simp only [formedL, hf2, Bool.and_true, Bool.and_eq_true, decide_eq_true_eq, Bool.not_eq_true', decide_eq_false_iff_not]
      simp at hl
      rw [hc]
      refine ⟨⟨⟨by omega, by omega⟩, by omega⟩, by omega⟩
  have hfd := findT_yes e hd (by omega) hf hh (by rw [hc, hv]; exact rightP_iff'.2 (by omega))
  rw [hc, hv] at hfd
  have hk := parse_ok (textP c r) (by
    have : (textP c r).size = (textP c r).data.toList.length := by rw [Array.length_toList]; rfl
    rw [this, e]; simp; omega)
  have h1 : parseI (textP c r) = ((r + 1).toNat - 1) * 16 + ((65 + c).toNat - 65) := by rw [parseI, hfd]; rfl
  have h2 : parseB (textP c r) = true := by simp [parseB, hF, hfd]
  have h3 : parseE (textP c r) = 0 := by simp [parseE, hF, hfd]
  have h4 : atC ((parseI (textP c r) : Nat) : Int) = c := by rw [h1, atC_nat (by omega)]; omega
  have h5 : atR ((parseI (textP c r) : Nat) : Int) = r := by rw [h1, atR_nat (by omega)]; omega
  rw [h2, h3, h4, h5] at hk
  exact hk
theorem at_in {c r : Int} (h : rightP c r = true) : APure Tryd.prog 12 [vi (r * 16 + c)] (.tup [place c r, vb true]) := by
  have hb := rightP_iff'.1 h
  have hk := at_ok (r * 16 + c)
  rw [decide_eq_true (show 0 ≤ r * 16 + c ∧ r * 16 + c < 1024 by omega)] at hk
  have h4 : atC (r * 16 + c) = c := by unfold atC; rw [if_pos (by omega)]; omega
  have h5 : atR (r * 16 + c) = r := by unfold atR; rw [if_pos (by omega)]; omega
  rw [h4, h5] at hk
  exact hk
theorem index_in {c r : Int} (h : rightP c r = true) : APure Tryd.prog 18 [place c r] (vi (r * 16 + c)) := by
  have hk := index_ok c r
  rwa [if_pos h] at hk
theorem part_u16 {i : Int} (h : 0 ≤ i ∧ i < 65536) : ∃ c r : Int, rightP c r = true ∧ i.tmod 1024 = r * 16 + c :=
  ⟨i % 1024 % 16, i % 1024 / 16, rightP_iff'.2 (by omega), by rw [Int.tmod_eq_emod_of_nonneg h.1]; omega⟩
set_option maxHeartbeats 4000000 in
set_option maxRecDepth 100000 in
theorem placeBack_ok (i k bc br : Int) (hi : 0 ≤ i ∧ i < 65536) (hk : 0 ≤ k ∧ k < 65536) (hb : In64 bc) (hr : In64 br) :
    APure Tryd.prog 4 [.p (.int .u16 i), place bc br, .p (.int .u16 k)] (vb true) := by
  obtain ⟨c, r, hR, hI⟩ := part_u16 hi
  obtain ⟨d, q, hQ, hK⟩ := part_u16 hk
  have bR := rightP_iff'.1 hR
  have bQ := rightP_iff'.1 hQ
  have wI : IntKind.i64.wrap (r * 16 + c) = r * 16 + c := wrap_id (by omega) (by omega)
  have wK : IntKind.i64.wrap (q * 16 + d) = q * 16 + d := wrap_id (by omega) (by omega)
  have hat1 := at_in hR
  have hat2 := at_in hQ
  have htxt := ptext_ok c r
  have hpar := parse_text hR
  have hidx := index_in hR
  have hspan : APure Tryd.prog 24 [place c r, place d q] (.tup [range (min c d) (min r q) (max c d) (max r q), vb true]) := by
    have := span_ok c r d q
    rwa [show spanP c r d q = true by simp [spanP, hR, hQ]] at this
  obtain ⟨x1, e1⟩ : ∃ x, x = min c d := ⟨_, rfl⟩
  obtain ⟨y1, e2⟩ : ∃ x, x = min r q := ⟨_, rfl⟩
  obtain ⟨x2, e3⟩ : ∃ x, x = max c d := ⟨_, rfl⟩
  obtain ⟨y2, e4⟩ : ∃ x, x = max r q := ⟨_, rfl⟩
  rw [← e1, ← e2, ← e3, ← e4] at hspan
  have hW : wholeP x1 y1 x2 y2 = true := whole_iff.2 (by omega)
  have hh1 : APure Tryd.prog 25 [range x1 y1 x2 y2, place c r] (vb true) := by
    have := has_ok x1 y1 x2 y2 c r
    rwa [show hasP x1 y1 x2 y2 c r = true by simp only [hasP, hW, withinP, Bool.true_and, Bool.and_eq_true, decide_eq_true_eq]; omega] at this
  have hh2 : APure Tryd.prog 25 [range x1 y1 x2 y2, place d q] (vb true) := by
    have := has_ok x1 y1 x2 y2 d q
    rwa [show hasP x1 y1 x2 y2 d q = true by simp only [hasP, hW, withinP, Bool.true_and, Bool.and_eq_true, decide_eq_true_eq]; omega] at this
  have hcel := cells_ok x1 y1 x2 y2
  have hlen : ((gridL x1 y1 x2 y2).length : Int) = (x2 - x1 + 1) * (y2 - y1 + 1) := by
    rw [gridL, if_pos hW, gridN_len, Int.natCast_mul, Int.toNat_of_nonneg (by omega), Int.toNat_of_nonneg (by omega), Int.mul_comm]
  have w1 : IntKind.i64.wrap (x2 - x1) = x2 - x1 := wrap_id (by omega) (by omega)
  have w2 : IntKind.i64.wrap (y2 - y1) = y2 - y1 := wrap_id (by omega) (by omega)
  have w3 : IntKind.i64.wrap (x2 - x1 + 1) = x2 - x1 + 1 := wrap_id (by omega) (by omega)
  have w4 : IntKind.i64.wrap (y2 - y1 + 1) = y2 - y1 + 1 := wrap_id (by omega) (by omega)
  have w5 : IntKind.i64.wrap ((x2 - x1 + 1) * (y2 - y1 + 1)) = (x2 - x1 + 1) * (y2 - y1 + 1) := by
    have h1 : (x2 - x1 + 1) * (y2 - y1 + 1) ≤ 16 * 64 := Int.mul_le_mul (by omega) (by omega) (by omega) (by omega)
    have h2 : 0 ≤ (x2 - x1 + 1) * (y2 - y1 + 1) := Int.mul_nonneg (by omega) (by omega)
    exact wrap_id (by omega) (by omega)
  clear e1 e2 e3 e4
  generalize gridL x1 y1 x2 y2 = L at *
  have hmv := move_ok c r bc br hb hr
  have hmi := mirror_ok c r
  have hmi2 := mirror_ok r c
  have hmi3 := mirror_ok 0 0
  by_cases h16 : r < 16
  · rw [show mirrorP c r = true by simp [mirrorP, hR, h16]] at hmi
    rw [show mirrorP r c = true by simp [mirrorP, rightP]; omega] at hmi2
    simp only [z_true] at hmi hmi2
    cases hm : moveP c r bc br with
    | true =>
      have hm2 : rightP (c + bc) (r + br) = true := by simp [moveP] at hm; exact hm.2
      have bM := rightP_iff'.1 hm2
      have v1 : IntKind.i64.wrap (-bc) = -bc := wrap_id (by omega) (by omega)
      have v2 : IntKind.i64.wrap (-br) = -br := wrap_id (by omega) (by omega)
      have v3 : IntKind.i64.wrap bc = bc := wrap_id (by omega) (by omega)
      have v4 : IntKind.i64.wrap br = br := wrap_id (by omega) (by omega)
      have v5 : c + bc - c = bc := by omega
      have v6 : r + br - r = br := by omega
      have hbk := move_ok (c + bc) (r + br) (-bc) (-br) (by unfold In64 at *; omega) (by unfold In64 at *; omega)
      rw [show c + bc + -bc = c by omega, show r + br + -br = r by omega, show moveP (c + bc) (r + br) (-bc) (-br) = true by simp only [moveP, hm2, Bool.true_and]; rw [show c + bc + -bc = c by omega, show r + br + -br = r by omega]; exact hR] at hbk
      rw [hm] at hmv
      simp only [z_true] at hmv hbk
      refine apure_of Tryd.func4 Tryd.ntmps4 rfl ?_
      simp only [List.length_cons, List.length_nil, List.cons_append, List.nil_append, List.replicate]
      repeat' (first
        | refine aw_seq ?_
        | (refine aw_run [7, 9, 11, 13, 15, 17, 19, 21] ?_; simp -implicitDefEqProofs [hI, hK, wI, wK, v1, v2, v3, v4, v5, v6, w1, w2, w3, w4, w5, hlen, h16])
        | (refine aw_ymix [7, 9, 11, 13, 15, 17, 19, 21] draws (by decide +kernel) ?_; simp -implicitDefEqProofs [hI, hK, wI, wK, v1, v2, v3, v4, v5, v6, w1, w2, w3, w4, w5, hlen, h16])
        | (refine aw_yrun draws (by kernel_rfl) ?_; simp -implicitDefEqProofs [hI, hK, wI, wK, v1, v2, v3, v4, v5, v6, w1, w2, w3, w4, w5, hlen, h16])
        | (refine awl_skip' [7, 9, 11, 13, 15, 17, 19, 21] rfl ?_; simp -implicitDefEqProofs [hI, hK, wI, wK, v1, v2, v3, v4, v5, v6, w1, w2, w3, w4, w5, hlen, h16])
        | (refine awl_pure_guard [7, 9, 11, 13, 15, 17, 19, 21] rfl rfl rfl (by kernel_rfl) rfl (fun hc => by first | exact alive2_ok | exact hat1 | exact hat2 | exact htxt | exact hpar | exact hidx | exact hmv | exact hbk | exact hmi | exact hmi2 | exact hspan | exact hh1 | exact hh2 | exact hcel) (by simp) (by simp) (by simp) ?_; simp -implicitDefEqProofs [hI, hK, wI, wK, v1, v2, v3, v4, v5, v6, w1, w2, w3, w4, w5, hlen, h16])
        | (refine yl_pureG rfl rfl rfl (by kernel_rfl) rfl (fun hc => by first | exact alive2_ok | exact hat1 | exact hat2 | exact htxt | exact hpar | exact hidx | exact hmv | exact hbk | exact hmi | exact hmi2 | exact hspan | exact hh1 | exact hh2 | exact hcel) (by simp) (by simp) (by simp) ?_; simp -implicitDefEqProofs [hI, hK, wI, wK, v1, v2, v3, v4, v5, v6, w1, w2, w3, w4, w5, hlen, h16])
        | (refine awl_pure' [7, 9, 11, 13, 15, 17, 19, 21] rfl rfl rfl (by kernel_rfl) rfl (by first | exact alive2_ok | exact hat1 | exact hat2 | exact htxt | exact hpar | exact hidx | exact hmv | exact hbk | exact hmi | exact hmi2 | exact hspan | exact hh1 | exact hh2 | exact hcel) (by simp) (by simp) ?_; simp -implicitDefEqProofs [hI, hK, wI, wK, v1, v2, v3, v4, v5, v6, w1, w2, w3, w4, w5, hlen, h16])
        | (refine yl_pure rfl rfl rfl (by kernel_rfl) rfl (by first | exact alive2_ok | exact hat1 | exact hat2 | exact htxt | exact hpar | exact hidx | exact hmv | exact hbk | exact hmi | exact hmi2 | exact hspan | exact hh1 | exact hh2 | exact hcel) (by simp) (by simp) ?_; simp -implicitDefEqProofs [hI, hK, wI, wK, v1, v2, v3, v4, v5, v6, w1, w2, w3, w4, w5, hlen, h16])
        | (refine aw_cond rfl (fun h => ?_) (fun h => ?_) <;> try (with_reducible first | exact ff_tt h | exact tt_ff h))
        | (refine aw_skip ?_; simp -implicitDefEqProofs [hI, hK, wI, wK, v1, v2, v3, v4, v5, v6, w1, w2, w3, w4, w5, hlen, h16])
        | refine aw_block ?_
        | (refine aw_exit ?_; simp -implicitDefEqProofs [hI, hK, wI, wK, v1, v2, v3, v4, v5, v6, w1, w2, w3, w4, w5, hlen, h16])
        | refine aw_ret (ret_of (.inr rfl) (by simp [Tryd.results4]; rfl) (Fin.of ?_)))
      all_goals simp [tupOf]
    | false =>
      rw [hm] at hmv
      simp only [z_false] at hmv
      refine apure_of Tryd.func4 Tryd.ntmps4 rfl ?_
      simp only [List.length_cons, List.length_nil, List.cons_append, List.nil_append, List.replicate]
      repeat' (first
        | refine aw_seq ?_
        | (refine aw_run [7, 9, 11, 13, 15, 17, 19, 21] ?_; simp -implicitDefEqProofs [hI, hK, wI, wK, w1, w2, w3, w4, w5, hlen, h16])
        | (refine aw_ymix [7, 9, 11, 13, 15, 17, 19, 21] draws (by decide +kernel) ?_; simp -implicitDefEqProofs [hI, hK, wI, wK, w1, w2, w3, w4, w5, hlen, h16])
        | (refine aw_yrun draws (by kernel_rfl) ?_; simp -implicitDefEqProofs [hI, hK, wI, wK, w1, w2, w3, w4, w5, hlen, h16])
        | (refine awl_skip' [7, 9, 11, 13, 15, 17, 19, 21] rfl ?_; simp -implicitDefEqProofs [hI, hK, wI, wK, w1, w2, w3, w4, w5, hlen, h16])
        | (refine awl_pure_guard [7, 9, 11, 13, 15, 17, 19, 21] rfl rfl rfl (by kernel_rfl) rfl (fun hc => by first | exact alive2_ok | exact hat1 | exact hat2 | exact htxt | exact hpar | exact hidx | exact hmv | exact hmi | exact hmi2 | exact hspan | exact hh1 | exact hh2 | exact hcel) (by simp) (by simp) (by simp) ?_; simp -implicitDefEqProofs [hI, hK, wI, wK, w1, w2, w3, w4, w5, hlen, h16])
        | (refine yl_pureG rfl rfl rfl (by kernel_rfl) rfl (fun hc => by first | exact alive2_ok | exact hat1 | exact hat2 | exact htxt | exact hpar | exact hidx | exact hmv | exact hmi | exact hmi2 | exact hspan | exact hh1 | exact hh2 | exact hcel) (by simp) (by simp) (by simp) ?_; simp -implicitDefEqProofs [hI, hK, wI, wK, w1, w2, w3, w4, w5, hlen, h16])
        | (refine awl_pure' [7, 9, 11, 13, 15, 17, 19, 21] rfl rfl rfl (by kernel_rfl) rfl (by first | exact alive2_ok | exact hat1 | exact hat2 | exact htxt | exact hpar | exact hidx | exact hmv | exact hmi | exact hmi2 | exact hspan | exact hh1 | exact hh2 | exact hcel) (by simp) (by simp) ?_; simp -implicitDefEqProofs [hI, hK, wI, wK, w1, w2, w3, w4, w5, hlen, h16])
        | (refine yl_pure rfl rfl rfl (by kernel_rfl) rfl (by first | exact alive2_ok | exact hat1 | exact hat2 | exact htxt | exact hpar | exact hidx | exact hmv | exact hmi | exact hmi2 | exact hspan | exact hh1 | exact hh2 | exact hcel) (by simp) (by simp) ?_; simp -implicitDefEqProofs [hI, hK, wI, wK, w1, w2, w3, w4, w5, hlen, h16])
        | (refine aw_cond rfl (fun h => ?_) (fun h => ?_) <;> try (with_reducible first | exact ff_tt h | exact tt_ff h))
        | (refine aw_skip ?_; simp -implicitDefEqProofs [hI, hK, wI, wK, w1, w2, w3, w4, w5, hlen, h16])
        | refine aw_block ?_
        | (refine aw_exit ?_; simp -implicitDefEqProofs [hI, hK, wI, wK, w1, w2, w3, w4, w5, hlen, h16])
        | refine aw_ret (ret_of (.inr rfl) (by simp [Tryd.results4]; rfl) (Fin.of ?_)))
      all_goals simp [tupOf]
  · rw [show mirrorP c r = false by simp [mirrorP, hR]; omega] at hmi
    rw [show mirrorP 0 0 = true from rfl] at hmi3
    simp only [z_true, z_false] at hmi hmi3
    cases hm : moveP c r bc br with
    | true =>
      have hm2 : rightP (c + bc) (r + br) = true := by simp [moveP] at hm; exact hm.2
      have bM := rightP_iff'.1 hm2
      have v1 : IntKind.i64.wrap (-bc) = -bc := wrap_id (by omega) (by omega)
      have v2 : IntKind.i64.wrap (-br) = -br := wrap_id (by omega) (by omega)
      have v3 : IntKind.i64.wrap bc = bc := wrap_id (by omega) (by omega)
      have v4 : IntKind.i64.wrap br = br := wrap_id (by omega) (by omega)
      have v5 : c + bc - c = bc := by omega
      have v6 : r + br - r = br := by omega
      have hbk := move_ok (c + bc) (r + br) (-bc) (-br) (by unfold In64 at *; omega) (by unfold In64 at *; omega)
      rw [show c + bc + -bc = c by omega, show r + br + -br = r by omega, show moveP (c + bc) (r + br) (-bc) (-br) = true by simp only [moveP, hm2, Bool.true_and]; rw [show c + bc + -bc = c by omega, show r + br + -br = r by omega]; exact hR] at hbk
      rw [hm] at hmv
      simp only [z_true] at hmv hbk
      refine apure_of Tryd.func4 Tryd.ntmps4 rfl ?_
      simp only [List.length_cons, List.length_nil, List.cons_append, List.nil_append, List.replicate]
      repeat' (first
        | refine aw_seq ?_
        | (refine aw_run [7, 9, 11, 13, 15, 17, 19, 21] ?_; simp -implicitDefEqProofs [hI, hK, wI, wK, v1, v2, v3, v4, v5, v6, w1, w2, w3, w4, w5, hlen, h16])
        | (refine aw_ymix [7, 9, 11, 13, 15, 17, 19, 21] draws (by decide +kernel) ?_; simp -implicitDefEqProofs [hI, hK, wI, wK, v1, v2, v3, v4, v5, v6, w1, w2, w3, w4, w5, hlen, h16])
        | (refine aw_yrun draws (by kernel_rfl) ?_; simp -implicitDefEqProofs [hI, hK, wI, wK, v1, v2, v3, v4, v5, v6, w1, w2, w3, w4, w5, hlen, h16])
        | (refine awl_skip' [7, 9, 11, 13, 15, 17, 19, 21] rfl ?_; simp -implicitDefEqProofs [hI, hK, wI, wK, v1, v2, v3, v4, v5, v6, w1, w2, w3, w4, w5, hlen, h16])
        | (refine awl_pure_guard [7, 9, 11, 13, 15, 17, 19, 21] rfl rfl rfl (by kernel_rfl) rfl (fun hc => by first | exact alive2_ok | exact hat1 | exact hat2 | exact htxt | exact hpar | exact hidx | exact hmv | exact hbk | exact hmi | exact hmi3 | exact hspan | exact hh1 | exact hh2 | exact hcel) (by simp) (by simp) (by simp) ?_; simp -implicitDefEqProofs [hI, hK, wI, wK, v1, v2, v3, v4, v5, v6, w1, w2, w3, w4, w5, hlen, h16])
        | (refine yl_pureG rfl rfl rfl (by kernel_rfl) rfl (fun hc => by first | exact alive2_ok | exact hat1 | exact hat2 | exact htxt | exact hpar | exact hidx | exact hmv | exact hbk | exact hmi | exact hmi3 | exact hspan | exact hh1 | exact hh2 | exact hcel) (by simp) (by simp) (by simp) ?_; simp -implicitDefEqProofs [hI, hK, wI, wK, v1, v2, v3, v4, v5, v6, w1, w2, w3, w4, w5, hlen, h16])
        | (refine awl_pure' [7, 9, 11, 13, 15, 17, 19, 21] rfl rfl rfl (by kernel_rfl) rfl (by first | exact alive2_ok | exact hat1 | exact hat2 | exact htxt | exact hpar | exact hidx | exact hmv | exact hbk | exact hmi | exact hmi3 | exact hspan | exact hh1 | exact hh2 | exact hcel) (by simp) (by simp) ?_; simp -implicitDefEqProofs [hI, hK, wI, wK, v1, v2, v3, v4, v5, v6, w1, w2, w3, w4, w5, hlen, h16])
        | (refine yl_pure rfl rfl rfl (by kernel_rfl) rfl (by first | exact alive2_ok | exact hat1 | exact hat2 | exact htxt | exact hpar | exact hidx | exact hmv | exact hbk | exact hmi | exact hmi3 | exact hspan | exact hh1 | exact hh2 | exact hcel) (by simp) (by simp) ?_; simp -implicitDefEqProofs [hI, hK, wI, wK, v1, v2, v3, v4, v5, v6, w1, w2, w3, w4, w5, hlen, h16])
        | (refine aw_cond rfl (fun h => ?_) (fun h => ?_) <;> try (with_reducible first | exact ff_tt h | exact tt_ff h))
        | (refine aw_skip ?_; simp -implicitDefEqProofs [hI, hK, wI, wK, v1, v2, v3, v4, v5, v6, w1, w2, w3, w4, w5, hlen, h16])
        | refine aw_block ?_
        | (refine aw_exit ?_; simp -implicitDefEqProofs [hI, hK, wI, wK, v1, v2, v3, v4, v5, v6, w1, w2, w3, w4, w5, hlen, h16])
        | refine aw_ret (ret_of (.inr rfl) (by simp [Tryd.results4]; rfl) (Fin.of ?_)))
      all_goals simp [tupOf]
    | false =>
      rw [hm] at hmv
      simp only [z_false] at hmv
      refine apure_of Tryd.func4 Tryd.ntmps4 rfl ?_
      simp only [List.length_cons, List.length_nil, List.cons_append, List.nil_append, List.replicate]
      repeat' (first
        | refine aw_seq ?_
        | (refine aw_run [7, 9, 11, 13, 15, 17, 19, 21] ?_; simp -implicitDefEqProofs [hI, hK, wI, wK, w1, w2, w3, w4, w5, hlen, h16])
        | (refine aw_ymix [7, 9, 11, 13, 15, 17, 19, 21] draws (by decide +kernel) ?_; simp -implicitDefEqProofs [hI, hK, wI, wK, w1, w2, w3, w4, w5, hlen, h16])
        | (refine aw_yrun draws (by kernel_rfl) ?_; simp -implicitDefEqProofs [hI, hK, wI, wK, w1, w2, w3, w4, w5, hlen, h16])
        | (refine awl_skip' [7, 9, 11, 13, 15, 17, 19, 21] rfl ?_; simp -implicitDefEqProofs [hI, hK, wI, wK, w1, w2, w3, w4, w5, hlen, h16])
        | (refine awl_pure_guard [7, 9, 11, 13, 15, 17, 19, 21] rfl rfl rfl (by kernel_rfl) rfl (fun hc => by first | exact alive2_ok | exact hat1 | exact hat2 | exact htxt | exact hpar | exact hidx | exact hmv | exact hmi | exact hmi3 | exact hspan | exact hh1 | exact hh2 | exact hcel) (by simp) (by simp) (by simp) ?_; simp -implicitDefEqProofs [hI, hK, wI, wK, w1, w2, w3, w4, w5, hlen, h16])
        | (refine yl_pureG rfl rfl rfl (by kernel_rfl) rfl (fun hc => by first | exact alive2_ok | exact hat1 | exact hat2 | exact htxt | exact hpar | exact hidx | exact hmv | exact hmi | exact hmi3 | exact hspan | exact hh1 | exact hh2 | exact hcel) (by simp) (by simp) (by simp) ?_; simp -implicitDefEqProofs [hI, hK, wI, wK, w1, w2, w3, w4, w5, hlen, h16])
        | (refine awl_pure' [7, 9, 11, 13, 15, 17, 19, 21] rfl rfl rfl (by kernel_rfl) rfl (by first | exact alive2_ok | exact hat1 | exact hat2 | exact htxt | exact hpar | exact hidx | exact hmv | exact hmi | exact hmi3 | exact hspan | exact hh1 | exact hh2 | exact hcel) (by simp) (by simp) ?_; simp -implicitDefEqProofs [hI, hK, wI, wK, w1, w2, w3, w4, w5, hlen, h16])
        | (refine yl_pure rfl rfl rfl (by kernel_rfl) rfl (by first | exact alive2_ok | exact hat1 | exact hat2 | exact htxt | exact hpar | exact hidx | exact hmv | exact hmi | exact hmi3 | exact hspan | exact hh1 | exact hh2 | exact hcel) (by simp) (by simp) ?_; simp -implicitDefEqProofs [hI, hK, wI, wK, w1, w2, w3, w4, w5, hlen, h16])
        | (refine aw_cond rfl (fun h => ?_) (fun h => ?_) <;> try (with_reducible first | exact ff_tt h | exact tt_ff h))
        | (refine aw_skip ?_; simp -implicitDefEqProofs [hI, hK, wI, wK, w1, w2, w3, w4, w5, hlen, h16])
        | refine aw_block ?_
        | (refine aw_exit ?_; simp -implicitDefEqProofs [hI, hK, wI, wK, w1, w2, w3, w4, w5, hlen, h16])
        | refine aw_ret (ret_of (.inr rfl) (by simp [Tryd.results4]; rfl) (Fin.of ?_)))
      all_goals simp [tupOf]
set_option maxHeartbeats 4000000 in
set_option maxRecDepth 100000 in
theorem placeRanges_ok (a b c d e f g h x y : Int) : APure Tryd.prog 5 [range a b c d, range e f g h, place x y] (vb true) := by
  have hc1 := cells_ok a b c d
  have hc2 := rcells_ok a b c d
  have hrm := rmeet_ok a b c d e f g h
  rw [meet_law] at hrm
  rw [cellsL_eq] at hc2
  have hL : (gridL a b c d).length ≤ 1024 := by rw [← cellsL_eq]; exact cellsN_len a b c d 1024
  have hs := rsame_ok (gridL a b c d) (gridL a b c d) (by omega)
  rw [decide_eq_true rfl] at hs
  generalize gridL a b c d = L at *
  refine apure_of Tryd.func5 Tryd.ntmps5 rfl ?_
  simp only [List.length_cons, List.length_nil, List.cons_append, List.nil_append, List.replicate]
  repeat' (first
    | refine aw_seq ?_
    | (refine aw_run [7, 9, 11, 13] ?_; simp -implicitDefEqProofs)
    | (refine aw_ymix [7, 9, 11, 13] draws (by decide +kernel) ?_; simp -implicitDefEqProofs)
    | (refine aw_yrun draws (by kernel_rfl) ?_; simp -implicitDefEqProofs)
    | (refine awl_skip' [7, 9, 11, 13] rfl ?_; simp -implicitDefEqProofs)
    | (refine awl_pure_guard [7, 9, 11, 13] rfl rfl rfl (by kernel_rfl) rfl (fun hc => by first | exact alive2_ok | exact span_ok a b g h | exact rspan_ok a b g h | exact meet_ok a b c d e f g h | exact hrm | exact hc1 | exact hc2 | exact hs | exact whole_ok _ _ _ _ | exact rwhole_ok _ _ _ _ | exact has_ok _ _ _ _ _ _ | exact rhas_ok _ _ _ _ _ _) (by simp) (by simp) (by simp) ?_; simp -implicitDefEqProofs)
    | (refine yl_pureG rfl rfl rfl (by kernel_rfl) rfl (fun hc => by first | exact alive2_ok | exact span_ok a b g h | exact rspan_ok a b g h | exact meet_ok a b c d e f g h | exact hrm | exact hc1 | exact hc2 | exact hs | exact whole_ok _ _ _ _ | exact rwhole_ok _ _ _ _ | exact has_ok _ _ _ _ _ _ | exact rhas_ok _ _ _ _ _ _) (by simp) (by simp) (by simp) ?_; simp -implicitDefEqProofs)
    | (refine awl_pure' [7, 9, 11, 13] rfl rfl rfl (by kernel_rfl) rfl (by first | exact alive2_ok | exact span_ok a b g h | exact rspan_ok a b g h | exact meet_ok a b c d e f g h | exact hrm | exact hc1 | exact hc2 | exact hs | exact whole_ok _ _ _ _ | exact rwhole_ok _ _ _ _ | exact has_ok _ _ _ _ _ _ | exact rhas_ok _ _ _ _ _ _) (by simp) (by simp) ?_; simp -implicitDefEqProofs)
    | (refine yl_pure rfl rfl rfl (by kernel_rfl) rfl (by first | exact alive2_ok | exact span_ok a b g h | exact rspan_ok a b g h | exact meet_ok a b c d e f g h | exact hrm | exact hc1 | exact hc2 | exact hs | exact whole_ok _ _ _ _ | exact rwhole_ok _ _ _ _ | exact has_ok _ _ _ _ _ _ | exact rhas_ok _ _ _ _ _ _) (by simp) (by simp) ?_; simp -implicitDefEqProofs)
    | (refine aw_cond rfl (fun h => ?_) (fun h => ?_) <;> try (with_reducible first | exact ff_tt h | exact tt_ff h))
    | (refine aw_skip ?_; simp -implicitDefEqProofs)
    | refine aw_block ?_
    | (refine aw_exit ?_; simp -implicitDefEqProofs)
    | refine aw_ret (ret_of (.inr rfl) (by simp [Tryd.results5]; rfl) (Fin.of ?_)))
  all_goals simp [tupOf]
theorem u16_wf {a : Int} (h : (Lit.int .u16 a).wf = true) : 0 ≤ a ∧ a < 65536 := by
  simp [Lit.wf, IntKind.min, IntKind.max, IntKind.signed, IntKind.bits] at h
  omega
theorem PlaceBack_all (i bc br k : Int) (hi : (Lit.int .u16 i).wf = true) (hb : (Lit.int .i64 bc).wf = true) (hr : (Lit.int .i64 br).wf = true) (hk : (Lit.int .u16 k).wf = true) :
    APure Tryd.prog 4 [.p (.int .u16 i), place bc br, .p (.int .u16 k)] (vb true) := placeBack_ok i k bc br (u16_wf hi) (u16_wf hk) (.of_wf hb) (.of_wf hr)
theorem PlaceRanges_all (a b c d e f g h x y : Int) (_ : (Lit.int .i64 a).wf = true) (_ : (Lit.int .i64 b).wf = true) (_ : (Lit.int .i64 c).wf = true) (_ : (Lit.int .i64 d).wf = true) (_ : (Lit.int .i64 e).wf = true) (_ : (Lit.int .i64 f).wf = true)
    (_ : (Lit.int .i64 g).wf = true) (_ : (Lit.int .i64 h).wf = true) (_ : (Lit.int .i64 x).wf = true) (_ : (Lit.int .i64 y).wf = true) :
    APure Tryd.prog 5 [range a b c d, range e f g h, place x y] (vb true) := placeRanges_ok a b c d e f g h x y
end Go.AL
