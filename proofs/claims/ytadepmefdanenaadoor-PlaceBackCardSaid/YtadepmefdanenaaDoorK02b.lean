import Derived.Test.YtadepmefdanenaaDoorK02a
import Derived.Test.YtadepmefdanenaaDoorYFloatB
import Derived.Laws.ComplexArith
import Derived.Laws.FloatArith
/-! Contracts: place, by points. -/
namespace Go.AL
open Go.Proofs Go.Proofs.YtadepmefdanenaaDoor
set_option linter.unusedSimpArgs false
set_option linter.unusedVariables false
/-! ### points -/
set_option maxRecDepth 100000 in
theorem of_ok (c r : Int) : APure Tryd.prog 56 [place c r] (.p (.complex .f64 (floatOfInt .f64 c) (floatOfInt .f64 r))) := by
  refine apure_of Tryd.func56 Tryd.ntmps56 rfl ?_
  simp only [List.length_cons, List.length_nil, List.cons_append, List.nil_append, List.replicate]
  repeat' (first
    | refine aw_seq ?_
    | (refine aw_run [] ?_; simp -implicitDefEqProofs)
    | (refine aw_ymix [] draws (by decide +kernel) ?_; simp -implicitDefEqProofs)
    | (refine aw_yrun draws (by kernel_rfl) ?_; simp -implicitDefEqProofs)
    | (refine awl_skip' [] rfl ?_; simp -implicitDefEqProofs)
    | (refine aw_cond rfl (fun h => ?_) (fun h => ?_) <;> try (with_reducible first | exact ff_tt h | exact tt_ff h))
    | (refine aw_skip ?_; simp -implicitDefEqProofs)
    | refine aw_block ?_
    | (refine aw_exit ?_; simp -implicitDefEqProofs)
    | refine aw_ret (ret_of (.inr rfl) (by simp [Tryd.results56]; rfl) (Fin.of ?_)))
  refine awl_conc rfl (.float .f64 (floatOfInt .f64 c)) (fun e w he => by simp [execOp, he (.tmp 4) _ rfl, go_sem]) (awl_run' [] ?_)
  simp -implicitDefEqProofs
  refine awl_conc rfl (.float .f64 (floatOfInt .f64 r)) (fun e w he => by simp [execOp, he (.tmp 7) _ rfl, go_sem]) (awl_run' [] ?_)
  simp -implicitDefEqProofs
  refine awl_conc rfl (.complex .f64 (floatOfInt .f64 c) (floatOfInt .f64 r)) (fun e w he => by simp [execOp, he (.tmp 5) _ rfl, he (.tmp 8) _ rfl, go_sem]) (awl_run' [] ?_)
  simp -implicitDefEqProofs
  repeat' (first
    | refine aw_seq ?_
    | (refine aw_run [] ?_; simp -implicitDefEqProofs)
    | (refine aw_ymix [] draws (by decide +kernel) ?_; simp -implicitDefEqProofs)
    | (refine aw_yrun draws (by kernel_rfl) ?_; simp -implicitDefEqProofs)
    | (refine awl_skip' [] rfl ?_; simp -implicitDefEqProofs)
    | (refine aw_cond rfl (fun h => ?_) (fun h => ?_) <;> try (with_reducible first | exact ff_tt h | exact tt_ff h))
    | (refine aw_skip ?_; simp -implicitDefEqProofs)
    | refine aw_block ?_
    | (refine aw_exit ?_; simp -implicitDefEqProofs)
    | refine aw_ret (ret_of (.inr rfl) (by simp [Tryd.results56]; rfl) (Fin.of ?_)))
  rfl
def negF (y : Nat) : Nat := Op.negFloat .f64 y
set_option maxRecDepth 100000 in
theorem flat_ok (x y : Nat) : APure Tryd.prog 59 [.p (.complex .f64 x y)] (.p (.complex .f64 x (negF y))) := by
  refine apure_of Tryd.func59 Tryd.ntmps59 rfl ?_
  simp only [List.length_cons, List.length_nil, List.cons_append, List.nil_append, List.replicate]
  repeat' (first
    | refine aw_seq ?_
    | (refine aw_run [] ?_; simp -implicitDefEqProofs)
    | (refine aw_ymix [] draws (by decide +kernel) ?_; simp -implicitDefEqProofs)
    | (refine aw_yrun draws (by kernel_rfl) ?_; simp -implicitDefEqProofs)
    | (refine awl_skip' [] rfl ?_; simp -implicitDefEqProofs)
    | (refine aw_cond rfl (fun h => ?_) (fun h => ?_) <;> try (with_reducible first | exact ff_tt h | exact tt_ff h))
    | (refine aw_skip ?_; simp -implicitDefEqProofs)
    | refine aw_block ?_
    | (refine aw_exit ?_; simp -implicitDefEqProofs)
    | refine aw_ret (ret_of (.inr rfl) (by simp [Tryd.results59]; rfl) (Fin.of ?_)))
  refine awl_conc rfl (.float .f64 x) (fun e w he => by simp [execOp, he (.tmp 3) _ rfl, go_sem]) (awl_run' [] ?_)
  simp -implicitDefEqProofs
  refine awl_conc rfl (.float .f64 y) (fun e w he => by simp [execOp, he (.tmp 5) _ rfl, go_sem]) (awl_run' [] ?_)
  simp -implicitDefEqProofs
  refine awl_conc rfl (.float .f64 (negF y)) (fun e w he => by simp only [execOp, he (.tmp 6) _ rfl]; rfl) (awl_run' [] ?_)
  simp -implicitDefEqProofs
  refine awl_conc rfl (.complex .f64 x (negF y)) (fun e w he => by simp [execOp, he (.tmp 4) _ rfl, he (.tmp 7) _ rfl, go_sem]) (awl_run' [] ?_)
  simp -implicitDefEqProofs
  repeat' (first
    | refine aw_seq ?_
    | (refine aw_run [] ?_; simp -implicitDefEqProofs)
    | (refine aw_ymix [] draws (by decide +kernel) ?_; simp -implicitDefEqProofs)
    | (refine aw_yrun draws (by kernel_rfl) ?_; simp -implicitDefEqProofs)
    | (refine awl_skip' [] rfl ?_; simp -implicitDefEqProofs)
    | (refine aw_cond rfl (fun h => ?_) (fun h => ?_) <;> try (with_reducible first | exact ff_tt h | exact tt_ff h))
    | (refine aw_skip ?_; simp -implicitDefEqProofs)
    | refine aw_block ?_
    | (refine aw_exit ?_; simp -implicitDefEqProofs)
    | refine aw_ret (ret_of (.inr rfl) (by simp [Tryd.results59]; rfl) (Fin.of ?_)))
  rfl
def ordF (x y : Nat) : Option Ordering := FloatKind.f64.format.order x y
abbrev f16 : Nat := 4625196817309499392
abbrev f64c : Nat := 4634204016564240384
/-- Is the point at no place? -/
def Off (x y : Nat) : Prop := ordF x 0 = some .lt ∨ ordF x f16 = some .gt ∨ ordF x f16 = some .eq ∨ ordF y 0 = some .lt ∨ ordF y f64c = some .gt ∨ ordF y f64c = some .eq
instance (x y : Nat) : Decidable (Off x y) := by unfold Off; infer_instance
set_option maxRecDepth 100000 in
theorem point_ok (x y : Nat) (c r : Int) (hc : ¬ Off x y → floatToIntVal .f64 x .i64 = some c ∧ floatToIntVal .f64 y .i64 = some r) :
    APure Tryd.prog 57 [.p (.complex .f64 x y)] (.tup [place (z (decide (¬ Off x y)) c) (z (decide (¬ Off x y)) r), vb (decide (¬ Off x y))]) := by
  refine apure_of Tryd.func57 Tryd.ntmps57 rfl ?_
  simp only [List.length_cons, List.length_nil, List.cons_append, List.nil_append, List.replicate]
  repeat' (first
    | refine aw_seq ?_
    | (refine aw_run [2] ?_; simp -implicitDefEqProofs)
    | (refine aw_ymix [2] draws (by decide +kernel) ?_; simp -implicitDefEqProofs)
    | (refine aw_yrun draws (by kernel_rfl) ?_; simp -implicitDefEqProofs)
    | (refine awl_skip' [2] rfl ?_; simp -implicitDefEqProofs)
    | (refine aw_cond rfl (fun h => ?_) (fun h => ?_) <;> try (with_reducible first | exact ff_tt h | exact tt_ff h))
    | (refine aw_skip ?_; simp -implicitDefEqProofs)
    | refine aw_block ?_
    | (refine aw_exit ?_; simp -implicitDefEqProofs)
    | refine aw_ret (ret_of (.inr rfl) (by simp [Tryd.results57]; rfl) (Fin.of ?_)))
  refine awl_conc rfl (.float .f64 x) (fun e w he => by simp [execOp, he (.tmp 6) _ rfl, go_sem]) (awl_run' [] ?_)
  simp -implicitDefEqProofs
  refine awl_conc rfl (.float .f64 y) (fun e w he => by simp [execOp, he (.tmp 8) _ rfl, go_sem]) (awl_run' [] ?_)
  simp -implicitDefEqProofs
  repeat' (first
    | refine aw_seq ?_
    | (refine aw_run [2] ?_; simp -implicitDefEqProofs)
    | (refine aw_ymix [2] draws (by decide +kernel) ?_; simp -implicitDefEqProofs)
    | (refine aw_yrun draws (by kernel_rfl) ?_; simp -implicitDefEqProofs)
    | (refine awl_skip' [2] rfl ?_; simp -implicitDefEqProofs)
    | (refine aw_cond rfl (fun h => ?_) (fun h => ?_) <;> try (with_reducible first | exact ff_tt h | exact tt_ff h))
    | (refine aw_skip ?_; simp -implicitDefEqProofs)
    | refine aw_block ?_
    | (refine aw_exit ?_; simp -implicitDefEqProofs)
    | refine aw_ret (ret_of (.inr rfl) (by simp [Tryd.results57]; rfl) (Fin.of ?_)))
  · have : Off x y := by
      simp at h
      unfold Off ordF
      rcases h with ((h | h | h) | h) | h | h <;> simp [h]
    simp [this, tupOf]
  · have hn : ¬ Off x y := by
      simp at h
      unfold Off ordF
      simp_all
    obtain ⟨h1, h2⟩ := hc hn
    refine awl_conc rfl (.int .i64 c) (fun e w he => by simp only [execOp, he (.tmp 25) _ rfl, Sem.run_bind, run_convert_float_int w 98 3 .f64 .i64 x c (by rw [Tryd.underlying98]; rfl) (Tryd.underlying3) h1, Result.andThen_ok, Sem.run_pure]) (awl_run' [2] ?_)
    simp -implicitDefEqProofs
    refine awl_conc rfl (.int .i64 r) (fun e w he => by simp only [execOp, he (.tmp 27) _ rfl, Sem.run_bind, run_convert_float_int w 98 3 .f64 .i64 y r (by rw [Tryd.underlying98]; rfl) (Tryd.underlying3) h2, Result.andThen_ok, Sem.run_pure]) (awl_run' [2] ?_)
    simp -implicitDefEqProofs
    repeat' (first
      | refine aw_seq ?_
      | (refine aw_run [2] ?_; simp -implicitDefEqProofs)
      | (refine aw_ymix [2] draws (by decide +kernel) ?_; simp -implicitDefEqProofs)
      | (refine aw_yrun draws (by kernel_rfl) ?_; simp -implicitDefEqProofs)
      | (refine awl_skip' [2] rfl ?_; simp -implicitDefEqProofs)
      | (refine aw_cond rfl (fun h => ?_) (fun h => ?_) <;> try (with_reducible first | exact ff_tt h | exact tt_ff h))
      | (refine aw_skip ?_; simp -implicitDefEqProofs)
      | refine aw_block ?_
      | (refine aw_exit ?_; simp -implicitDefEqProofs)
      | refine aw_ret (ret_of (.inr rfl) (by simp [Tryd.results57]; rfl) (Fin.of ?_)))
    simp [hn, tupOf]
def moveP (c r bc br : Int) : Bool := rightP c r && rightP (c + bc) (r + br)
theorem rightP_iff {c r : Int} : rightP c r = true ↔ 0 ≤ c ∧ c < 16 ∧ 0 ≤ r ∧ r < 64 := by simp [rightP, and_assoc]
theorem off_iff {c r bc br : Int} (h : rightP c r = true) (hb : -9223372036854775808 ≤ bc ∧ bc ≤ 9223372036854775807) (hr : -9223372036854775808 ≤ br ∧ br ≤ 9223372036854775807) :
    Off (Flo.S64 c bc) (Flo.S64 r br) ↔ ¬ rightP (c + bc) (r + br) = true := by
  have h := rightP_iff.1 h
  have x0 := Flo.sum_below (a := c) (b := bc) (by omega) hb
  have y0 := Flo.sum_below (a := r) (b := br) (by omega) hr
  rw [rightP_iff]
  unfold Off
  show Flo.ord64 _ _ = _ ∨ Flo.ord64 _ _ = _ ∨ Flo.ord64 _ _ = _ ∨ Flo.ord64 _ _ = _ ∨ Flo.ord64 _ _ = _ ∨ Flo.ord64 _ _ = _ ↔ _
  by_cases c0 : c + bc < 0
  · exact ⟨fun _ => by omega, fun _ => .inl (x0.2 c0)⟩
  · have x1 := Flo.sum_above16 (a := c) (b := bc) (by omega) hb (by omega)
    by_cases r0 : r + br < 0
    · exact ⟨fun _ => by omega, fun _ => .inr (.inr (.inr (.inl (y0.2 r0))))⟩
    · have y1 := Flo.sum_above64 (a := r) (b := br) (by omega) hr (by omega)
      constructor
      · rintro (e | e | e | e | e | e)
        · exact absurd (x0.1 e) c0
        · have := x1.1 (.inl e); omega
        · have := x1.1 (.inr e); omega
        · exact absurd (y0.1 e) r0
        · have := y1.1 (.inl e); omega
        · have := y1.1 (.inr e); omega
      · intro hh
        by_cases q : 16 ≤ c + bc
        · rcases x1.2 q with e | e
          · exact .inr (.inl e)
          · exact .inr (.inr (.inl e))
        · rcases y1.2 (by omega) with e | e
          · exact .inr (.inr (.inr (.inr (.inl e))))
          · exact .inr (.inr (.inr (.inr (.inr e))))
set_option maxRecDepth 100000 in
theorem move_ok (c r bc br : Int) (hb : -9223372036854775808 ≤ bc ∧ bc ≤ 9223372036854775807) (hr : -9223372036854775808 ≤ br ∧ br ≤ 9223372036854775807) :
    APure Tryd.prog 20 [place c r, place bc br] (.tup [place (z (moveP c r bc br) (c + bc)) (z (moveP c r bc br) (r + br)), vb (moveP c r bc br)]) := by
  refine apure_of Tryd.func20 Tryd.ntmps20 rfl ?_
  simp only [List.length_cons, List.length_nil, List.cons_append, List.nil_append, List.replicate]
  repeat' (first
    | refine aw_seq ?_
    | (refine aw_run [4] ?_; simp -implicitDefEqProofs)
    | (refine aw_ymix [4] draws (by decide +kernel) ?_; simp -implicitDefEqProofs)
    | (refine aw_yrun draws (by kernel_rfl) ?_; simp -implicitDefEqProofs)
    | (refine awl_skip' [4] rfl ?_; simp -implicitDefEqProofs)
    | (refine awl_pure_guard [4] rfl rfl rfl (by kernel_rfl) rfl (fun hc => by first | exact right_ok _ _ | exact of_ok _ _) (by simp) (by simp) (by simp) ?_; simp -implicitDefEqProofs)
    | (refine yl_pureG rfl rfl rfl (by kernel_rfl) rfl (fun hc => by first | exact right_ok _ _ | exact of_ok _ _) (by simp) (by simp) (by simp) ?_; simp -implicitDefEqProofs)
    | (refine awl_pure' [4] rfl rfl rfl (by kernel_rfl) rfl (by first | exact right_ok _ _ | exact of_ok _ _) (by simp) (by simp) ?_; simp -implicitDefEqProofs)
    | (refine yl_pure rfl rfl rfl (by kernel_rfl) rfl (by first | exact right_ok _ _ | exact of_ok _ _) (by simp) (by simp) ?_; simp -implicitDefEqProofs)
    | (refine aw_cond rfl (fun h => ?_) (fun h => ?_) <;> try (with_reducible first | exact ff_tt h | exact tt_ff h))
    | (refine aw_skip ?_; simp -implicitDefEqProofs)
    | refine aw_block ?_
    | (refine aw_exit ?_; simp -implicitDefEqProofs)
    | refine aw_ret (ret_of (.inr rfl) (by simp [Tryd.results20]; rfl) (Fin.of ?_)))
  · simp at h
    simp [moveP, h, tupOf]
  · simp at h
    have hR := rightP_iff.1 h
    have s1 := Flo.sum_some (a := c) (b := bc) (by omega) hb
    have s2 := Flo.sum_some (a := r) (b := br) (by omega) hr
    have hadd : ∀ W, (binOp .add 75 (.complex .f64 (floatOfInt .f64 c) (floatOfInt .f64 r)) (.complex .f64 (floatOfInt .f64 bc) (floatOfInt .f64 br))).run Tryd.prog W = .ok (.complex .f64 (Flo.S64 c bc) (Flo.S64 r br)) W :=
      fun W => run_complex_sum W .add (.inl rfl) _ .f64 _ _ _ _ _ _ (by
        unfold cSumBits
        rw [show floatBits .add .f64 (floatOfInt .f64 c) (floatOfInt .f64 bc) = some (Flo.S64 c bc) from s1, show floatBits .add .f64 (floatOfInt .f64 r) (floatOfInt .f64 br) = some (Flo.S64 r br) from s2]
        rfl)
    have ho := off_iff h hb hr
    have hp := point_ok (Flo.S64 c bc) (Flo.S64 r br) (c + bc) (r + br) fun hn => by
      have hl := rightP_iff.1 (Classical.not_not.1 fun hh => hn (ho.2 hh))
      exact ⟨(Flo.sum_small (a := c) (b := bc) (by omega) (by omega)).2.2.2.2, (Flo.sum_small (a := r) (b := br) (by omega) (by omega)).2.2.2.2⟩
    generalize Flo.S64 c bc = x at *
    generalize Flo.S64 r br = y at *
    refine yl_conc rfl (.complex .f64 x y) (fun e w he => by
      have e1 := he (.tmp 11) (by simp [Op.operands]) _ rfl
      have e2 := he (.tmp 13) (by simp [Op.operands]) _ rfl
      simp only [execOp, e1, e2, Sem.run_bind, run_eqGuard (P := Tryd.prog) (op := .add) (t := 75) (x := .tmp 11) (y := .tmp 13) (a := .complex .f64 (floatOfInt .f64 c) (floatOfInt .f64 r)) (b := .complex .f64 (floatOfInt .f64 bc) (floatOfInt .f64 br)) (by intros; contradiction) (by intros; contradiction), hadd, Result.andThen_ok, Sem.run_pure]) ?_
    simp -implicitDefEqProofs
    repeat' (first
      | refine aw_seq ?_
      | (refine aw_run [4] ?_; simp -implicitDefEqProofs)
      | (refine aw_ymix [4] draws (by decide +kernel) ?_; simp -implicitDefEqProofs)
      | (refine aw_yrun draws (by kernel_rfl) ?_; simp -implicitDefEqProofs)
      | (refine awl_skip' [4] rfl ?_; simp -implicitDefEqProofs)
      | (refine awl_pure_guard [4] rfl rfl rfl (by kernel_rfl) rfl (fun hc => by first | exact hp) (by simp) (by simp) (by simp) ?_; simp -implicitDefEqProofs)
      | (refine yl_pureG rfl rfl rfl (by kernel_rfl) rfl (fun hc => by first | exact hp) (by simp) (by simp) (by simp) ?_; simp -implicitDefEqProofs)
      | (refine awl_pure' [4] rfl rfl rfl (by kernel_rfl) rfl (by first | exact hp) (by simp) (by simp) ?_; simp -implicitDefEqProofs)
      | (refine yl_pure rfl rfl rfl (by kernel_rfl) rfl (by first | exact hp) (by simp) (by simp) ?_; simp -implicitDefEqProofs)
      | (refine aw_cond rfl (fun h => ?_) (fun h => ?_) <;> try (with_reducible first | exact ff_tt h | exact tt_ff h))
      | (refine aw_skip ?_; simp -implicitDefEqProofs)
      | refine aw_block ?_
      | (refine aw_exit ?_; simp -implicitDefEqProofs)
      | refine aw_ret (ret_of (.inr rfl) (by simp [Tryd.results20]; rfl) (Fin.of ?_)))
    have e : moveP c r bc br = decide (¬ Off x y) := by
      simp only [moveP, h, Bool.true_and]
      rw [Bool.eq_iff_iff, decide_eq_true_eq, ho, Classical.not_not]
    simp [e, tupOf]
def mirrorP (c r : Int) : Bool := rightP c r && decide (r < 16)
def fineMirror (c r : Nat) : Bool :=
  match cMulBits (floatOfInt .f64 c) (negF (floatOfInt .f64 r)) 0 4607182418800017408 with
  | some (x, y) => if r < 16 then decide (¬ Off x y) && floatToIntVal .f64 x .i64 == some (r : Int) && floatToIntVal .f64 y .i64 == some (c : Int) else decide (Off x y)
  | none => false
theorem fine_mirror : ∀ c : Nat, c < 16 → ∀ r : Nat, r < 64 → fineMirror c r = true := by decide +kernel
set_option maxRecDepth 100000 in
theorem mirror_ok (c r : Int) : APure Tryd.prog 22 [place c r] (.tup [place (z (mirrorP c r) r) (z (mirrorP c r) c), vb (mirrorP c r)]) := by
  refine apure_of Tryd.func22 Tryd.ntmps22 rfl ?_
  simp only [List.length_cons, List.length_nil, List.cons_append, List.nil_append, List.replicate]
  repeat' (first
    | refine aw_seq ?_
    | (refine aw_run [2] ?_; simp -implicitDefEqProofs)
    | (refine aw_ymix [2] draws (by decide +kernel) ?_; simp -implicitDefEqProofs)
    | (refine aw_yrun draws (by kernel_rfl) ?_; simp -implicitDefEqProofs)
    | (refine awl_skip' [2] rfl ?_; simp -implicitDefEqProofs)
    | (refine awl_pure_guard [2] rfl rfl rfl (by kernel_rfl) rfl (fun hc => by first | exact right_ok _ _ | exact of_ok _ _ | exact flat_ok _ _) (by simp) (by simp) (by simp) ?_; simp -implicitDefEqProofs)
    | (refine yl_pureG rfl rfl rfl (by kernel_rfl) rfl (fun hc => by first | exact right_ok _ _ | exact of_ok _ _ | exact flat_ok _ _) (by simp) (by simp) (by simp) ?_; simp -implicitDefEqProofs)
    | (refine awl_pure' [2] rfl rfl rfl (by kernel_rfl) rfl (by first | exact right_ok _ _ | exact of_ok _ _ | exact flat_ok _ _) (by simp) (by simp) ?_; simp -implicitDefEqProofs)
    | (refine yl_pure rfl rfl rfl (by kernel_rfl) rfl (by first | exact right_ok _ _ | exact of_ok _ _ | exact flat_ok _ _) (by simp) (by simp) ?_; simp -implicitDefEqProofs)
    | (refine aw_cond rfl (fun h => ?_) (fun h => ?_) <;> try (with_reducible first | exact ff_tt h | exact tt_ff h))
    | (refine aw_skip ?_; simp -implicitDefEqProofs)
    | refine aw_block ?_
    | (refine aw_exit ?_; simp -implicitDefEqProofs)
    | refine aw_ret (ret_of (.inr rfl) (by simp [Tryd.results22]; rfl) (Fin.of ?_)))
  · simp at h
    simp [mirrorP, h, tupOf]
  · simp at h
    have hR := rightP_iff.1 h
    obtain ⟨c, rfl⟩ := Int.eq_ofNat_of_zero_le hR.1
    obtain ⟨r, rfl⟩ := Int.eq_ofNat_of_zero_le hR.2.2.1
    have hf := fine_mirror c (by omega) r (by omega)
    unfold fineMirror at hf
    split at hf
    · rename_i x y hm
      have hmul : ∀ W, (binOp .mul 75 (.complex .f64 (floatOfInt .f64 c) (negF (floatOfInt .f64 r))) (.complex .f64 0 4607182418800017408)).run Tryd.prog W = .ok (.complex .f64 x y) W :=
        fun W => run_complex_mul W _ _ _ _ _ _ _ hm
      have hp := point_ok x y r c fun hn => by
        split at hf
        · simp at hf; exact ⟨hf.1.2, hf.2⟩
        · simp at hf; exact absurd hf hn
      have e : mirrorP c r = decide (¬ Off x y) := by
        simp only [mirrorP, h, Bool.true_and]
        split at hf
        · simp at hf
          simp [hf.1.1]; omega
        · simp at hf
          simp [hf]; omega
      refine awl_conc rfl (.complex .f64 x y) (fun e w he => by
        have e1 := he (.tmp 10) _ rfl
        simp only [execOp, e1, he (.const (.complex .f64 0 4607182418800017408)) _ rfl, Sem.run_bind, run_eqGuard (P := Tryd.prog) (op := .mul) (t := 75) (x := .tmp 10) (y := .const (.complex .f64 0 4607182418800017408)) (a := .complex .f64 (floatOfInt .f64 c) (negF (floatOfInt .f64 r))) (b := .complex .f64 0 4607182418800017408) (by intros; contradiction) (by intros; contradiction), hmul, Result.andThen_ok, Sem.run_pure]) (awl_run' [2] ?_)
      simp -implicitDefEqProofs
      repeat' (first
        | refine aw_seq ?_
        | (refine aw_run [2] ?_; simp -implicitDefEqProofs)
        | (refine aw_ymix [2] draws (by decide +kernel) ?_; simp -implicitDefEqProofs)
        | (refine aw_yrun draws (by kernel_rfl) ?_; simp -implicitDefEqProofs)
        | (refine awl_skip' [2] rfl ?_; simp -implicitDefEqProofs)
        | (refine awl_pure_guard [2] rfl rfl rfl (by kernel_rfl) rfl (fun hc => by first | exact hp) (by simp) (by simp) (by simp) ?_; simp -implicitDefEqProofs)
        | (refine yl_pureG rfl rfl rfl (by kernel_rfl) rfl (fun hc => by first | exact hp) (by simp) (by simp) (by simp) ?_; simp -implicitDefEqProofs)
        | (refine awl_pure' [2] rfl rfl rfl (by kernel_rfl) rfl (by first | exact hp) (by simp) (by simp) ?_; simp -implicitDefEqProofs)
        | (refine yl_pure rfl rfl rfl (by kernel_rfl) rfl (by first | exact hp) (by simp) (by simp) ?_; simp -implicitDefEqProofs)
        | (refine aw_cond rfl (fun h => ?_) (fun h => ?_) <;> try (with_reducible first | exact ff_tt h | exact tt_ff h))
        | (refine aw_skip ?_; simp -implicitDefEqProofs)
        | refine aw_block ?_
        | (refine aw_exit ?_; simp -implicitDefEqProofs)
        | refine aw_ret (ret_of (.inr rfl) (by simp [Tryd.results22]; rfl) (Fin.of ?_)))
      simp [e, tupOf]
    · cases hf
end Go.AL
