-- Written by a program of this work (wip/gp) out of the translation. Not trusted: Lean checks it.
import Derived.Test.YtagajnfmfpihmaaDoorG0
import Derived.Test.YtagajnfmfpihmaaDoorGGridironlaw01Alive
import Derived.Test.YtagajnfmfpihmaaDoorGNumAdd
import Derived.Test.YtagajnfmfpihmaaDoorGNumDiv
import Derived.Test.YtagajnfmfpihmaaDoorGNumMul
import Derived.Test.YtagajnfmfpihmaaDoorGNumSub
namespace Go.Proofs.YtagajnfmfpihmaaDoor.G
open Go.RowKit Go.Proofs.YtagajnfmfpihmaaDoorW.PrintWords Go.Proofs.YtagajnfmfpihmaaDoorW.PrintLast Go.Proofs.YtagajnfmfpihmaaDoorW.PrintMore
attribute [local go_sem] max2_int min2_int max_two min_two max_three min_three max_four min_four
set_option linter.unusedVariables false
set_option linter.unusedSimpArgs false

/-! ### gridironlaw01_NumBack: function 5 -/
mutual
def gridironlaw01_NumBack.j0 : Nat → Int → Int → Bool → Option (Bool)
  | 0, _, _, _ => none
  | k + 1, x0, x1, x61 => if x61 = true then (some false) else ((num_Mul.f k x0 x1).bind fun bt237 => ((num_Mul.f k x1 x0).bind fun bt239 => ((num_Div.f k bt237.1 x1).bind fun bt241 => (if bt237.1 = bt239.1 then (if (bt237.2 != bt239.2) = true then (gridironlaw01_NumBack.j1 k x0 x1 true) else (if bt237.2 = true then (if x1 = 0 then (gridironlaw01_NumBack.j1 k x0 x1 false) else (if bt241.2 = true then (gridironlaw01_NumBack.j1 k x0 x1 (bt241.1 != x0)) else (gridironlaw01_NumBack.j1 k x0 x1 true))) else (gridironlaw01_NumBack.j1 k x0 x1 false))) else (gridironlaw01_NumBack.j1 k x0 x1 true)))))
def gridironlaw01_NumBack.j1 : Nat → Int → Int → Bool → Option (Bool)
  | 0, _, _, _ => none
  | k + 1, x0, x1, x103 => if x103 = true then (some false) else ((num_Div.f k x0 x1).bind fun bt243 => (if bt243.2 = true then ((num_Mul.f k bt243.1 x1).bind fun bt246 => ((num_Sub.f k x0 bt246.1).bind fun bt248 => (if bt246.2 = true then (if bt248.2 = true then (if bt248.1 = 0 then (gridironlaw01_NumBack.j2 k x1 bt248.1 false) else (gridironlaw01_NumBack.j2 k x1 bt248.1 ((decide (bt248.1 < 0)) != (decide (x0 < 0))))) else (gridironlaw01_NumBack.j2 k x1 bt248.1 true)) else (gridironlaw01_NumBack.j2 k x1 bt248.1 true)))) else ((gridironlaw01_alive.f k).bind fun t245 => (if t245 = true then (if x1 = 0 then (some true) else (some (x1 == (-1)))) else (some false)))))
def gridironlaw01_NumBack.j2 : Nat → Int → Int → Bool → Option (Bool)
  | 0, _, _, _ => none
  | k + 1, x1, x21, x149 => if x149 = true then (some false) else (if x1 > 0 then (if x21 < x1 then (if x21 > (wrap64 (-x1)) then (gridironlaw01_NumBack.j3 k true) else (if x1 < 0 then (if x21 > x1 then (if x21 ≤ 0 then (gridironlaw01_NumBack.j3 k true) else (gridironlaw01_NumBack.j3 k (decide ((wrap64 (-x21)) > x1)))) else (gridironlaw01_NumBack.j3 k false)) else (gridironlaw01_NumBack.j3 k false))) else (if x1 < 0 then (if x21 > x1 then (if x21 ≤ 0 then (gridironlaw01_NumBack.j3 k true) else (gridironlaw01_NumBack.j3 k (decide ((wrap64 (-x21)) > x1)))) else (gridironlaw01_NumBack.j3 k false)) else (gridironlaw01_NumBack.j3 k false))) else (if x1 < 0 then (if x21 > x1 then (if x21 ≤ 0 then (gridironlaw01_NumBack.j3 k true) else (gridironlaw01_NumBack.j3 k (decide ((wrap64 (-x21)) > x1)))) else (gridironlaw01_NumBack.j3 k false)) else (gridironlaw01_NumBack.j3 k false)))
def gridironlaw01_NumBack.j3 : Nat → Bool → Option (Bool)
  | 0, _ => none
  | k + 1, x23 => (gridironlaw01_alive.f k).bind fun t250 => (if t250 = true then (some x23) else (some false))
end
def gridironlaw01_NumBack.f (k : Nat) (a0 : Int) (a1 : Int) : Option (Bool) := (num_Add.f k a0 a1).bind fun bt231 => ((num_Add.f k a1 a0).bind fun bt233 => ((num_Sub.f k bt231.1 a1).bind fun bt235 => (if bt231.1 = bt233.1 then (if (bt231.2 != bt233.2) = true then (gridironlaw01_NumBack.j0 k a0 a1 true) else (if bt231.2 = true then (if bt235.2 = true then (gridironlaw01_NumBack.j0 k a0 a1 (bt235.1 != a0)) else (gridironlaw01_NumBack.j0 k a0 a1 true)) else (gridironlaw01_NumBack.j0 k a0 a1 false))) else (gridironlaw01_NumBack.j0 k a0 a1 true))))
theorem gridironlaw01_NumBack.mono_l : ∀ k, (∀ y0 y1 y2, LeO (gridironlaw01_NumBack.j0 k y0 y1 y2) (gridironlaw01_NumBack.j0 (k + 1) y0 y1 y2)) ∧ (∀ y0 y1 y2, LeO (gridironlaw01_NumBack.j1 k y0 y1 y2) (gridironlaw01_NumBack.j1 (k + 1) y0 y1 y2)) ∧ (∀ y0 y1 y2, LeO (gridironlaw01_NumBack.j2 k y0 y1 y2) (gridironlaw01_NumBack.j2 (k + 1) y0 y1 y2)) ∧ (∀ y0, LeO (gridironlaw01_NumBack.j3 k y0) (gridironlaw01_NumBack.j3 (k + 1) y0))
  | 0 => ⟨fun _ _ _ r h => by simp [gridironlaw01_NumBack.j0] at h, fun _ _ _ r h => by simp [gridironlaw01_NumBack.j1] at h, fun _ _ _ r h => by simp [gridironlaw01_NumBack.j2] at h, fun _ r h => by simp [gridironlaw01_NumBack.j3] at h⟩
  | k + 1 => by
    obtain ⟨ih0, ih1, ih2, ih3⟩ := gridironlaw01_NumBack.mono_l k
    refine ⟨?_, ?_, ?_, ?_⟩
    · intro y0 y1 y2
      unfold gridironlaw01_NumBack.j0
      repeat' first
      | (with_reducible exact ih0 _ _ _)
      | (with_reducible exact ih1 _ _ _)
      | (with_reducible exact ih2 _ _ _)
      | (with_reducible exact ih3 _)
      | (with_reducible exact gridironlaw01_alive.mono _)
      | (with_reducible exact num_Add.mono _ _ _)
      | (with_reducible exact num_Div.mono _ _ _)
      | (with_reducible exact num_Mul.mono _ _ _)
      | (with_reducible exact num_Sub.mono _ _ _)
      | (with_reducible exact LeO.refl _)
      | (with_reducible exact LeO.none _)
      | (with_reducible refine LeO.ite ?_ ?_)
      | (with_reducible refine LeO.bind ?_ (fun _ => ?_))
      | exact ih0 _ _ _
      | exact ih1 _ _ _
      | exact ih2 _ _ _
      | exact ih3 _
      | exact gridironlaw01_alive.mono _
      | exact num_Add.mono _ _ _
      | exact num_Div.mono _ _ _
      | exact num_Mul.mono _ _ _
      | exact num_Sub.mono _ _ _
      | exact LeO.none _
      | refine LeO.ite ?_ ?_
      | refine LeO.bind ?_ (fun _ => ?_)
    · intro y0 y1 y2
      unfold gridironlaw01_NumBack.j1
      repeat' first
      | (with_reducible exact ih0 _ _ _)
      | (with_reducible exact ih1 _ _ _)
      | (with_reducible exact ih2 _ _ _)
      | (with_reducible exact ih3 _)
      | (with_reducible exact gridironlaw01_alive.mono _)
      | (with_reducible exact num_Add.mono _ _ _)
      | (with_reducible exact num_Div.mono _ _ _)
      | (with_reducible exact num_Mul.mono _ _ _)
      | (with_reducible exact num_Sub.mono _ _ _)
      | (with_reducible exact LeO.refl _)
      | (with_reducible exact LeO.none _)
      | (with_reducible refine LeO.ite ?_ ?_)
      | (with_reducible refine LeO.bind ?_ (fun _ => ?_))
      | exact ih0 _ _ _
      | exact ih1 _ _ _
      | exact ih2 _ _ _
      | exact ih3 _
      | exact gridironlaw01_alive.mono _
      | exact num_Add.mono _ _ _
      | exact num_Div.mono _ _ _
      | exact num_Mul.mono _ _ _
      | exact num_Sub.mono _ _ _
      | exact LeO.none _
      | refine LeO.ite ?_ ?_
      | refine LeO.bind ?_ (fun _ => ?_)
    · intro y0 y1 y2
      unfold gridironlaw01_NumBack.j2
      repeat' first
      | (with_reducible exact ih0 _ _ _)
      | (with_reducible exact ih1 _ _ _)
      | (with_reducible exact ih2 _ _ _)
      | (with_reducible exact ih3 _)
      | (with_reducible exact gridironlaw01_alive.mono _)
      | (with_reducible exact num_Add.mono _ _ _)
      | (with_reducible exact num_Div.mono _ _ _)
      | (with_reducible exact num_Mul.mono _ _ _)
      | (with_reducible exact num_Sub.mono _ _ _)
      | (with_reducible exact LeO.refl _)
      | (with_reducible exact LeO.none _)
      | (with_reducible refine LeO.ite ?_ ?_)
      | (with_reducible refine LeO.bind ?_ (fun _ => ?_))
      | exact ih0 _ _ _
      | exact ih1 _ _ _
      | exact ih2 _ _ _
      | exact ih3 _
      | exact gridironlaw01_alive.mono _
      | exact num_Add.mono _ _ _
      | exact num_Div.mono _ _ _
      | exact num_Mul.mono _ _ _
      | exact num_Sub.mono _ _ _
      | exact LeO.none _
      | refine LeO.ite ?_ ?_
      | refine LeO.bind ?_ (fun _ => ?_)
    · intro y0
      unfold gridironlaw01_NumBack.j3
      repeat' first
      | (with_reducible exact ih0 _ _ _)
      | (with_reducible exact ih1 _ _ _)
      | (with_reducible exact ih2 _ _ _)
      | (with_reducible exact ih3 _)
      | (with_reducible exact gridironlaw01_alive.mono _)
      | (with_reducible exact num_Add.mono _ _ _)
      | (with_reducible exact num_Div.mono _ _ _)
      | (with_reducible exact num_Mul.mono _ _ _)
      | (with_reducible exact num_Sub.mono _ _ _)
      | (with_reducible exact LeO.refl _)
      | (with_reducible exact LeO.none _)
      | (with_reducible refine LeO.ite ?_ ?_)
      | (with_reducible refine LeO.bind ?_ (fun _ => ?_))
      | exact ih0 _ _ _
      | exact ih1 _ _ _
      | exact ih2 _ _ _
      | exact ih3 _
      | exact gridironlaw01_alive.mono _
      | exact num_Add.mono _ _ _
      | exact num_Div.mono _ _ _
      | exact num_Mul.mono _ _ _
      | exact num_Sub.mono _ _ _
      | exact LeO.none _
      | refine LeO.ite ?_ ?_
      | refine LeO.bind ?_ (fun _ => ?_)
theorem gridironlaw01_NumBack.mono : ∀ a0 a1 k, LeO (gridironlaw01_NumBack.f k a0 a1) (gridironlaw01_NumBack.f (k + 1) a0 a1) := by
  intro a0 a1 k
  obtain ⟨ih0, ih1, ih2, ih3⟩ := gridironlaw01_NumBack.mono_l k
  unfold gridironlaw01_NumBack.f
  repeat' first
      | (with_reducible exact ih0 _ _ _)
      | (with_reducible exact ih1 _ _ _)
      | (with_reducible exact ih2 _ _ _)
      | (with_reducible exact ih3 _)
      | (with_reducible exact gridironlaw01_alive.mono _)
      | (with_reducible exact num_Add.mono _ _ _)
      | (with_reducible exact num_Div.mono _ _ _)
      | (with_reducible exact num_Mul.mono _ _ _)
      | (with_reducible exact num_Sub.mono _ _ _)
      | (with_reducible exact LeO.refl _)
      | (with_reducible exact LeO.none _)
      | (with_reducible refine LeO.ite ?_ ?_)
      | (with_reducible refine LeO.bind ?_ (fun _ => ?_))
      | exact ih0 _ _ _
      | exact ih1 _ _ _
      | exact ih2 _ _ _
      | exact ih3 _
      | exact gridironlaw01_alive.mono _
      | exact num_Add.mono _ _ _
      | exact num_Div.mono _ _ _
      | exact num_Mul.mono _ _ _
      | exact num_Sub.mono _ _ _
      | exact LeO.none _
      | refine LeO.ite ?_ ?_
      | refine LeO.bind ?_ (fun _ => ?_)
set_option maxHeartbeats 8000000 in
set_option maxRecDepth 100000 in
theorem gridironlaw01_NumBack.calls (k : Nat) (a0 : Int) (a1 : Int) (r : Bool) (w : World) (hG : Glob w) (h : gridironlaw01_NumBack.f k a0 a1 = some r) :
    Calls Tryd.prog 5 #[.int .i64 a0, .int .i64 a1] w fun e w' => e = .returned (.bool r) ∧ Below w.heap.size w w' := by
  have HG := Aside0.mk hG
  clear hG
  have HB := Aside0.mk (Below.refl w.heap.size w)
  have H : ((num_Add.f k a0 a1).bind fun bt231 => ((num_Add.f k a1 a0).bind fun bt233 => ((num_Sub.f k bt231.1 a1).bind fun bt235 => (if bt231.1 = bt233.1 then (if (bt231.2 != bt233.2) = true then (gridironlaw01_NumBack.j0 k a0 a1 true) else (if bt231.2 = true then (if bt235.2 = true then (gridironlaw01_NumBack.j0 k a0 a1 (bt235.1 != a0)) else (gridironlaw01_NumBack.j0 k a0 a1 true)) else (gridironlaw01_NumBack.j0 k a0 a1 false))) else (gridironlaw01_NumBack.j0 k a0 a1 true))))) = some r := h
  clear h
  replace H := Option.bind_eq_some_iff.mp H
  obtain ⟨⟨t231, t232⟩, A30, H⟩ := H
  replace H : ((num_Add.f k a1 a0).bind fun bt233 => ((num_Sub.f k t231 a1).bind fun bt235 => (if t231 = bt233.1 then (if (t232 != bt233.2) = true then (gridironlaw01_NumBack.j0 k a0 a1 true) else (if t232 = true then (if bt235.2 = true then (gridironlaw01_NumBack.j0 k a0 a1 (bt235.1 != a0)) else (gridironlaw01_NumBack.j0 k a0 a1 true)) else (gridironlaw01_NumBack.j0 k a0 a1 false))) else (gridironlaw01_NumBack.j0 k a0 a1 true)))) = some r := H
  have A3 := Aside0.mk A30
  clear A30
  replace H := Option.bind_eq_some_iff.mp H
  obtain ⟨⟨t233, t234⟩, A40, H⟩ := H
  replace H : ((num_Sub.f k t231 a1).bind fun bt235 => (if t231 = t233 then (if (t232 != t234) = true then (gridironlaw01_NumBack.j0 k a0 a1 true) else (if t232 = true then (if bt235.2 = true then (gridironlaw01_NumBack.j0 k a0 a1 (bt235.1 != a0)) else (gridironlaw01_NumBack.j0 k a0 a1 true)) else (gridironlaw01_NumBack.j0 k a0 a1 false))) else (gridironlaw01_NumBack.j0 k a0 a1 true))) = some r := H
  have A4 := Aside0.mk A40
  clear A40
  replace H := Option.bind_eq_some_iff.mp H
  obtain ⟨⟨t235, t236⟩, A50, H⟩ := H
  replace H : (if t231 = t233 then (if (t232 != t234) = true then (gridironlaw01_NumBack.j0 k a0 a1 true) else (if t232 = true then (if t236 = true then (gridironlaw01_NumBack.j0 k a0 a1 (t235 != a0)) else (gridironlaw01_NumBack.j0 k a0 a1 true)) else (gridironlaw01_NumBack.j0 k a0 a1 false))) else (gridironlaw01_NumBack.j0 k a0 a1 true)) = some r := H
  have A5 := Aside0.mk A50
  clear A50
  have HC6 := Aside0.mk H
  clear H
  go_enter Tryd.func5, Tryd.ntmps5
  go_upto_region 4 with (first | ((with_reducible refine gate_callee (f := 6) rfl ?_); refine goesL_ (some 27) rfl rfl Tryd.func6 (by kernel_rfl) rfl #[.int .i64 a0, .int .i64 a1] rfl (by (try simp only [List.map_toArray, List.map_cons, List.map_nil]); first | done | rfl | (simp only [List.length_drop, List.length_take]; rfl)) ?_; (with_reducible refine (num_Add.calls k a0 a1 t231 t232 _ A3.out).mono ?_); rintro e w7 ⟨rfl, hb⟩; refine ⟨_, rfl, ?_⟩; have n0_ := Aside0.mk (below_step (by repeat (first | (with_reducible first | exact HB.out | apply below_alloc | apply pw_below_drewN | apply below_drew1) | exact HB.out)) hb); clear HB; have HB := n0_; clear n0_; (try clear hb); (try clear hb2); (try clear hk); (try clear hi)) | ((with_reducible refine gate_callee (f := 6) rfl ?_); refine goesL_ (some 33) rfl rfl Tryd.func6 (by kernel_rfl) rfl #[.int .i64 a1, .int .i64 a0] rfl (by (try simp only [List.map_toArray, List.map_cons, List.map_nil]); first | done | rfl | (simp only [List.length_drop, List.length_take]; rfl)) ?_; (with_reducible refine (num_Add.calls k a1 a0 t233 t234 _ A4.out).mono ?_); rintro e w8 ⟨rfl, hb⟩; refine ⟨_, rfl, ?_⟩; have n0_ := Aside0.mk (below_step (by repeat (first | (with_reducible first | exact HB.out | apply below_alloc | apply pw_below_drewN | apply below_drew1) | exact HB.out)) hb); clear HB; have HB := n0_; clear n0_; (try clear hb); (try clear hb2); (try clear hk); (try clear hi)) | ((with_reducible refine gate_callee (f := 8) rfl ?_); refine goesL_ (some 39) rfl rfl Tryd.func8 (by kernel_rfl) rfl #[.int .i64 t231, .int .i64 a1] rfl (by (try simp only [List.map_toArray, List.map_cons, List.map_nil]); first | done | rfl | (simp only [List.length_drop, List.length_take]; rfl)) ?_; (with_reducible refine (num_Sub.calls k t231 a1 t235 t236 _ A5.out).mono ?_); rintro e w9 ⟨rfl, hb⟩; refine ⟨_, rfl, ?_⟩; have n0_ := Aside0.mk (below_step (by repeat (first | (with_reducible first | exact HB.out | apply below_alloc | apply pw_below_drewN | apply below_drew1) | exact HB.out)) hb); clear HB; have HB := n0_; clear n0_; (try clear hb); (try clear hb2); (try clear hk); (try clear hi)))
  (try simp only [Act.put, List.setIfInBounds_toArray, List.set_cons_zero, List.set_cons_succ])
  go_cut [61] (fun v61 wc => ∃ (kq : Nat) (x61_5 : Bool), v61 = .bool x61_5 ∧ Aside0 (gridironlaw01_NumBack.j0 kq a0 a1 x61_5 = some r) ∧ Aside0 (kq ≤ k) ∧ Aside0 (Below w.heap.size w wc))
  case first =>
    as_aux_lemma =>
      have H := HC6.out
      clear HC6
      by_cases c10 : t231 = t233
      · rw [if_pos c10] at H
        have c10b0 : (t231 == t233) = true := beq_iff_eq.mpr c10
        have c10b1 : (t231 != t233) = false := bne_eq_false_iff_eq.mpr c10
        clear c10
        (first | rw [c10b0] | (simp only [i64_w, i32_w]; rw [c10b0]) | skip)
        by_cases c11 : (t232 != t234) = true
        · rw [if_pos c11] at H
          have c11b0 : (t232 != t234) = true := c11
          (try (have c11b1 : decide (t232 = t234) = false := by simpa using c11))
          (try (have c11b2 : (t232 == t234) = false := by simpa using c11))
          (try (have c11b3 : ¬ (t232 = t234) := by simpa using c11))
          clear c11
          have H' := Aside0.mk H
          clear H
          go_wp2
          go_meet
          case rel => exact ⟨_, (true), (by first | rfl | (simp; done) | (simp [*]; done)), H', ⟨by first | omega | exact Nat.le_refl _⟩, ⟨by repeat (first | (with_reducible first | exact HB.out | apply below_alloc | apply pw_below_drewN | apply below_drew1) | exact HB.out)⟩⟩
        · rw [if_neg c11] at H
          have c11b0 : (t232 != t234) = false := by simpa using c11
          (try (have c11b1 : decide (t232 = t234) = true := by simpa using c11))
          (try (have c11b2 : (t232 == t234) = true := by simpa using c11))
          clear c11
          by_cases c12 : t232 = true
          · subst c12
            have H1 : (if t236 = true then (gridironlaw01_NumBack.j0 k a0 a1 (t235 != a0)) else (gridironlaw01_NumBack.j0 k a0 a1 true)) = some r := by rw [if_pos rfl] at H; exact H
            clear H
            have H := H1
            clear H1
            by_cases c13 : t236 = true
            · subst c13
              have H1 : (gridironlaw01_NumBack.j0 k a0 a1 (t235 != a0)) = some r := by rw [if_pos rfl] at H; exact H
              clear H
              have H := H1
              clear H1
              have H' := Aside0.mk H
              clear H
              go_wp2
              go_meet
              case rel => exact ⟨_, ((t235 != a0)), (by first | rfl | (simp; done) | (simp [*]; done)), H', ⟨by first | omega | exact Nat.le_refl _⟩, ⟨by repeat (first | (with_reducible first | exact HB.out | apply below_alloc | apply pw_below_drewN | apply below_drew1) | exact HB.out)⟩⟩
            · replace c13 := Bool.eq_false_iff.mpr c13
              subst c13
              have H1 : (gridironlaw01_NumBack.j0 k a0 a1 true) = some r := by rw [if_neg (show ¬ (false = true) by decide)] at H; exact H
              clear H
              have H := H1
              clear H1
              have H' := Aside0.mk H
              clear H
              go_wp2
              go_meet
              case rel => exact ⟨_, (true), (by first | rfl | (simp; done) | (simp [*]; done)), H', ⟨by first | omega | exact Nat.le_refl _⟩, ⟨by repeat (first | (with_reducible first | exact HB.out | apply below_alloc | apply pw_below_drewN | apply below_drew1) | exact HB.out)⟩⟩
          · replace c12 := Bool.eq_false_iff.mpr c12
            subst c12
            have H1 : (gridironlaw01_NumBack.j0 k a0 a1 false) = some r := by rw [if_neg (show ¬ (false = true) by decide)] at H; exact H
            clear H
            have H := H1
            clear H1
            have H' := Aside0.mk H
            clear H
            go_wp2
            go_meet
            case rel => exact ⟨_, (false), (by first | rfl | (simp; done) | (simp [*]; done)), H', ⟨by first | omega | exact Nat.le_refl _⟩, ⟨by repeat (first | (with_reducible first | exact HB.out | apply below_alloc | apply pw_below_drewN | apply below_drew1) | exact HB.out)⟩⟩
      · rw [if_neg c10] at H
        have c10b0 : (t231 == t233) = false := beq_eq_false_iff_ne.mpr c10
        have c10b1 : (t231 != t233) = true := bne_iff_ne.mpr c10
        (first | rw [c10b0] | (simp only [i64_w, i32_w]; rw [c10b0]) | skip)
        have H' := Aside0.mk H
        clear H
        go_wp2
        go_meet
        case rel => exact ⟨_, (true), (by first | rfl | (simp; done) | (simp [*]; done)), H', ⟨by first | omega | exact Nat.le_refl _⟩, ⟨by repeat (first | (with_reducible first | exact HB.out | apply below_alloc | apply pw_below_drewN | apply below_drew1) | exact HB.out)⟩⟩
  case rest =>
    as_aux_lemma =>
      clear HC6
      try clear c1
      try clear p2
      try clear c5
      try clear c6
      try clear c8
      try clear c10
      try clear c10b0
      try clear c10b1
      try clear c11
      try clear c11b0
      try clear c11b1
      try clear c11b2
      try clear c12
      try clear c13
      obtain ⟨kq, x61_5, rfl, HA, HJ5, HB⟩ := hcut
      cases kq with
      | zero => exact absurd HA.out (by simp [gridironlaw01_NumBack.j0])
      | succ kj5 =>
        have H := HA.out
        clear HA
        simp only [gridironlaw01_NumBack.j0] at H
        by_cases c14 : x61_5 = true
        · subst c14
          have H1 : (some false) = some r := by rw [if_pos rfl] at H; exact H
          clear H
          have H := H1
          clear H1
          obtain rfl := Option.some.inj H
          go_wp2
          go_ret
          exact ⟨by first | rfl | (simp [errW_none, errW_some] <;> rfl) | (simp [*, errW_none, errW_some] <;> rfl), by repeat (first | (with_reducible first | exact HB.out | apply below_alloc | apply pw_below_drewN | apply below_drew1) | exact HB.out)⟩
        · replace c14 := Bool.eq_false_iff.mpr c14
          subst c14
          have H1 : ((num_Mul.f kj5 a0 a1).bind fun bt237 => ((num_Mul.f kj5 a1 a0).bind fun bt239 => ((num_Div.f kj5 bt237.1 a1).bind fun bt241 => (if bt237.1 = bt239.1 then (if (bt237.2 != bt239.2) = true then (gridironlaw01_NumBack.j1 kj5 a0 a1 true) else (if bt237.2 = true then (if a1 = 0 then (gridironlaw01_NumBack.j1 kj5 a0 a1 false) else (if bt241.2 = true then (gridironlaw01_NumBack.j1 kj5 a0 a1 (bt241.1 != a0)) else (gridironlaw01_NumBack.j1 kj5 a0 a1 true))) else (gridironlaw01_NumBack.j1 kj5 a0 a1 false))) else (gridironlaw01_NumBack.j1 kj5 a0 a1 true))))) = some r := by rw [if_neg (show ¬ (false = true) by decide)] at H; exact H
          clear H
          have H := H1
          clear H1
          replace H := Option.bind_eq_some_iff.mp H
          obtain ⟨⟨t237, t238⟩, A150, H⟩ := H
          replace H : ((num_Mul.f kj5 a1 a0).bind fun bt239 => ((num_Div.f kj5 t237 a1).bind fun bt241 => (if t237 = bt239.1 then (if (t238 != bt239.2) = true then (gridironlaw01_NumBack.j1 kj5 a0 a1 true) else (if t238 = true then (if a1 = 0 then (gridironlaw01_NumBack.j1 kj5 a0 a1 false) else (if bt241.2 = true then (gridironlaw01_NumBack.j1 kj5 a0 a1 (bt241.1 != a0)) else (gridironlaw01_NumBack.j1 kj5 a0 a1 true))) else (gridironlaw01_NumBack.j1 kj5 a0 a1 false))) else (gridironlaw01_NumBack.j1 kj5 a0 a1 true)))) = some r := H
          have A15 := Aside0.mk A150
          clear A150
          replace H := Option.bind_eq_some_iff.mp H
          obtain ⟨⟨t239, t240⟩, A160, H⟩ := H
          replace H : ((num_Div.f kj5 t237 a1).bind fun bt241 => (if t237 = t239 then (if (t238 != t240) = true then (gridironlaw01_NumBack.j1 kj5 a0 a1 true) else (if t238 = true then (if a1 = 0 then (gridironlaw01_NumBack.j1 kj5 a0 a1 false) else (if bt241.2 = true then (gridironlaw01_NumBack.j1 kj5 a0 a1 (bt241.1 != a0)) else (gridironlaw01_NumBack.j1 kj5 a0 a1 true))) else (gridironlaw01_NumBack.j1 kj5 a0 a1 false))) else (gridironlaw01_NumBack.j1 kj5 a0 a1 true))) = some r := H
          have A16 := Aside0.mk A160
          clear A160
          replace H := Option.bind_eq_some_iff.mp H
          obtain ⟨⟨t241, t242⟩, A170, H⟩ := H
          replace H : (if t237 = t239 then (if (t238 != t240) = true then (gridironlaw01_NumBack.j1 kj5 a0 a1 true) else (if t238 = true then (if a1 = 0 then (gridironlaw01_NumBack.j1 kj5 a0 a1 false) else (if t242 = true then (gridironlaw01_NumBack.j1 kj5 a0 a1 (t241 != a0)) else (gridironlaw01_NumBack.j1 kj5 a0 a1 true))) else (gridironlaw01_NumBack.j1 kj5 a0 a1 false))) else (gridironlaw01_NumBack.j1 kj5 a0 a1 true)) = some r := H
          have A17 := Aside0.mk A170
          clear A170
          have HC18 := Aside0.mk H
          clear H
          go_upto_region 9 with (first | ((with_reducible refine gate_callee (f := 10) rfl ?_); refine goesL_ (some 65) rfl rfl Tryd.func10 (by kernel_rfl) rfl #[.int .i64 a0, .int .i64 a1] rfl (by (try simp only [List.map_toArray, List.map_cons, List.map_nil]); first | done | rfl | (simp only [List.length_drop, List.length_take]; rfl)) ?_; (with_reducible refine (num_Mul.calls kj5 a0 a1 t237 t238 _ A15.out).mono ?_); rintro e w19 ⟨rfl, hb⟩; refine ⟨_, rfl, ?_⟩; have n0_ := Aside0.mk (below_step (by repeat (first | (with_reducible first | exact HB.out | apply below_alloc | apply pw_below_drewN | apply below_drew1) | exact HB.out)) hb); clear HB; have HB := n0_; clear n0_; (try clear hb); (try clear hb2); (try clear hk); (try clear hi)) | ((with_reducible refine gate_callee (f := 10) rfl ?_); refine goesL_ (some 71) rfl rfl Tryd.func10 (by kernel_rfl) rfl #[.int .i64 a1, .int .i64 a0] rfl (by (try simp only [List.map_toArray, List.map_cons, List.map_nil]); first | done | rfl | (simp only [List.length_drop, List.length_take]; rfl)) ?_; (with_reducible refine (num_Mul.calls kj5 a1 a0 t239 t240 _ A16.out).mono ?_); rintro e w20 ⟨rfl, hb⟩; refine ⟨_, rfl, ?_⟩; have n0_ := Aside0.mk (below_step (by repeat (first | (with_reducible first | exact HB.out | apply below_alloc | apply pw_below_drewN | apply below_drew1) | exact HB.out)) hb); clear HB; have HB := n0_; clear n0_; (try clear hb); (try clear hb2); (try clear hk); (try clear hi)) | ((with_reducible refine gate_callee (f := 12) rfl ?_); refine goesL_ (some 77) rfl rfl Tryd.func12 (by kernel_rfl) rfl #[.int .i64 t237, .int .i64 a1] rfl (by (try simp only [List.map_toArray, List.map_cons, List.map_nil]); first | done | rfl | (simp only [List.length_drop, List.length_take]; rfl)) ?_; (with_reducible refine (num_Div.calls kj5 t237 a1 t241 t242 _ A17.out).mono ?_); rintro e w21 ⟨rfl, hb⟩; refine ⟨_, rfl, ?_⟩; have n0_ := Aside0.mk (below_step (by repeat (first | (with_reducible first | exact HB.out | apply below_alloc | apply pw_below_drewN | apply below_drew1) | exact HB.out)) hb); clear HB; have HB := n0_; clear n0_; (try clear hb); (try clear hb2); (try clear hk); (try clear hi)))
          (try simp only [Act.put, List.setIfInBounds_toArray, List.set_cons_zero, List.set_cons_succ])
          go_cut [103] (fun v103 wc => ∃ (kq : Nat) (x103_17 : Bool), v103 = .bool x103_17 ∧ Aside0 (gridironlaw01_NumBack.j1 kq a0 a1 x103_17 = some r) ∧ Aside0 (kq ≤ kj5) ∧ Aside0 (Below w.heap.size w wc))
          case first =>
            as_aux_lemma =>
              have H := HC18.out
              clear HC18
              by_cases c22 : t237 = t239
              · rw [if_pos c22] at H
                have c22b0 : (t237 == t239) = true := beq_iff_eq.mpr c22
                have c22b1 : (t237 != t239) = false := bne_eq_false_iff_eq.mpr c22
                clear c22
                (first | rw [c22b0] | (simp only [i64_w, i32_w]; rw [c22b0]) | skip)
                by_cases c23 : (t238 != t240) = true
                · rw [if_pos c23] at H
                  have c23b0 : (t238 != t240) = true := c23
                  (try (have c23b1 : decide (t238 = t240) = false := by simpa using c23))
                  (try (have c23b2 : (t238 == t240) = false := by simpa using c23))
                  (try (have c23b3 : ¬ (t238 = t240) := by simpa using c23))
                  clear c23
                  have H' := Aside0.mk H
                  clear H
                  go_wp2
                  go_meet
                  case rel => exact ⟨_, (true), (by first | rfl | (simp; done) | (simp [*]; done)), H', ⟨by have := HJ5.out; first | omega | exact Nat.le_refl _⟩, ⟨by repeat (first | (with_reducible first | exact HB.out | apply below_alloc | apply pw_below_drewN | apply below_drew1) | exact HB.out)⟩⟩
                · rw [if_neg c23] at H
                  have c23b0 : (t238 != t240) = false := by simpa using c23
                  (try (have c23b1 : decide (t238 = t240) = true := by simpa using c23))
                  (try (have c23b2 : (t238 == t240) = true := by simpa using c23))
                  clear c23
                  by_cases c24 : t238 = true
                  · subst c24
                    have H1 : (if a1 = 0 then (gridironlaw01_NumBack.j1 kj5 a0 a1 false) else (if t242 = true then (gridironlaw01_NumBack.j1 kj5 a0 a1 (t241 != a0)) else (gridironlaw01_NumBack.j1 kj5 a0 a1 true))) = some r := by rw [if_pos rfl] at H; exact H
                    clear H
                    have H := H1
                    clear H1
                    by_cases c25 : a1 = 0
                    · rw [if_pos c25] at H
                      have c25b0 : (a1 == 0) = true := beq_iff_eq.mpr c25
                      have c25b1 : (a1 != 0) = false := bne_eq_false_iff_eq.mpr c25
                      clear c25
                      have H' := Aside0.mk H
                      clear H
                      go_wp2
                      go_meet
                      case rel => exact ⟨_, (false), (by first | rfl | (simp; done) | (simp [*]; done)), H', ⟨by have := HJ5.out; first | omega | exact Nat.le_refl _⟩, ⟨by repeat (first | (with_reducible first | exact HB.out | apply below_alloc | apply pw_below_drewN | apply below_drew1) | exact HB.out)⟩⟩
                    · rw [if_neg c25] at H
                      have c25b0 : (a1 == 0) = false := beq_eq_false_iff_ne.mpr c25
                      have c25b1 : (a1 != 0) = true := bne_iff_ne.mpr c25
                      by_cases c26 : t242 = true
                      · subst c26
                        have H1 : (gridironlaw01_NumBack.j1 kj5 a0 a1 (t241 != a0)) = some r := by rw [if_pos rfl] at H; exact H
                        clear H
                        have H := H1
                        clear H1
                        have H' := Aside0.mk H
                        clear H
                        go_wp2
                        go_meet
                        case rel => exact ⟨_, ((t241 != a0)), (by first | rfl | (simp; done) | (simp [*]; done)), H', ⟨by have := HJ5.out; first | omega | exact Nat.le_refl _⟩, ⟨by repeat (first | (with_reducible first | exact HB.out | apply below_alloc | apply pw_below_drewN | apply below_drew1) | exact HB.out)⟩⟩
                      · replace c26 := Bool.eq_false_iff.mpr c26
                        subst c26
                        have H1 : (gridironlaw01_NumBack.j1 kj5 a0 a1 true) = some r := by rw [if_neg (show ¬ (false = true) by decide)] at H; exact H
                        clear H
                        have H := H1
                        clear H1
                        have H' := Aside0.mk H
                        clear H
                        go_wp2
                        go_meet
                        case rel => exact ⟨_, (true), (by first | rfl | (simp; done) | (simp [*]; done)), H', ⟨by have := HJ5.out; first | omega | exact Nat.le_refl _⟩, ⟨by repeat (first | (with_reducible first | exact HB.out | apply below_alloc | apply pw_below_drewN | apply below_drew1) | exact HB.out)⟩⟩
                  · replace c24 := Bool.eq_false_iff.mpr c24
                    subst c24
                    have H1 : (gridironlaw01_NumBack.j1 kj5 a0 a1 false) = some r := by rw [if_neg (show ¬ (false = true) by decide)] at H; exact H
                    clear H
                    have H := H1
                    clear H1
                    have H' := Aside0.mk H
                    clear H
                    go_wp2
                    go_meet
                    case rel => exact ⟨_, (false), (by first | rfl | (simp; done) | (simp [*]; done)), H', ⟨by have := HJ5.out; first | omega | exact Nat.le_refl _⟩, ⟨by repeat (first | (with_reducible first | exact HB.out | apply below_alloc | apply pw_below_drewN | apply below_drew1) | exact HB.out)⟩⟩
              · rw [if_neg c22] at H
                have c22b0 : (t237 == t239) = false := beq_eq_false_iff_ne.mpr c22
                have c22b1 : (t237 != t239) = true := bne_iff_ne.mpr c22
                (first | rw [c22b0] | (simp only [i64_w, i32_w]; rw [c22b0]) | skip)
                have H' := Aside0.mk H
                clear H
                go_wp2
                go_meet
                case rel => exact ⟨_, (true), (by first | rfl | (simp; done) | (simp [*]; done)), H', ⟨by have := HJ5.out; first | omega | exact Nat.le_refl _⟩, ⟨by repeat (first | (with_reducible first | exact HB.out | apply below_alloc | apply pw_below_drewN | apply below_drew1) | exact HB.out)⟩⟩
          case rest =>
            as_aux_lemma =>
              clear HC18
              try clear c1
              try clear c2
              try clear p2
              try clear c5
              try clear c6
              try clear c8
              try clear c10
              try clear c10b0
              try clear c10b1
              try clear c11
              try clear c11b0
              try clear c11b1
              try clear c11b2
              try clear c12
              try clear c13
              try clear c14
              try clear c22
              try clear c22b0
              try clear c22b1
              try clear c23
              try clear c23b0
              try clear c23b1
              try clear c23b2
              try clear c24
              try clear c25
              try clear c25b0
              try clear c25b1
              try clear c26
              try clear p2
              obtain ⟨kq, x103_17, rfl, HA, HJ17, HB⟩ := hcut
              cases kq with
              | zero => exact absurd HA.out (by simp [gridironlaw01_NumBack.j1])
              | succ kj17 =>
                have H := HA.out
                clear HA
                simp only [gridironlaw01_NumBack.j1] at H
                by_cases c27 : x103_17 = true
                · subst c27
                  have H1 : (some false) = some r := by rw [if_pos rfl] at H; exact H
                  clear H
                  have H := H1
                  clear H1
                  obtain rfl := Option.some.inj H
                  go_wp2
                  go_ret
                  exact ⟨by first | rfl | (simp [errW_none, errW_some] <;> rfl) | (simp [*, errW_none, errW_some] <;> rfl), by repeat (first | (with_reducible first | exact HB.out | apply below_alloc | apply pw_below_drewN | apply below_drew1) | exact HB.out)⟩
                · replace c27 := Bool.eq_false_iff.mpr c27
                  subst c27
                  have H1 : ((num_Div.f kj17 a0 a1).bind fun bt243 => (if bt243.2 = true then ((num_Mul.f kj17 bt243.1 a1).bind fun bt246 => ((num_Sub.f kj17 a0 bt246.1).bind fun bt248 => (if bt246.2 = true then (if bt248.2 = true then (if bt248.1 = 0 then (gridironlaw01_NumBack.j2 kj17 a1 bt248.1 false) else (gridironlaw01_NumBack.j2 kj17 a1 bt248.1 ((decide (bt248.1 < 0)) != (decide (a0 < 0))))) else (gridironlaw01_NumBack.j2 kj17 a1 bt248.1 true)) else (gridironlaw01_NumBack.j2 kj17 a1 bt248.1 true)))) else ((gridironlaw01_alive.f kj17).bind fun t245 => (if t245 = true then (if a1 = 0 then (some true) else (some (a1 == (-1)))) else (some false))))) = some r := by rw [if_neg (show ¬ (false = true) by decide)] at H; exact H
                  clear H
                  have H := H1
                  clear H1
                  replace H := Option.bind_eq_some_iff.mp H
                  obtain ⟨⟨t243, t244⟩, A280, H⟩ := H
                  replace H : (if t244 = true then ((num_Mul.f kj17 t243 a1).bind fun bt246 => ((num_Sub.f kj17 a0 bt246.1).bind fun bt248 => (if bt246.2 = true then (if bt248.2 = true then (if bt248.1 = 0 then (gridironlaw01_NumBack.j2 kj17 a1 bt248.1 false) else (gridironlaw01_NumBack.j2 kj17 a1 bt248.1 ((decide (bt248.1 < 0)) != (decide (a0 < 0))))) else (gridironlaw01_NumBack.j2 kj17 a1 bt248.1 true)) else (gridironlaw01_NumBack.j2 kj17 a1 bt248.1 true)))) else ((gridironlaw01_alive.f kj17).bind fun t245 => (if t245 = true then (if a1 = 0 then (some true) else (some (a1 == (-1)))) else (some false)))) = some r := H
                  have A28 := Aside0.mk A280
                  clear A280
                  by_cases c29 : t244 = true
                  · subst c29
                    have H1 : ((num_Mul.f kj17 t243 a1).bind fun bt246 => ((num_Sub.f kj17 a0 bt246.1).bind fun bt248 => (if bt246.2 = true then (if bt248.2 = true then (if bt248.1 = 0 then (gridironlaw01_NumBack.j2 kj17 a1 bt248.1 false) else (gridironlaw01_NumBack.j2 kj17 a1 bt248.1 ((decide (bt248.1 < 0)) != (decide (a0 < 0))))) else (gridironlaw01_NumBack.j2 kj17 a1 bt248.1 true)) else (gridironlaw01_NumBack.j2 kj17 a1 bt248.1 true)))) = some r := by rw [if_pos rfl] at H; exact H
                    clear H
                    have H := H1
                    clear H1
                    replace H := Option.bind_eq_some_iff.mp H
                    obtain ⟨⟨t246, t247⟩, A300, H⟩ := H
                    replace H : ((num_Sub.f kj17 a0 t246).bind fun bt248 => (if t247 = true then (if bt248.2 = true then (if bt248.1 = 0 then (gridironlaw01_NumBack.j2 kj17 a1 bt248.1 false) else (gridironlaw01_NumBack.j2 kj17 a1 bt248.1 ((decide (bt248.1 < 0)) != (decide (a0 < 0))))) else (gridironlaw01_NumBack.j2 kj17 a1 bt248.1 true)) else (gridironlaw01_NumBack.j2 kj17 a1 bt248.1 true))) = some r := H
                    have A30 := Aside0.mk A300
                    clear A300
                    replace H := Option.bind_eq_some_iff.mp H
                    obtain ⟨⟨t248, t249⟩, A310, H⟩ := H
                    replace H : (if t247 = true then (if t249 = true then (if t248 = 0 then (gridironlaw01_NumBack.j2 kj17 a1 t248 false) else (gridironlaw01_NumBack.j2 kj17 a1 t248 ((decide (t248 < 0)) != (decide (a0 < 0))))) else (gridironlaw01_NumBack.j2 kj17 a1 t248 true)) else (gridironlaw01_NumBack.j2 kj17 a1 t248 true)) = some r := H
                    have A31 := Aside0.mk A310
                    clear A310
                    have HC32 := Aside0.mk H
                    clear H
                    go_upto_region 16 with (first | ((with_reducible refine gate_callee (f := 12) rfl ?_); refine goesL_ (some 107) rfl rfl Tryd.func12 (by kernel_rfl) rfl #[.int .i64 a0, .int .i64 a1] rfl (by (try simp only [List.map_toArray, List.map_cons, List.map_nil]); first | done | rfl | (simp only [List.length_drop, List.length_take]; rfl)) ?_; (with_reducible refine (num_Div.calls kj17 a0 a1 t243 true _ A28.out).mono ?_); rintro e w33 ⟨rfl, hb⟩; refine ⟨_, rfl, ?_⟩; have n0_ := Aside0.mk (below_step (by repeat (first | (with_reducible first | exact HB.out | apply below_alloc | apply pw_below_drewN | apply below_drew1) | exact HB.out)) hb); clear HB; have HB := n0_; clear n0_; (try clear hb); (try clear hb2); (try clear hk); (try clear hi)) | ((with_reducible refine gate_callee (f := 10) rfl ?_); refine goesL_ (some 124) rfl rfl Tryd.func10 (by kernel_rfl) rfl #[.int .i64 t243, .int .i64 a1] rfl (by (try simp only [List.map_toArray, List.map_cons, List.map_nil]); first | done | rfl | (simp only [List.length_drop, List.length_take]; rfl)) ?_; (with_reducible refine (num_Mul.calls kj17 t243 a1 t246 t247 _ A30.out).mono ?_); rintro e w34 ⟨rfl, hb⟩; refine ⟨_, rfl, ?_⟩; have n0_ := Aside0.mk (below_step (by repeat (first | (with_reducible first | exact HB.out | apply below_alloc | apply pw_below_drewN | apply below_drew1) | exact HB.out)) hb); clear HB; have HB := n0_; clear n0_; (try clear hb); (try clear hb2); (try clear hk); (try clear hi)) | ((with_reducible refine gate_callee (f := 8) rfl ?_); refine goesL_ (some 130) rfl rfl Tryd.func8 (by kernel_rfl) rfl #[.int .i64 a0, .int .i64 t246] rfl (by (try simp only [List.map_toArray, List.map_cons, List.map_nil]); first | done | rfl | (simp only [List.length_drop, List.length_take]; rfl)) ?_; (with_reducible refine (num_Sub.calls kj17 a0 t246 t248 t249 _ A31.out).mono ?_); rintro e w35 ⟨rfl, hb⟩; refine ⟨_, rfl, ?_⟩; have n0_ := Aside0.mk (below_step (by repeat (first | (with_reducible first | exact HB.out | apply below_alloc | apply pw_below_drewN | apply below_drew1) | exact HB.out)) hb); clear HB; have HB := n0_; clear n0_; (try clear hb); (try clear hb2); (try clear hk); (try clear hi)))
                    (try simp only [Act.put, List.setIfInBounds_toArray, List.set_cons_zero, List.set_cons_succ])
                    go_cut [149] (fun v149 wc => ∃ (kq : Nat) (x149_31 : Bool), v149 = .bool x149_31 ∧ Aside0 (gridironlaw01_NumBack.j2 kq a1 t248 x149_31 = some r) ∧ Aside0 (kq ≤ kj17) ∧ Aside0 (Below w.heap.size w wc))
                    case first =>
                      as_aux_lemma =>
                        have H := HC32.out
                        clear HC32
                        by_cases c36 : t247 = true
                        · subst c36
                          have H1 : (if t249 = true then (if t248 = 0 then (gridironlaw01_NumBack.j2 kj17 a1 t248 false) else (gridironlaw01_NumBack.j2 kj17 a1 t248 ((decide (t248 < 0)) != (decide (a0 < 0))))) else (gridironlaw01_NumBack.j2 kj17 a1 t248 true)) = some r := by rw [if_pos rfl] at H; exact H
                          clear H
                          have H := H1
                          clear H1
                          by_cases c37 : t249 = true
                          · subst c37
                            have H1 : (if t248 = 0 then (gridironlaw01_NumBack.j2 kj17 a1 t248 false) else (gridironlaw01_NumBack.j2 kj17 a1 t248 ((decide (t248 < 0)) != (decide (a0 < 0))))) = some r := by rw [if_pos rfl] at H; exact H
                            clear H
                            have H := H1
                            clear H1
                            by_cases c38 : t248 = 0
                            · rw [if_pos c38] at H
                              have c38b0 : (t248 == 0) = true := beq_iff_eq.mpr c38
                              have c38b1 : (t248 != 0) = false := bne_eq_false_iff_eq.mpr c38
                              clear c38
                              (first | rw [c38b0] | (simp only [i64_w, i32_w]; rw [c38b0]) | skip)
                              have H' := Aside0.mk H
                              clear H
                              go_wp2
                              go_meet
                              case rel => exact ⟨_, (false), (by first | rfl | (simp; done) | (simp [*]; done)), H', ⟨by have := HJ5.out; have := HJ17.out; first | omega | exact Nat.le_refl _⟩, ⟨by repeat (first | (with_reducible first | exact HB.out | apply below_alloc | apply pw_below_drewN | apply below_drew1) | exact HB.out)⟩⟩
                            · rw [if_neg c38] at H
                              have c38b0 : (t248 == 0) = false := beq_eq_false_iff_ne.mpr c38
                              have c38b1 : (t248 != 0) = true := bne_iff_ne.mpr c38
                              (first | rw [c38b0] | (simp only [i64_w, i32_w]; rw [c38b0]) | skip)
                              have H' := Aside0.mk H
                              clear H
                              go_wp2
                              go_meet
                              case rel => exact ⟨_, (((decide (t248 < 0)) != (decide (a0 < 0)))), (by first | rfl | (simp; done) | (simp [*]; done)), H', ⟨by have := HJ5.out; have := HJ17.out; first | omega | exact Nat.le_refl _⟩, ⟨by repeat (first | (with_reducible first | exact HB.out | apply below_alloc | apply pw_below_drewN | apply below_drew1) | exact HB.out)⟩⟩
                          · replace c37 := Bool.eq_false_iff.mpr c37
                            subst c37
                            have H1 : (gridironlaw01_NumBack.j2 kj17 a1 t248 true) = some r := by rw [if_neg (show ¬ (false = true) by decide)] at H; exact H
                            clear H
                            have H := H1
                            clear H1
                            have H' := Aside0.mk H
                            clear H
                            go_wp2
                            go_meet
                            case rel => exact ⟨_, (true), (by first | rfl | (simp; done) | (simp [*]; done)), H', ⟨by have := HJ5.out; have := HJ17.out; first | omega | exact Nat.le_refl _⟩, ⟨by repeat (first | (with_reducible first | exact HB.out | apply below_alloc | apply pw_below_drewN | apply below_drew1) | exact HB.out)⟩⟩
                        · replace c36 := Bool.eq_false_iff.mpr c36
                          subst c36
                          have H1 : (gridironlaw01_NumBack.j2 kj17 a1 t248 true) = some r := by rw [if_neg (show ¬ (false = true) by decide)] at H; exact H
                          clear H
                          have H := H1
                          clear H1
                          have H' := Aside0.mk H
                          clear H
                          go_wp2
                          go_meet
                          case rel => exact ⟨_, (true), (by first | rfl | (simp; done) | (simp [*]; done)), H', ⟨by have := HJ5.out; have := HJ17.out; first | omega | exact Nat.le_refl _⟩, ⟨by repeat (first | (with_reducible first | exact HB.out | apply below_alloc | apply pw_below_drewN | apply below_drew1) | exact HB.out)⟩⟩
                    case rest =>
                      as_aux_lemma =>
                        clear HC32
                        try clear c1
                        try clear c2
                        try clear p2
                        try clear c3
                        try clear c5
                        try clear c6
                        try clear c8
                        try clear c10
                        try clear c10b0
                        try clear c10b1
                        try clear c11
                        try clear c11b0
                        try clear c11b1
                        try clear c11b2
                        try clear c12
                        try clear c13
                        try clear c14
                        try clear c22
                        try clear c22b0
                        try clear c22b1
                        try clear c23
                        try clear c23b0
                        try clear c23b1
                        try clear c23b2
                        try clear c24
                        try clear c25
                        try clear c25b0
                        try clear c25b1
                        try clear c26
                        try clear c27
                        try clear c29
                        try clear c36
                        try clear c37
                        try clear c38
                        try clear c38b0
                        try clear c38b1
                        try clear p2
                        obtain ⟨kq, x149_31, rfl, HA, HJ31, HB⟩ := hcut
                        cases kq with
                        | zero => exact absurd HA.out (by simp [gridironlaw01_NumBack.j2])
                        | succ kj31 =>
                          have H := HA.out
                          clear HA
                          simp only [gridironlaw01_NumBack.j2] at H
                          by_cases c39 : x149_31 = true
                          · subst c39
                            have H1 : (some false) = some r := by rw [if_pos rfl] at H; exact H
                            clear H
                            have H := H1
                            clear H1
                            obtain rfl := Option.some.inj H
                            go_wp2
                            go_ret
                            exact ⟨by first | rfl | (simp [errW_none, errW_some] <;> rfl) | (simp [*, errW_none, errW_some] <;> rfl), by repeat (first | (with_reducible first | exact HB.out | apply below_alloc | apply pw_below_drewN | apply below_drew1) | exact HB.out)⟩
                          · replace c39 := Bool.eq_false_iff.mpr c39
                            subst c39
                            have H1 : (if a1 > 0 then (if t248 < a1 then (if t248 > (wrap64 (-a1)) then (gridironlaw01_NumBack.j3 kj31 true) else (if a1 < 0 then (if t248 > a1 then (if t248 ≤ 0 then (gridironlaw01_NumBack.j3 kj31 true) else (gridironlaw01_NumBack.j3 kj31 (decide ((wrap64 (-t248)) > a1)))) else (gridironlaw01_NumBack.j3 kj31 false)) else (gridironlaw01_NumBack.j3 kj31 false))) else (if a1 < 0 then (if t248 > a1 then (if t248 ≤ 0 then (gridironlaw01_NumBack.j3 kj31 true) else (gridironlaw01_NumBack.j3 kj31 (decide ((wrap64 (-t248)) > a1)))) else (gridironlaw01_NumBack.j3 kj31 false)) else (gridironlaw01_NumBack.j3 kj31 false))) else (if a1 < 0 then (if t248 > a1 then (if t248 ≤ 0 then (gridironlaw01_NumBack.j3 kj31 true) else (gridironlaw01_NumBack.j3 kj31 (decide ((wrap64 (-t248)) > a1)))) else (gridironlaw01_NumBack.j3 kj31 false)) else (gridironlaw01_NumBack.j3 kj31 false))) = some r := by rw [if_neg (show ¬ (false = true) by decide)] at H; exact H
                            clear H
                            have H := H1
                            clear H1
                            have HC40 := Aside0.mk H
                            clear H
                            go_upto_region 18 with (fail)
                            go_cut [23] (fun v23 wc => ∃ (kq : Nat) (x23_39 : Bool), v23 = .bool x23_39 ∧ Aside0 (gridironlaw01_NumBack.j3 kq x23_39 = some r) ∧ Aside0 (kq ≤ kj31) ∧ Aside0 (Below w.heap.size w wc))
                            case first =>
                              as_aux_lemma =>
                                have H := HC40.out
                                clear HC40
                                by_cases c41 : a1 > 0
                                · rw [if_pos c41] at H
                                  have c41b0 : decide (0 < a1) = true := decide_eq_true c41
                                  clear c41
                                  (first | rw [c41b0] | (simp only [i64_w, i32_w]; rw [c41b0]) | skip)
                                  by_cases c42 : t248 < a1
                                  · rw [if_pos c42] at H
                                    have c42b0 : decide (t248 < a1) = true := decide_eq_true c42
                                    clear c42
                                    by_cases c43 : t248 > (wrap64 (-a1))
                                    · rw [if_pos c43] at H
                                      have c43b0 : decide ((wrap64 (-a1)) < t248) = true := decide_eq_true c43
                                      clear c43
                                      have H' := Aside0.mk H
                                      clear H
                                      go_wp2
                                      go_meet
                                      case rel => exact ⟨_, (true), (by first | rfl | (simp; done) | (simp [*]; done)), H', ⟨by have := HJ5.out; have := HJ17.out; have := HJ31.out; first | omega | exact Nat.le_refl _⟩, ⟨by repeat (first | (with_reducible first | exact HB.out | apply below_alloc | apply pw_below_drewN | apply below_drew1) | exact HB.out)⟩⟩
                                    · rw [if_neg c43] at H
                                      have c43b0 : decide ((wrap64 (-a1)) < t248) = false := decide_eq_false c43
                                      clear c43
                                      by_cases c44 : a1 < 0
                                      · rw [if_pos c44] at H
                                        have c44b0 : decide (a1 < 0) = true := decide_eq_true c44
                                        clear c44
                                        by_cases c45 : t248 > a1
                                        · rw [if_pos c45] at H
                                          have c45b0 : decide (a1 < t248) = true := decide_eq_true c45
                                          clear c45
                                          by_cases c46 : t248 ≤ 0
                                          · rw [if_pos c46] at H
                                            have c46b0 : decide (t248 ≤ 0) = true := decide_eq_true c46
                                            clear c46
                                            have H' := Aside0.mk H
                                            clear H
                                            go_wp2
                                            go_meet
                                            case rel => exact ⟨_, (true), (by first | rfl | (simp; done) | (simp [*]; done)), H', ⟨by have := HJ5.out; have := HJ17.out; have := HJ31.out; first | omega | exact Nat.le_refl _⟩, ⟨by repeat (first | (with_reducible first | exact HB.out | apply below_alloc | apply pw_below_drewN | apply below_drew1) | exact HB.out)⟩⟩
                                          · rw [if_neg c46] at H
                                            have c46b0 : decide (t248 ≤ 0) = false := decide_eq_false c46
                                            clear c46
                                            have H' := Aside0.mk H
                                            clear H
                                            go_wp2
                                            go_meet
                                            case rel => exact ⟨_, (decide ((wrap64 (-t248)) > a1)), (by first | rfl | (simp; done) | (simp [*]; done)), H', ⟨by have := HJ5.out; have := HJ17.out; have := HJ31.out; first | omega | exact Nat.le_refl _⟩, ⟨by repeat (first | (with_reducible first | exact HB.out | apply below_alloc | apply pw_below_drewN | apply below_drew1) | exact HB.out)⟩⟩
                                        · rw [if_neg c45] at H
                                          have c45b0 : decide (a1 < t248) = false := decide_eq_false c45
                                          clear c45
                                          have H' := Aside0.mk H
                                          clear H
                                          go_wp2
                                          go_meet
                                          case rel => exact ⟨_, (false), (by first | rfl | (simp; done) | (simp [*]; done)), H', ⟨by have := HJ5.out; have := HJ17.out; have := HJ31.out; first | omega | exact Nat.le_refl _⟩, ⟨by repeat (first | (with_reducible first | exact HB.out | apply below_alloc | apply pw_below_drewN | apply below_drew1) | exact HB.out)⟩⟩
                                      · rw [if_neg c44] at H
                                        have c44b0 : decide (a1 < 0) = false := decide_eq_false c44
                                        clear c44
                                        have H' := Aside0.mk H
                                        clear H
                                        go_wp2
                                        go_meet
                                        case rel => exact ⟨_, (false), (by first | rfl | (simp; done) | (simp [*]; done)), H', ⟨by have := HJ5.out; have := HJ17.out; have := HJ31.out; first | omega | exact Nat.le_refl _⟩, ⟨by repeat (first | (with_reducible first | exact HB.out | apply below_alloc | apply pw_below_drewN | apply below_drew1) | exact HB.out)⟩⟩
                                  · rw [if_neg c42] at H
                                    have c42b0 : decide (t248 < a1) = false := decide_eq_false c42
                                    clear c42
                                    by_cases c47 : a1 < 0
                                    · rw [if_pos c47] at H
                                      have c47b0 : decide (a1 < 0) = true := decide_eq_true c47
                                      clear c47
                                      by_cases c48 : t248 > a1
                                      · rw [if_pos c48] at H
                                        have c48b0 : decide (a1 < t248) = true := decide_eq_true c48
                                        clear c48
                                        by_cases c49 : t248 ≤ 0
                                        · rw [if_pos c49] at H
                                          have c49b0 : decide (t248 ≤ 0) = true := decide_eq_true c49
                                          clear c49
                                          have H' := Aside0.mk H
                                          clear H
                                          go_wp2
                                          go_meet
                                          case rel => exact ⟨_, (true), (by first | rfl | (simp; done) | (simp [*]; done)), H', ⟨by have := HJ5.out; have := HJ17.out; have := HJ31.out; first | omega | exact Nat.le_refl _⟩, ⟨by repeat (first | (with_reducible first | exact HB.out | apply below_alloc | apply pw_below_drewN | apply below_drew1) | exact HB.out)⟩⟩
                                        · rw [if_neg c49] at H
                                          have c49b0 : decide (t248 ≤ 0) = false := decide_eq_false c49
                                          clear c49
                                          have H' := Aside0.mk H
                                          clear H
                                          go_wp2
                                          go_meet
                                          case rel => exact ⟨_, (decide ((wrap64 (-t248)) > a1)), (by first | rfl | (simp; done) | (simp [*]; done)), H', ⟨by have := HJ5.out; have := HJ17.out; have := HJ31.out; first | omega | exact Nat.le_refl _⟩, ⟨by repeat (first | (with_reducible first | exact HB.out | apply below_alloc | apply pw_below_drewN | apply below_drew1) | exact HB.out)⟩⟩
                                      · rw [if_neg c48] at H
                                        have c48b0 : decide (a1 < t248) = false := decide_eq_false c48
                                        clear c48
                                        have H' := Aside0.mk H
                                        clear H
                                        go_wp2
                                        go_meet
                                        case rel => exact ⟨_, (false), (by first | rfl | (simp; done) | (simp [*]; done)), H', ⟨by have := HJ5.out; have := HJ17.out; have := HJ31.out; first | omega | exact Nat.le_refl _⟩, ⟨by repeat (first | (with_reducible first | exact HB.out | apply below_alloc | apply pw_below_drewN | apply below_drew1) | exact HB.out)⟩⟩
                                    · rw [if_neg c47] at H
                                      have c47b0 : decide (a1 < 0) = false := decide_eq_false c47
                                      clear c47
                                      have H' := Aside0.mk H
                                      clear H
                                      go_wp2
                                      go_meet
                                      case rel => exact ⟨_, (false), (by first | rfl | (simp; done) | (simp [*]; done)), H', ⟨by have := HJ5.out; have := HJ17.out; have := HJ31.out; first | omega | exact Nat.le_refl _⟩, ⟨by repeat (first | (with_reducible first | exact HB.out | apply below_alloc | apply pw_below_drewN | apply below_drew1) | exact HB.out)⟩⟩
                                · rw [if_neg c41] at H
                                  have c41b0 : decide (0 < a1) = false := decide_eq_false c41
                                  clear c41
                                  (first | rw [c41b0] | (simp only [i64_w, i32_w]; rw [c41b0]) | skip)
                                  by_cases c50 : a1 < 0
                                  · rw [if_pos c50] at H
                                    have c50b0 : decide (a1 < 0) = true := decide_eq_true c50
                                    clear c50
                                    by_cases c51 : t248 > a1
                                    · rw [if_pos c51] at H
                                      have c51b0 : decide (a1 < t248) = true := decide_eq_true c51
                                      clear c51
                                      by_cases c52 : t248 ≤ 0
                                      · rw [if_pos c52] at H
                                        have c52b0 : decide (t248 ≤ 0) = true := decide_eq_true c52
                                        clear c52
                                        have H' := Aside0.mk H
                                        clear H
                                        go_wp2
                                        go_meet
                                        case rel => exact ⟨_, (true), (by first | rfl | (simp; done) | (simp [*]; done)), H', ⟨by have := HJ5.out; have := HJ17.out; have := HJ31.out; first | omega | exact Nat.le_refl _⟩, ⟨by repeat (first | (with_reducible first | exact HB.out | apply below_alloc | apply pw_below_drewN | apply below_drew1) | exact HB.out)⟩⟩
                                      · rw [if_neg c52] at H
                                        have c52b0 : decide (t248 ≤ 0) = false := decide_eq_false c52
                                        clear c52
                                        have H' := Aside0.mk H
                                        clear H
                                        go_wp2
                                        go_meet
                                        case rel => exact ⟨_, (decide ((wrap64 (-t248)) > a1)), (by first | rfl | (simp; done) | (simp [*]; done)), H', ⟨by have := HJ5.out; have := HJ17.out; have := HJ31.out; first | omega | exact Nat.le_refl _⟩, ⟨by repeat (first | (with_reducible first | exact HB.out | apply below_alloc | apply pw_below_drewN | apply below_drew1) | exact HB.out)⟩⟩
                                    · rw [if_neg c51] at H
                                      have c51b0 : decide (a1 < t248) = false := decide_eq_false c51
                                      clear c51
                                      have H' := Aside0.mk H
                                      clear H
                                      go_wp2
                                      go_meet
                                      case rel => exact ⟨_, (false), (by first | rfl | (simp; done) | (simp [*]; done)), H', ⟨by have := HJ5.out; have := HJ17.out; have := HJ31.out; first | omega | exact Nat.le_refl _⟩, ⟨by repeat (first | (with_reducible first | exact HB.out | apply below_alloc | apply pw_below_drewN | apply below_drew1) | exact HB.out)⟩⟩
                                  · rw [if_neg c50] at H
                                    have c50b0 : decide (a1 < 0) = false := decide_eq_false c50
                                    clear c50
                                    have H' := Aside0.mk H
                                    clear H
                                    go_wp2
                                    go_meet
                                    case rel => exact ⟨_, (false), (by first | rfl | (simp; done) | (simp [*]; done)), H', ⟨by have := HJ5.out; have := HJ17.out; have := HJ31.out; first | omega | exact Nat.le_refl _⟩, ⟨by repeat (first | (with_reducible first | exact HB.out | apply below_alloc | apply pw_below_drewN | apply below_drew1) | exact HB.out)⟩⟩
                            case rest =>
                              as_aux_lemma =>
                                clear HC40
                                try clear c1
                                try clear c2
                                try clear p2
                                try clear c3
                                try clear c4
                                try clear c5
                                try clear c6
                                try clear p6
                                try clear c8
                                try clear c10
                                try clear c10b0
                                try clear c10b1
                                try clear c11
                                try clear c11b0
                                try clear c11b1
                                try clear c11b2
                                try clear c12
                                try clear c13
                                try clear c14
                                try clear c22
                                try clear c22b0
                                try clear c22b1
                                try clear c23
                                try clear c23b0
                                try clear c23b1
                                try clear c23b2
                                try clear c24
                                try clear c25
                                try clear c25b0
                                try clear c25b1
                                try clear c26
                                try clear c27
                                try clear c29
                                try clear c36
                                try clear c37
                                try clear c38
                                try clear c38b0
                                try clear c38b1
                                try clear c39
                                try clear c41
                                try clear c41b0
                                try clear c42
                                try clear c42b0
                                try clear c43
                                try clear c43b0
                                try clear c44
                                try clear c44b0
                                try clear c45
                                try clear c45b0
                                try clear c46
                                try clear c46b0
                                try clear c47
                                try clear c47b0
                                try clear c48
                                try clear c48b0
                                try clear c49
                                try clear c49b0
                                try clear c50
                                try clear c50b0
                                try clear c51
                                try clear c51b0
                                try clear c52
                                try clear c52b0
                                try clear p2
                                obtain ⟨kq, x23_39, rfl, HA, HJ39, HB⟩ := hcut
                                cases kq with
                                | zero => exact absurd HA.out (by simp [gridironlaw01_NumBack.j3])
                                | succ kj39 =>
                                  have H := HA.out
                                  clear HA
                                  simp only [gridironlaw01_NumBack.j3] at H
                                  replace H := Option.bind_eq_some_iff.mp H
                                  obtain ⟨t250, A530, H⟩ := H
                                  replace H : (if t250 = true then (some x23_39) else (some false)) = some r := H
                                  have A53 := Aside0.mk A530
                                  clear A530
                                  by_cases c54 : t250 = true
                                  · subst c54
                                    have H1 : (some x23_39) = some r := by rw [if_pos rfl] at H; exact H
                                    clear H
                                    have H := H1
                                    clear H1
                                    obtain rfl := Option.some.inj H
                                    go_wp2_with (first | ((with_reducible refine gate_callee (f := 16) rfl ?_); refine goesL_ (some 182) rfl rfl Tryd.func16 (by kernel_rfl) rfl #[] rfl (by (try simp only [List.map_toArray, List.map_cons, List.map_nil]); first | done | rfl | (simp only [List.length_drop, List.length_take]; rfl)) ?_; (with_reducible refine (gridironlaw01_alive.calls kj39  true _ ?side1 A53.out).mono ?_); (case side1 => exact Glob.below HG.out (by repeat (first | (with_reducible first | exact HB.out | apply below_alloc | apply pw_below_drewN | apply below_drew1) | exact HB.out))); rintro e w55 ⟨rfl, hb⟩; refine ⟨_, rfl, ?_⟩; have n0_ := Aside0.mk (below_step (by repeat (first | (with_reducible first | exact HB.out | apply below_alloc | apply pw_below_drewN | apply below_drew1) | exact HB.out)) hb); clear HB; have HB := n0_; clear n0_; (try clear hb); (try clear hb2); (try clear hk); (try clear hi)))
                                    go_ret
                                    exact ⟨by first | rfl | (simp [errW_none, errW_some] <;> rfl) | (simp [*, errW_none, errW_some] <;> rfl), by repeat (first | (with_reducible first | exact HB.out | apply below_alloc | apply pw_below_drewN | apply below_drew1) | exact HB.out)⟩
                                  · replace c54 := Bool.eq_false_iff.mpr c54
                                    subst c54
                                    have H1 : (some false) = some r := by rw [if_neg (show ¬ (false = true) by decide)] at H; exact H
                                    clear H
                                    have H := H1
                                    clear H1
                                    obtain rfl := Option.some.inj H
                                    go_wp2_with (first | ((with_reducible refine gate_callee (f := 16) rfl ?_); refine goesL_ (some 182) rfl rfl Tryd.func16 (by kernel_rfl) rfl #[] rfl (by (try simp only [List.map_toArray, List.map_cons, List.map_nil]); first | done | rfl | (simp only [List.length_drop, List.length_take]; rfl)) ?_; (with_reducible refine (gridironlaw01_alive.calls kj39  false _ ?side1 A53.out).mono ?_); (case side1 => exact Glob.below HG.out (by repeat (first | (with_reducible first | exact HB.out | apply below_alloc | apply pw_below_drewN | apply below_drew1) | exact HB.out))); rintro e w56 ⟨rfl, hb⟩; refine ⟨_, rfl, ?_⟩; have n0_ := Aside0.mk (below_step (by repeat (first | (with_reducible first | exact HB.out | apply below_alloc | apply pw_below_drewN | apply below_drew1) | exact HB.out)) hb); clear HB; have HB := n0_; clear n0_; (try clear hb); (try clear hb2); (try clear hk); (try clear hi)))
                                    go_ret
                                    exact ⟨by first | rfl | (simp [errW_none, errW_some] <;> rfl) | (simp [*, errW_none, errW_some] <;> rfl), by repeat (first | (with_reducible first | exact HB.out | apply below_alloc | apply pw_below_drewN | apply below_drew1) | exact HB.out)⟩
                  · replace c29 := Bool.eq_false_iff.mpr c29
                    subst c29
                    have H1 : ((gridironlaw01_alive.f kj17).bind fun t245 => (if t245 = true then (if a1 = 0 then (some true) else (some (a1 == (-1)))) else (some false))) = some r := by rw [if_neg (show ¬ (false = true) by decide)] at H; exact H
                    clear H
                    have H := H1
                    clear H1
                    replace H := Option.bind_eq_some_iff.mp H
                    obtain ⟨t245, A570, H⟩ := H
                    replace H : (if t245 = true then (if a1 = 0 then (some true) else (some (a1 == (-1)))) else (some false)) = some r := H
                    have A57 := Aside0.mk A570
                    clear A570
                    by_cases c58 : t245 = true
                    · subst c58
                      have H1 : (if a1 = 0 then (some true) else (some (a1 == (-1)))) = some r := by rw [if_pos rfl] at H; exact H
                      clear H
                      have H := H1
                      clear H1
                      by_cases c59 : a1 = 0
                      · rw [if_pos c59] at H
                        have c59b0 : (a1 == 0) = true := beq_iff_eq.mpr c59
                        have c59b1 : (a1 != 0) = false := bne_eq_false_iff_eq.mpr c59
                        clear c59
                        obtain rfl := Option.some.inj H
                        go_wp2_with (first | ((with_reducible refine gate_callee (f := 12) rfl ?_); refine goesL_ (some 107) rfl rfl Tryd.func12 (by kernel_rfl) rfl #[.int .i64 a0, .int .i64 a1] rfl (by (try simp only [List.map_toArray, List.map_cons, List.map_nil]); first | done | rfl | (simp only [List.length_drop, List.length_take]; rfl)) ?_; (with_reducible refine (num_Div.calls kj17 a0 a1 t243 false _ A28.out).mono ?_); rintro e w60 ⟨rfl, hb⟩; refine ⟨_, rfl, ?_⟩; have n0_ := Aside0.mk (below_step (by repeat (first | (with_reducible first | exact HB.out | apply below_alloc | apply pw_below_drewN | apply below_drew1) | exact HB.out)) hb); clear HB; have HB := n0_; clear n0_; (try clear hb); (try clear hb2); (try clear hk); (try clear hi)) | ((with_reducible refine gate_callee (f := 16) rfl ?_); refine goesL_ (some 112) rfl rfl Tryd.func16 (by kernel_rfl) rfl #[] rfl (by (try simp only [List.map_toArray, List.map_cons, List.map_nil]); first | done | rfl | (simp only [List.length_drop, List.length_take]; rfl)) ?_; (with_reducible refine (gridironlaw01_alive.calls kj17  true _ ?side1 A57.out).mono ?_); (case side1 => exact Glob.below HG.out (by repeat (first | (with_reducible first | exact HB.out | apply below_alloc | apply pw_below_drewN | apply below_drew1) | exact HB.out))); rintro e w61 ⟨rfl, hb⟩; refine ⟨_, rfl, ?_⟩; have n0_ := Aside0.mk (below_step (by repeat (first | (with_reducible first | exact HB.out | apply below_alloc | apply pw_below_drewN | apply below_drew1) | exact HB.out)) hb); clear HB; have HB := n0_; clear n0_; (try clear hb); (try clear hb2); (try clear hk); (try clear hi)))
                        go_ret
                        exact ⟨by first | rfl | (simp [errW_none, errW_some] <;> rfl) | (simp [*, errW_none, errW_some] <;> rfl), by repeat (first | (with_reducible first | exact HB.out | apply below_alloc | apply pw_below_drewN | apply below_drew1) | exact HB.out)⟩
                      · rw [if_neg c59] at H
                        have c59b0 : (a1 == 0) = false := beq_eq_false_iff_ne.mpr c59
                        have c59b1 : (a1 != 0) = true := bne_iff_ne.mpr c59
                        obtain rfl := Option.some.inj H
                        go_wp2_with (first | ((with_reducible refine gate_callee (f := 12) rfl ?_); refine goesL_ (some 107) rfl rfl Tryd.func12 (by kernel_rfl) rfl #[.int .i64 a0, .int .i64 a1] rfl (by (try simp only [List.map_toArray, List.map_cons, List.map_nil]); first | done | rfl | (simp only [List.length_drop, List.length_take]; rfl)) ?_; (with_reducible refine (num_Div.calls kj17 a0 a1 t243 false _ A28.out).mono ?_); rintro e w62 ⟨rfl, hb⟩; refine ⟨_, rfl, ?_⟩; have n0_ := Aside0.mk (below_step (by repeat (first | (with_reducible first | exact HB.out | apply below_alloc | apply pw_below_drewN | apply below_drew1) | exact HB.out)) hb); clear HB; have HB := n0_; clear n0_; (try clear hb); (try clear hb2); (try clear hk); (try clear hi)) | ((with_reducible refine gate_callee (f := 16) rfl ?_); refine goesL_ (some 112) rfl rfl Tryd.func16 (by kernel_rfl) rfl #[] rfl (by (try simp only [List.map_toArray, List.map_cons, List.map_nil]); first | done | rfl | (simp only [List.length_drop, List.length_take]; rfl)) ?_; (with_reducible refine (gridironlaw01_alive.calls kj17  true _ ?side1 A57.out).mono ?_); (case side1 => exact Glob.below HG.out (by repeat (first | (with_reducible first | exact HB.out | apply below_alloc | apply pw_below_drewN | apply below_drew1) | exact HB.out))); rintro e w63 ⟨rfl, hb⟩; refine ⟨_, rfl, ?_⟩; have n0_ := Aside0.mk (below_step (by repeat (first | (with_reducible first | exact HB.out | apply below_alloc | apply pw_below_drewN | apply below_drew1) | exact HB.out)) hb); clear HB; have HB := n0_; clear n0_; (try clear hb); (try clear hb2); (try clear hk); (try clear hi)))
                        go_ret
                        exact ⟨by first | rfl | (simp [errW_none, errW_some] <;> rfl) | (simp [*, errW_none, errW_some] <;> rfl), by repeat (first | (with_reducible first | exact HB.out | apply below_alloc | apply pw_below_drewN | apply below_drew1) | exact HB.out)⟩
                    · replace c58 := Bool.eq_false_iff.mpr c58
                      subst c58
                      have H1 : (some false) = some r := by rw [if_neg (show ¬ (false = true) by decide)] at H; exact H
                      clear H
                      have H := H1
                      clear H1
                      obtain rfl := Option.some.inj H
                      go_wp2_with (first | ((with_reducible refine gate_callee (f := 12) rfl ?_); refine goesL_ (some 107) rfl rfl Tryd.func12 (by kernel_rfl) rfl #[.int .i64 a0, .int .i64 a1] rfl (by (try simp only [List.map_toArray, List.map_cons, List.map_nil]); first | done | rfl | (simp only [List.length_drop, List.length_take]; rfl)) ?_; (with_reducible refine (num_Div.calls kj17 a0 a1 t243 false _ A28.out).mono ?_); rintro e w64 ⟨rfl, hb⟩; refine ⟨_, rfl, ?_⟩; have n0_ := Aside0.mk (below_step (by repeat (first | (with_reducible first | exact HB.out | apply below_alloc | apply pw_below_drewN | apply below_drew1) | exact HB.out)) hb); clear HB; have HB := n0_; clear n0_; (try clear hb); (try clear hb2); (try clear hk); (try clear hi)) | ((with_reducible refine gate_callee (f := 16) rfl ?_); refine goesL_ (some 112) rfl rfl Tryd.func16 (by kernel_rfl) rfl #[] rfl (by (try simp only [List.map_toArray, List.map_cons, List.map_nil]); first | done | rfl | (simp only [List.length_drop, List.length_take]; rfl)) ?_; (with_reducible refine (gridironlaw01_alive.calls kj17  false _ ?side1 A57.out).mono ?_); (case side1 => exact Glob.below HG.out (by repeat (first | (with_reducible first | exact HB.out | apply below_alloc | apply pw_below_drewN | apply below_drew1) | exact HB.out))); rintro e w65 ⟨rfl, hb⟩; refine ⟨_, rfl, ?_⟩; have n0_ := Aside0.mk (below_step (by repeat (first | (with_reducible first | exact HB.out | apply below_alloc | apply pw_below_drewN | apply below_drew1) | exact HB.out)) hb); clear HB; have HB := n0_; clear n0_; (try clear hb); (try clear hb2); (try clear hk); (try clear hi)))
                      go_ret
                      exact ⟨by first | rfl | (simp [errW_none, errW_some] <;> rfl) | (simp [*, errW_none, errW_some] <;> rfl), by repeat (first | (with_reducible first | exact HB.out | apply below_alloc | apply pw_below_drewN | apply below_drew1) | exact HB.out)⟩

/-- THE ONE PURE STATEMENT of gridironlaw01_NumBack: yours. -/
def gridironlaw01_NumBack.Pure : Prop := ∀ (a0 : Int) (a1 : Int), (Lit.int .i64 a0).wf = true → (Lit.int .i64 a1).wf = true → ∃ k, gridironlaw01_NumBack.f k a0 a1 = some true
theorem gridironlaw01_NumBack.walk (P : gridironlaw01_NumBack.Pure) (a0 : Int) (a1 : Int) (w : World) (hG : Glob w) (w0 : (Lit.int .i64 a0).wf = true) (w1 : (Lit.int .i64 a1).wf = true) :
    Calls Tryd.prog 5 #[.int .i64 a0, .int .i64 a1] w fun e w' => e = .returned (.bool true) ∧ Below w.heap.size w w' := by
  obtain ⟨k, h⟩ := P a0 a1 w0 w1
  refine (gridironlaw01_NumBack.calls k a0 a1 true w hG h).mono ?_
  rintro e w' ⟨rfl, hd⟩
  exact ⟨rfl, hd⟩

end Go.Proofs.YtagajnfmfpihmaaDoor.G
