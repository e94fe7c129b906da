-- Written by a program of this work (wip/gp) out of the translation. Not trusted: Lean checks it.
import Derived.Test.YtagajnfmfpihmaaDoorG0
import Derived.Test.YtagajnfmfpihmaaDoorGGridironref01Both
import Derived.Test.YtagajnfmfpihmaaDoorGGridironref01Signed
import Derived.Test.YtagajnfmfpihmaaDoorGGridironref01Size
namespace Go.Proofs.YtagajnfmfpihmaaDoor.G
open Go.RowKit Go.Proofs.YtagajnfmfpihmaaDoorW.PrintWords Go.Proofs.YtagajnfmfpihmaaDoorW.PrintLast Go.Proofs.YtagajnfmfpihmaaDoorW.PrintMore
attribute [local go_sem] max2_int min2_int max_two min_two max_three min_three max_four min_four
set_option linter.unusedVariables false
set_option linter.unusedSimpArgs false

/-! ### gridironref01_Sub: function 9 -/
def gridironref01_Sub.f (k : Nat) (a0 : Int) (a1 : Int) : Option (Int × Bool) := (gridironref01_size.f a0).bind fun t123 => ((gridironref01_size.f a1).bind fun t124 => (if ((decide (a0 < 0)) != (decide (a1 < 0))) = true then ((gridironref01_both.f k t123 t124 (decide (a0 < 0))).bind fun bt125 => (some (bt125.1, bt125.2))) else (if t123 ≥ t124 then ((gridironref01_signed.f k (IntKind.u64.wrap (t123 - t124)) (decide (a0 < 0))).bind fun bt127 => (some (bt127.1, bt127.2))) else ((gridironref01_signed.f k (IntKind.u64.wrap (t124 - t123)) (decide (a0 ≥ 0))).bind fun bt129 => (some (bt129.1, bt129.2))))))
theorem gridironref01_Sub.mono : ∀ a0 a1 k, LeO (gridironref01_Sub.f k a0 a1) (gridironref01_Sub.f (k + 1) a0 a1) := by
  intro a0 a1 k
  unfold gridironref01_Sub.f
  repeat' first
      | (with_reducible exact gridironref01_both.mono _ _ _ _)
      | (with_reducible exact gridironref01_signed.mono _ _ _)
      | (with_reducible exact LeO.refl _)
      | (with_reducible exact LeO.none _)
      | (with_reducible refine LeO.ite ?_ ?_)
      | (with_reducible refine LeO.bind ?_ (fun _ => ?_))
      | exact gridironref01_both.mono _ _ _ _
      | exact gridironref01_signed.mono _ _ _
      | exact LeO.none _
      | refine LeO.ite ?_ ?_
      | refine LeO.bind ?_ (fun _ => ?_)
set_option maxHeartbeats 8000000 in
set_option maxRecDepth 100000 in
theorem gridironref01_Sub.calls (k : Nat) (a0 : Int) (a1 : Int) (r1 : Int) (r2 : Bool) (w : World) (h : gridironref01_Sub.f k a0 a1 = some (r1, r2)) :
    Calls Tryd.prog 9 #[.int .i64 a0, .int .i64 a1] w fun e w' => e = .returned (.tuple #[.int .i64 r1, .bool r2]) ∧ Drawn0 w w' := by
  have H : ((gridironref01_size.f a0).bind fun t123 => ((gridironref01_size.f a1).bind fun t124 => (if ((decide (a0 < 0)) != (decide (a1 < 0))) = true then ((gridironref01_both.f k t123 t124 (decide (a0 < 0))).bind fun bt125 => (some (bt125.1, bt125.2))) else (if t123 ≥ t124 then ((gridironref01_signed.f k (IntKind.u64.wrap (t123 - t124)) (decide (a0 < 0))).bind fun bt127 => (some (bt127.1, bt127.2))) else ((gridironref01_signed.f k (IntKind.u64.wrap (t124 - t123)) (decide (a0 ≥ 0))).bind fun bt129 => (some (bt129.1, bt129.2))))))) = some (r1, r2) := h
  clear h
  replace H := Option.bind_eq_some_iff.mp H
  obtain ⟨t123, A30, H⟩ := H
  replace H : ((gridironref01_size.f a1).bind fun t124 => (if ((decide (a0 < 0)) != (decide (a1 < 0))) = true then ((gridironref01_both.f k t123 t124 (decide (a0 < 0))).bind fun bt125 => (some (bt125.1, bt125.2))) else (if t123 ≥ t124 then ((gridironref01_signed.f k (IntKind.u64.wrap (t123 - t124)) (decide (a0 < 0))).bind fun bt127 => (some (bt127.1, bt127.2))) else ((gridironref01_signed.f k (IntKind.u64.wrap (t124 - t123)) (decide (a0 ≥ 0))).bind fun bt129 => (some (bt129.1, bt129.2)))))) = some (r1, r2) := H
  have A3 := Aside0.mk A30
  clear A30
  replace H := Option.bind_eq_some_iff.mp H
  obtain ⟨t124, A40, H⟩ := H
  replace H : (if ((decide (a0 < 0)) != (decide (a1 < 0))) = true then ((gridironref01_both.f k t123 t124 (decide (a0 < 0))).bind fun bt125 => (some (bt125.1, bt125.2))) else (if t123 ≥ t124 then ((gridironref01_signed.f k (IntKind.u64.wrap (t123 - t124)) (decide (a0 < 0))).bind fun bt127 => (some (bt127.1, bt127.2))) else ((gridironref01_signed.f k (IntKind.u64.wrap (t124 - t123)) (decide (a0 ≥ 0))).bind fun bt129 => (some (bt129.1, bt129.2))))) = some (r1, r2) := H
  have A4 := Aside0.mk A40
  clear A40
  by_cases c5 : ((decide (a0 < 0)) != (decide (a1 < 0))) = true
  · rw [if_pos c5] at H
    have c5b0 : ((decide (a0 < 0)) != (decide (a1 < 0))) = true := c5
    (try (have c5b1 : decide ((decide (a0 < 0)) = (decide (a1 < 0))) = false := by simpa using c5))
    (try (have c5b2 : ((decide (a0 < 0)) == (decide (a1 < 0))) = false := by simpa using c5))
    (try (have c5b3 : ¬ ((decide (a0 < 0)) = (decide (a1 < 0))) := by simpa using c5))
    clear c5
    replace H := Option.bind_eq_some_iff.mp H
    obtain ⟨⟨t125, t126⟩, A60, H⟩ := H
    replace H : (some (t125, t126)) = some (r1, r2) := H
    have A6 := Aside0.mk A60
    clear A60
    simp only [Option.some.injEq, Prod.mk.injEq] at H
    obtain ⟨rfl, rfl⟩ := H
    go_enter Tryd.func9, Tryd.ntmps9
    go_wp2_with (first | ((with_reducible refine gate_callee (f := 22) rfl ?_); refine goesL_ (some 9) rfl rfl Tryd.func22 (by kernel_rfl) rfl #[.int .i64 a0] rfl (by (try simp only [List.map_toArray, List.map_cons, List.map_nil]); first | done | rfl | (simp only [List.length_drop, List.length_take]; rfl)) ?_; (with_reducible refine (gridironref01_size.calls a0 t123 _ A3.out).mono ?_); rintro e w' ⟨rfl, ⟨nd, rfl⟩⟩; refine ⟨_, rfl, ?_⟩) | ((with_reducible refine gate_callee (f := 22) rfl ?_); refine goesL_ (some 11) rfl rfl Tryd.func22 (by kernel_rfl) rfl #[.int .i64 a1] rfl (by (try simp only [List.map_toArray, List.map_cons, List.map_nil]); first | done | rfl | (simp only [List.length_drop, List.length_take]; rfl)) ?_; (with_reducible refine (gridironref01_size.calls a1 t124 _ A4.out).mono ?_); rintro e w' ⟨rfl, ⟨nd, rfl⟩⟩; refine ⟨_, rfl, ?_⟩) | ((with_reducible refine gate_callee (f := 23) rfl ?_); refine goesL_ (some 21) rfl rfl Tryd.func23 (by kernel_rfl) rfl #[.int .u64 t123, .int .u64 t124, .bool (decide (a0 < 0))] rfl (by (try simp only [List.map_toArray, List.map_cons, List.map_nil]); first | done | rfl | (simp only [List.length_drop, List.length_take]; rfl)) ?_; (with_reducible refine (gridironref01_both.calls k t123 t124 (decide (a0 < 0)) t125 t126 _ A6.out).mono ?_); rintro e w' ⟨rfl, ⟨nd, rfl⟩⟩; refine ⟨_, rfl, ?_⟩))
    go_ret2
    exact ⟨by first | rfl | (simp; done) | (simp [*]; done), by repeat (first | exact Drawn0.refl _ | apply Drawn0.step)⟩
  · rw [if_neg c5] at H
    have c5b0 : ((decide (a0 < 0)) != (decide (a1 < 0))) = false := by simpa using c5
    (try (have c5b1 : decide ((decide (a0 < 0)) = (decide (a1 < 0))) = true := by simpa using c5))
    (try (have c5b2 : ((decide (a0 < 0)) == (decide (a1 < 0))) = true := by simpa using c5))
    clear c5
    by_cases c7 : t123 ≥ t124
    · rw [if_pos c7] at H
      have c7b0 : decide (t124 ≤ t123) = true := decide_eq_true c7
      clear c7
      replace H := Option.bind_eq_some_iff.mp H
      obtain ⟨⟨t127, t128⟩, A80, H⟩ := H
      replace H : (some (t127, t128)) = some (r1, r2) := H
      have A8 := Aside0.mk A80
      clear A80
      simp only [Option.some.injEq, Prod.mk.injEq] at H
      obtain ⟨rfl, rfl⟩ := H
      go_enter Tryd.func9, Tryd.ntmps9
      go_wp2_with (first | ((with_reducible refine gate_callee (f := 22) rfl ?_); refine goesL_ (some 9) rfl rfl Tryd.func22 (by kernel_rfl) rfl #[.int .i64 a0] rfl (by (try simp only [List.map_toArray, List.map_cons, List.map_nil]); first | done | rfl | (simp only [List.length_drop, List.length_take]; rfl)) ?_; (with_reducible refine (gridironref01_size.calls a0 t123 _ A3.out).mono ?_); rintro e w' ⟨rfl, ⟨nd, rfl⟩⟩; refine ⟨_, rfl, ?_⟩) | ((with_reducible refine gate_callee (f := 22) rfl ?_); refine goesL_ (some 11) rfl rfl Tryd.func22 (by kernel_rfl) rfl #[.int .i64 a1] rfl (by (try simp only [List.map_toArray, List.map_cons, List.map_nil]); first | done | rfl | (simp only [List.length_drop, List.length_take]; rfl)) ?_; (with_reducible refine (gridironref01_size.calls a1 t124 _ A4.out).mono ?_); rintro e w' ⟨rfl, ⟨nd, rfl⟩⟩; refine ⟨_, rfl, ?_⟩) | ((with_reducible refine gate_callee (f := 24) rfl ?_); refine goesL_ (some 32) rfl rfl Tryd.func24 (by kernel_rfl) rfl #[.int .u64 (IntKind.u64.wrap (t123 - t124)), .bool (decide (a0 < 0))] rfl (by (try simp only [List.map_toArray, List.map_cons, List.map_nil]); first | done | rfl | (simp only [List.length_drop, List.length_take]; rfl)) ?_; (with_reducible refine (gridironref01_signed.calls k (IntKind.u64.wrap (t123 - t124)) (decide (a0 < 0)) t127 t128 _ A8.out).mono ?_); rintro e w' ⟨rfl, ⟨nd, rfl⟩⟩; refine ⟨_, rfl, ?_⟩))
      go_ret2
      exact ⟨by first | rfl | (simp; done) | (simp [*]; done), by repeat (first | exact Drawn0.refl _ | apply Drawn0.step)⟩
    · rw [if_neg c7] at H
      have c7b0 : decide (t124 ≤ t123) = false := decide_eq_false c7
      clear c7
      replace H := Option.bind_eq_some_iff.mp H
      obtain ⟨⟨t129, t130⟩, A90, H⟩ := H
      replace H : (some (t129, t130)) = some (r1, r2) := H
      have A9 := Aside0.mk A90
      clear A90
      simp only [Option.some.injEq, Prod.mk.injEq] at H
      obtain ⟨rfl, rfl⟩ := H
      go_enter Tryd.func9, Tryd.ntmps9
      go_wp2_with (first | ((with_reducible refine gate_callee (f := 22) rfl ?_); refine goesL_ (some 9) rfl rfl Tryd.func22 (by kernel_rfl) rfl #[.int .i64 a0] rfl (by (try simp only [List.map_toArray, List.map_cons, List.map_nil]); first | done | rfl | (simp only [List.length_drop, List.length_take]; rfl)) ?_; (with_reducible refine (gridironref01_size.calls a0 t123 _ A3.out).mono ?_); rintro e w' ⟨rfl, ⟨nd, rfl⟩⟩; refine ⟨_, rfl, ?_⟩) | ((with_reducible refine gate_callee (f := 22) rfl ?_); refine goesL_ (some 11) rfl rfl Tryd.func22 (by kernel_rfl) rfl #[.int .i64 a1] rfl (by (try simp only [List.map_toArray, List.map_cons, List.map_nil]); first | done | rfl | (simp only [List.length_drop, List.length_take]; rfl)) ?_; (with_reducible refine (gridironref01_size.calls a1 t124 _ A4.out).mono ?_); rintro e w' ⟨rfl, ⟨nd, rfl⟩⟩; refine ⟨_, rfl, ?_⟩) | ((with_reducible refine gate_callee (f := 24) rfl ?_); refine goesL_ (some 40) rfl rfl Tryd.func24 (by kernel_rfl) rfl #[.int .u64 (IntKind.u64.wrap (t124 - t123)), .bool (decide (a0 ≥ 0))] rfl (by (try simp only [List.map_toArray, List.map_cons, List.map_nil]); first | done | rfl | (simp only [List.length_drop, List.length_take]; rfl)) ?_; (with_reducible refine (gridironref01_signed.calls k (IntKind.u64.wrap (t124 - t123)) (decide (a0 ≥ 0)) t129 t130 _ A9.out).mono ?_); rintro e w' ⟨rfl, ⟨nd, rfl⟩⟩; refine ⟨_, rfl, ?_⟩))
      go_ret2
      exact ⟨by first | rfl | (simp; done) | (simp [*]; done), by repeat (first | exact Drawn0.refl _ | apply Drawn0.step)⟩

end Go.Proofs.YtagajnfmfpihmaaDoor.G
