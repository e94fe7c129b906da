import Derived.Test.YtadepmefdanenaaDoorAT
import Derived.Test.YtadepmefdanenaaDoorA16
/-! Contracts: place. -/
namespace Go.AL
open Go.Proofs
set_option linter.unusedSimpArgs false
set_option linter.unusedVariables false
attribute [simp] keep frm
theorem draws : Tryd.prog.follows .mixedOrders = true := by kernel_rfl
/-- The number, if so. -/
def z (b : Bool) (n : Int) : Int := if b = true then n else 0
@[simp] theorem z_true (n : Int) : z true n = n := rfl
@[simp] theorem z_false (n : Int) : z false n = 0 := rfl
abbrev place (c r : Int) : AV := .agg [vi c, vi r]
def rightP (c r : Int) : Bool := decide (0 ≤ c) && decide (c < 16) && decide (0 ≤ r) && decide (r < 64)
set_option maxRecDepth 100000 in
theorem right_ok (c r : Int) : APure Tryd.prog 14 [place c r] (vb (rightP c r)) := by
  refine apure_of Tryd.func14 Tryd.ntmps14 rfl ?_
  simp only [List.length_cons, List.length_nil, List.cons_append, List.nil_append, List.replicate]
  repeat' (first
    | refine aw_seq ?_
    | (refine aw_run [] ?_; simp -implicitDefEqProofs)
    | (refine aw_ymix [] draws (by decide +kernel) ?_; simp -implicitDefEqProofs)
    | (refine aw_yrun draws (by kernel_rfl) ?_; simp -implicitDefEqProofs)
    | (refine awl_skip' [] rfl ?_; simp -implicitDefEqProofs)
    | (refine aw_cond rfl (fun h => ?_) (fun h => ?_) <;> try (with_reducible first | exact ff_tt h | exact tt_ff h))
    | (refine aw_skip ?_; simp -implicitDefEqProofs)
    | refine aw_block ?_
    | (refine aw_exit ?_; simp -implicitDefEqProofs)
    | refine aw_ret (ret_of (.inr rfl) (by simp [Tryd.results14]; rfl) (Fin.of ?_)))
  simp [rightP]
theorem wmul {a : Int} (h : 0 ≤ a) (h2 : a < 64) : IntKind.i64.wrap (a * 16) = a * 16 := wrap_id (by omega) (by omega)
set_option maxRecDepth 100000 in
theorem index_ok (c r : Int) : APure Tryd.prog 18 [place c r] (vi (if rightP c r then r * 16 + c else -1)) := by
  refine apure_of Tryd.func18 Tryd.ntmps18 rfl ?_
  simp only [List.length_cons, List.length_nil, List.cons_append, List.nil_append, List.replicate]
  repeat' (first
    | refine aw_seq ?_
    | (refine aw_run [] ?_; simp -implicitDefEqProofs)
    | (refine aw_ymix [] draws (by decide +kernel) ?_; simp -implicitDefEqProofs)
    | (refine aw_yrun draws (by kernel_rfl) ?_; simp -implicitDefEqProofs)
    | (refine awl_skip' [] rfl ?_; simp -implicitDefEqProofs)
    | (refine awl_pure_guard [] rfl rfl rfl (by kernel_rfl) rfl (fun hc => by first | exact right_ok _ _) (by simp) (by simp) (by simp) ?_; simp -implicitDefEqProofs)
    | (refine yl_pureG rfl rfl rfl (by kernel_rfl) rfl (fun hc => by first | exact right_ok _ _) (by simp) (by simp) (by simp) ?_; simp -implicitDefEqProofs)
    | (refine awl_pure' [] rfl rfl rfl (by kernel_rfl) rfl (by first | exact right_ok _ _) (by simp) (by simp) ?_; simp -implicitDefEqProofs)
    | (refine yl_pure rfl rfl rfl (by kernel_rfl) rfl (by first | exact right_ok _ _) (by simp) (by simp) ?_; simp -implicitDefEqProofs)
    | (refine aw_cond rfl (fun h => ?_) (fun h => ?_) <;> try (with_reducible first | exact ff_tt h | exact tt_ff h))
    | (refine aw_skip ?_; simp -implicitDefEqProofs)
    | refine aw_block ?_
    | (refine aw_exit ?_; simp -implicitDefEqProofs)
    | refine aw_ret (ret_of (.inr rfl) (by simp [Tryd.results18]; rfl) (Fin.of ?_)))
  · simp_all
  · simp at h
    have h' := h
    simp [rightP] at h'
    rw [wmul (by omega) (by omega), wrap_id (by omega) (by omega)]
    simp [h]
def atC (i : Int) : Int := if 0 ≤ i ∧ i < 1024 then i % 16 else 0
def atR (i : Int) : Int := if 0 ≤ i ∧ i < 1024 then i / 16 else 0
set_option maxRecDepth 100000 in
theorem at_ok (i : Int) : APure Tryd.prog 12 [vi i] (.tup [place (atC i) (atR i), vb (decide (0 ≤ i ∧ i < 1024))]) := by
  refine apure_of Tryd.func12 Tryd.ntmps12 rfl ?_
  simp only [List.length_cons, List.length_nil, List.cons_append, List.nil_append, List.replicate]
  repeat' (first
    | refine aw_seq ?_
    | (refine aw_run [2] ?_; simp -implicitDefEqProofs)
    | (refine aw_ymix [2] draws (by decide +kernel) ?_; simp -implicitDefEqProofs)
    | (refine aw_yrun draws (by kernel_rfl) ?_; simp -implicitDefEqProofs)
    | (refine awl_skip' [2] rfl ?_; simp -implicitDefEqProofs)
    | (refine aw_cond rfl (fun h => ?_) (fun h => ?_) <;> try (with_reducible first | exact ff_tt h | exact tt_ff h))
    | (refine aw_skip ?_; simp -implicitDefEqProofs)
    | refine aw_block ?_
    | (refine aw_exit ?_; simp -implicitDefEqProofs)
    | refine aw_ret (ret_of (.inr rfl) (by simp [Tryd.results12]; rfl) (Fin.of ?_)))
  · simp [tupOf] at h ⊢
    have : ¬ (0 ≤ i ∧ i < 1024) := by omega
    simp [atC, atR, this]
    omega
  · simp [tupOf] at h ⊢
    have h1 : 0 ≤ i ∧ i < 1024 := by omega
    rw [Int.tdiv_eq_ediv_of_nonneg h1.1, wrap_id (by omega) (by omega)]
    simp [atC, atR, h1, Int.tmod_eq_emod_of_nonneg h1.1]
theorem mn (a b : Int) : (if b < a then b else a) = min a b := by omega
theorem mx (a b : Int) : (if a < b then b else a) = max a b := by omega
abbrev range (a b c d : Int) : AV := .agg [vi a, vi b, vi c, vi d]
def spanP (a b c d : Int) : Bool := rightP a b && rightP c d
set_option maxRecDepth 100000 in
theorem span_ok (a b c d : Int) : APure Tryd.prog 24 [place a b, place c d] (.tup [range (z (spanP a b c d) (min a c)) (z (spanP a b c d) (min b d)) (z (spanP a b c d) (max a c)) (z (spanP a b c d) (max b d)), vb (spanP a b c d)]) := by
  refine apure_of Tryd.func24 Tryd.ntmps24 rfl ?_
  simp only [List.length_cons, List.length_nil, List.cons_append, List.nil_append, List.replicate]
  repeat' (first
    | refine aw_seq ?_
    | (refine aw_run [4] ?_; simp -implicitDefEqProofs)
    | (refine aw_ymix [4] draws (by decide +kernel) ?_; simp -implicitDefEqProofs)
    | (refine aw_yrun draws (by kernel_rfl) ?_; simp -implicitDefEqProofs)
    | (refine awl_skip' [4] rfl ?_; simp -implicitDefEqProofs)
    | (refine awl_pure_guard [4] rfl rfl rfl (by kernel_rfl) rfl (fun hc => by first | exact right_ok _ _) (by simp) (by simp) (by simp) ?_; simp -implicitDefEqProofs)
    | (refine yl_pureG rfl rfl rfl (by kernel_rfl) rfl (fun hc => by first | exact right_ok _ _) (by simp) (by simp) (by simp) ?_; simp -implicitDefEqProofs)
    | (refine awl_pure' [4] rfl rfl rfl (by kernel_rfl) rfl (by first | exact right_ok _ _) (by simp) (by simp) ?_; simp -implicitDefEqProofs)
    | (refine yl_pure rfl rfl rfl (by kernel_rfl) rfl (by first | exact right_ok _ _) (by simp) (by simp) ?_; simp -implicitDefEqProofs)
    | (refine aw_cond rfl (fun h => ?_) (fun h => ?_) <;> try (with_reducible first | exact ff_tt h | exact tt_ff h))
    | (refine aw_skip ?_; simp -implicitDefEqProofs)
    | refine aw_block ?_
    | (refine aw_exit ?_; simp -implicitDefEqProofs)
    | refine aw_ret (ret_of (.inr rfl) (by simp [Tryd.results24]; rfl) (Fin.of ?_)))
  · have h' : spanP a b c d = false := by simp [spanP] at h ⊢; grind
    simp [h', tupOf]
  · have h' : spanP a b c d = true := by simp [spanP] at h ⊢; exact h
    simp [h', tupOf, mn, mx]
def withinP (c r a b d e : Int) : Bool := decide (a ≤ c) && decide (c ≤ d) && decide (b ≤ r) && decide (r ≤ e)
set_option maxRecDepth 100000 in
theorem within_ok (c r a b d e : Int) : APure Tryd.prog 60 [place c r, place a b, place d e] (vb (withinP c r a b d e)) := by
  refine apure_of Tryd.func60 Tryd.ntmps60 rfl ?_
  simp only [List.length_cons, List.length_nil, List.cons_append, List.nil_append, List.replicate]
  repeat' (first
    | refine aw_seq ?_
    | (refine aw_run [] ?_; simp -implicitDefEqProofs)
    | (refine aw_ymix [] draws (by decide +kernel) ?_; simp -implicitDefEqProofs)
    | (refine aw_yrun draws (by kernel_rfl) ?_; simp -implicitDefEqProofs)
    | (refine awl_skip' [] rfl ?_; simp -implicitDefEqProofs)
    | (refine aw_cond rfl (fun h => ?_) (fun h => ?_) <;> try (with_reducible first | exact ff_tt h | exact tt_ff h))
    | (refine aw_skip ?_; simp -implicitDefEqProofs)
    | refine aw_block ?_
    | (refine aw_exit ?_; simp -implicitDefEqProofs)
    | refine aw_ret (ret_of (.inr rfl) (by simp [Tryd.results60]; rfl) (Fin.of ?_)))
  simp [withinP]
def wholeP (a b c d : Int) : Bool := rightP a b && rightP c d && withinP a b a b c d
set_option maxRecDepth 100000 in
theorem whole_ok (a b c d : Int) : APure Tryd.prog 32 [range a b c d] (vb (wholeP a b c d)) := by
  refine apure_of Tryd.func32 Tryd.ntmps32 rfl ?_
  simp only [List.length_cons, List.length_nil, List.cons_append, List.nil_append, List.replicate]
  repeat' (first
    | refine aw_seq ?_
    | (refine aw_run [] ?_; simp -implicitDefEqProofs)
    | (refine aw_ymix [] draws (by decide +kernel) ?_; simp -implicitDefEqProofs)
    | (refine aw_yrun draws (by kernel_rfl) ?_; simp -implicitDefEqProofs)
    | (refine awl_skip' [] rfl ?_; simp -implicitDefEqProofs)
    | (refine awl_pure_guard [] rfl rfl rfl (by kernel_rfl) rfl (fun hc => by first | exact right_ok _ _ | exact within_ok _ _ _ _ _ _) (by simp) (by simp) (by simp) ?_; simp -implicitDefEqProofs)
    | (refine yl_pureG rfl rfl rfl (by kernel_rfl) rfl (fun hc => by first | exact right_ok _ _ | exact within_ok _ _ _ _ _ _) (by simp) (by simp) (by simp) ?_; simp -implicitDefEqProofs)
    | (refine awl_pure' [] rfl rfl rfl (by kernel_rfl) rfl (by first | exact right_ok _ _ | exact within_ok _ _ _ _ _ _) (by simp) (by simp) ?_; simp -implicitDefEqProofs)
    | (refine yl_pure rfl rfl rfl (by kernel_rfl) rfl (by first | exact right_ok _ _ | exact within_ok _ _ _ _ _ _) (by simp) (by simp) ?_; simp -implicitDefEqProofs)
    | (refine aw_cond rfl (fun h => ?_) (fun h => ?_) <;> try (with_reducible first | exact ff_tt h | exact tt_ff h))
    | (refine aw_skip ?_; simp -implicitDefEqProofs)
    | refine aw_block ?_
    | (refine aw_exit ?_; simp -implicitDefEqProofs)
    | refine aw_ret (ret_of (.inr rfl) (by simp [Tryd.results32]; rfl) (Fin.of ?_)))
  simp [wholeP, tupOf]
def hasP (a b c d x y : Int) : Bool := wholeP a b c d && withinP x y a b c d
set_option maxRecDepth 100000 in
theorem has_ok (a b c d x y : Int) : APure Tryd.prog 25 [range a b c d, place x y] (vb (hasP a b c d x y)) := by
  refine apure_of Tryd.func25 Tryd.ntmps25 rfl ?_
  simp only [List.length_cons, List.length_nil, List.cons_append, List.nil_append, List.replicate]
  repeat' (first
    | refine aw_seq ?_
    | (refine aw_run [] ?_; simp -implicitDefEqProofs)
    | (refine aw_ymix [] draws (by decide +kernel) ?_; simp -implicitDefEqProofs)
    | (refine aw_yrun draws (by kernel_rfl) ?_; simp -implicitDefEqProofs)
    | (refine awl_skip' [] rfl ?_; simp -implicitDefEqProofs)
    | (refine awl_pure_guard [] rfl rfl rfl (by kernel_rfl) rfl (fun hc => by first | exact whole_ok _ _ _ _ | exact within_ok _ _ _ _ _ _) (by simp) (by simp) (by simp) ?_; simp -implicitDefEqProofs)
    | (refine yl_pureG rfl rfl rfl (by kernel_rfl) rfl (fun hc => by first | exact whole_ok _ _ _ _ | exact within_ok _ _ _ _ _ _) (by simp) (by simp) (by simp) ?_; simp -implicitDefEqProofs)
    | (refine awl_pure' [] rfl rfl rfl (by kernel_rfl) rfl (by first | exact whole_ok _ _ _ _ | exact within_ok _ _ _ _ _ _) (by simp) (by simp) ?_; simp -implicitDefEqProofs)
    | (refine yl_pure rfl rfl rfl (by kernel_rfl) rfl (by first | exact whole_ok _ _ _ _ | exact within_ok _ _ _ _ _ _) (by simp) (by simp) ?_; simp -implicitDefEqProofs)
    | (refine aw_cond rfl (fun h => ?_) (fun h => ?_) <;> try (with_reducible first | exact ff_tt h | exact tt_ff h))
    | (refine aw_skip ?_; simp -implicitDefEqProofs)
    | refine aw_block ?_
    | (refine aw_exit ?_; simp -implicitDefEqProofs)
    | refine aw_ret (ret_of (.inr rfl) (by simp [Tryd.results25]; rfl) (Fin.of ?_)))
  simp [hasP, tupOf]
def meetP (a b c d e f g h : Int) : Bool := wholeP a b c d && wholeP e f g h && wholeP (max a e) (max b f) (min c g) (min d h)
set_option maxRecDepth 100000 in
theorem meet_ok (a b c d e f g i : Int) : APure Tryd.prog 28 [range a b c d, range e f g i] (.tup [range (z (meetP a b c d e f g i) (max a e)) (z (meetP a b c d e f g i) (max b f)) (z (meetP a b c d e f g i) (min c g)) (z (meetP a b c d e f g i) (min d i)), vb (meetP a b c d e f g i)]) := by
  refine apure_of Tryd.func28 Tryd.ntmps28 rfl ?_
  simp only [List.length_cons, List.length_nil, List.cons_append, List.nil_append, List.replicate]
  repeat' (first
    | refine aw_seq ?_
    | (refine aw_run [4, 6] ?_; simp -implicitDefEqProofs)
    | (refine aw_ymix [4, 6] draws (by decide +kernel) ?_; simp -implicitDefEqProofs)
    | (refine aw_yrun draws (by kernel_rfl) ?_; simp -implicitDefEqProofs)
    | (refine awl_skip' [4, 6] rfl ?_; simp -implicitDefEqProofs)
    | (refine awl_pure_guard [4, 6] rfl rfl rfl (by kernel_rfl) rfl (fun hc => by first | exact whole_ok _ _ _ _) (by simp) (by simp) (by simp) ?_; simp -implicitDefEqProofs)
    | (refine yl_pureG rfl rfl rfl (by kernel_rfl) rfl (fun hc => by first | exact whole_ok _ _ _ _) (by simp) (by simp) (by simp) ?_; simp -implicitDefEqProofs)
    | (refine awl_pure' [4, 6] rfl rfl rfl (by kernel_rfl) rfl (by first | exact whole_ok _ _ _ _) (by simp) (by simp) ?_; simp -implicitDefEqProofs)
    | (refine yl_pure rfl rfl rfl (by kernel_rfl) rfl (by first | exact whole_ok _ _ _ _) (by simp) (by simp) ?_; simp -implicitDefEqProofs)
    | (refine aw_cond rfl (fun h => ?_) (fun h => ?_) <;> try (with_reducible first | exact ff_tt h | exact tt_ff h))
    | (refine aw_skip ?_; simp -implicitDefEqProofs)
    | refine aw_block ?_
    | (refine aw_exit ?_; simp -implicitDefEqProofs)
    | refine aw_ret (ret_of (.inr rfl) (by simp [Tryd.results28]; rfl) (Fin.of ?_)))
  · have h' : meetP a b c d e f g i = false := by simp [meetP, mn, mx] at h ⊢; grind
    simp [h', tupOf]
  · have h' : meetP a b c d e f g i = true := by simp [meetP, mn, mx] at h ⊢; grind
    simp [h', tupOf, mn, mx]
end Go.AL
