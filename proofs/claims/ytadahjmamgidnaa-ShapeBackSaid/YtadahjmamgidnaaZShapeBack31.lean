/- The row of the law ShapeBack: for every input the law returns true, and the input reads as it did. Conditions: none beyond the row's own cells. -/
import Derived.Test.YtadahjmamgidnaaRows
import Derived.Test.YtadahjmamgidnaaZShapeBack30
import Derived.WalkKit
import Derived.ProofKit
import Derived.OpenShut
import Derived.ShutString
import Derived.ChangeOld
import Derived.Below
import Derived.SizedLaws
import Derived.Test.YtadahjmamgidnaaZShapeBack14
namespace Go.Proofs.Ytadahjmamgidnaa.shapeBack
open Go.ChangeShapes Go.WideShapes Go.ChangeAt Go.RowKit
open Go.ChangeMaps (open_string shut_string)
set_option linter.unusedVariables false
theorem own : ownKnob Try.prog.godebug = none := by kernel_rfl
set_option maxRecDepth 100000 in
theorem opens24 {H : Type} {enc : TypeId × Value → H} {w : World} {base : Nat} {spare : Nat → Bool} {held : Bool} {r : Reach} {b0 : Nat} {v : Value} {d : DataW H} {ps : List MemPlace} (hv : Value.okWide Try.prog w r b0 24 v) (h : DataW.Trod enc Try.prog w base spare held 24 v d ps) :
    ∃ (x0 : Int) (x1 : Int), v = .agg #[.int .i64 x0, .int .i64 x1] ∧ (Lit.int .i64 x0).wf = true ∧ (Lit.int .i64 x1).wf = true := by
  obtain ⟨cs, rfl, hsz⟩ := okWide_struct Try.underlying24 hv
  rw [show Try.prog.cellsOf 24 = 2 by kernel_rfl] at hsz
  obtain ⟨l, rfl⟩ : ∃ l : List Value, cs = ⟨l⟩ := ⟨cs.toList, by simp⟩
  match l, hsz with
  | [c0, c1], _ =>
    obtain ⟨fuel, hf⟩ := h
    have hf : DataW.trod enc Try.prog w base spare held fuel 24 [c0, c1] = some (d, ps) := hf
    obtain ⟨xs1, n1, _, hx1, _, hl1, ha1⟩ := DataW.trod_struct Try.underlying24 hf
    obtain ⟨y1_0, e1_0⟩ : ∃ y, xs1[0]? = some y := ⟨_, List.getElem?_eq_getElem (by rw [hl1]; decide)⟩
    have g1_0 : DataW.trod enc Try.prog w base spare held n1 3 (([c0, c1].drop 0).take (Try.prog.cellsOf 3)) = xs1[0]? := ha1 0 _ rfl
    rw [e1_0, show Try.prog.cellsOf 3 = 1 by kernel_rfl] at g1_0
    have g1_0 : DataW.trod enc Try.prog w base spare held n1 3 [c0] = some y1_0 := g1_0
    obtain ⟨x0, hc0, _, w0⟩ := DataW.trod_int Try.underlying3 g1_0
    obtain ⟨y1_1, e1_1⟩ : ∃ y, xs1[1]? = some y := ⟨_, List.getElem?_eq_getElem (by rw [hl1]; decide)⟩
    have g1_1 : DataW.trod enc Try.prog w base spare held n1 3 (([c0, c1].drop 1).take (Try.prog.cellsOf 3)) = xs1[1]? := ha1 1 _ rfl
    rw [e1_1, show Try.prog.cellsOf 3 = 1 by kernel_rfl] at g1_1
    have g1_1 : DataW.trod enc Try.prog w base spare held n1 3 [c1] = some y1_1 := g1_1
    obtain ⟨x1, hc1, _, w1⟩ := DataW.trod_int Try.underlying3 g1_1
    obtain rfl := (List.cons.inj hc0).1
    obtain rfl := (List.cons.inj hc1).1
    exact ⟨x0, x1, rfl, w0, w1⟩
theorem laidOut : laidOutB Try.prog = true := by kernel_rfl
set_option maxRecDepth 100000 in
theorem lifted (os : Os) (started : os.Started) (H : Type) (enc : TypeId × Value → H) :
    ReturnsInHanded {} Try.checked os 4 .any (Rows.shapeBackSpec.pre6 enc Try.prog Try.f4 Rows.shapeBackRow.domain false) (Rows.shapeBackSpec.post enc Try.prog Try.f4 false true false false) := by
  refine returnsInHanded_of_change_sized (C := Try.checked) own started (by kernel_rfl) Try.func4
    (ChangeSpec.witness6 (enc := enc) (C := Try.checked) false ⟨#[], #[.agg #[.int .i64 0, .int .i64 0, .int .i64 0, .int .i64 0, .int .i64 0, .int .i64 0, .string ByteArray.empty, .slice none 0 0], .agg #[.int .i64 0, .int .i64 0], .agg #[.int .i64 0, .int .i64 0]], []⟩ 8 (by kernel_rfl) (by kernel_rfl) (by kernel_rfl) (by kernel_rfl)) ?_
  intro W base args ds gs before hval0 hW hcnd hsz0 _
  have hsz : (DataW.weightsEach Try.prog (Try.f4.params.toList ++ Rows.shapeBackSpec.plain.varTypes Try.prog) (ds ++ gs)).all (· ≤ reachBytes) = true := hsz0
  have hval : ∀ (j : Nat) t v, Try.f4.params[j]? = some t → args[j]? = some v → Value.okWide Try.prog W .any base t v := hval0
  have hW' := hW
  obtain ⟨p, q, hA0, hV, rfl, hfz, hnd⟩ := hW
  have hA : DataW.TrodAll enc Try.prog W 0 (fun _ => true) true Try.f4.params.toList args.toList ds p := hA0
  rw [Try.params4] at hA hval hsz
  obtain ⟨v0, vs0, d0, ds0, p0, q0, hargs, rfl, rfl, h0, r0⟩ := trodAll_cons hA
  obtain ⟨v1, vs1, d1, ds1, p1, q1, rfl, rfl, rfl, h1, r1⟩ := trodAll_cons r0
  obtain ⟨v2, vs2, d2, ds2, p2, q2, rfl, rfl, rfl, h2, r2⟩ := trodAll_cons r1
  obtain ⟨rfl, rfl, rfl⟩ := trodAll_nil r2
  obtain rfl : args = #[v0, v1, v2] := by cases args; simp_all
  obtain ⟨rfl, rfl⟩ := trodVars_none hV
  have hlt0 : ∀ x ∈ p0, x.block < W.heap.size := fun x hx => by simpa using hW'.lt x (by simp [hx])
  have hlt1 : ∀ x ∈ p1, x.block < W.heap.size := fun x hx => by simpa using hW'.lt x (by simp [hx])
  have hlt2 : ∀ x ∈ p2, x.block < W.heap.size := fun x hx => by simpa using hW'.lt x (by simp [hx])
  obtain ⟨a0, w0, rp0⟩ := Go.AL.open_has (P := Try.prog) (S := [29, 22, 3, 26, 24, 9, 27]) (by kernel_rfl) (t := 29) (by decide) (hval 0 29 v0 rfl rfl) h0
  obtain ⟨a1_0, a1_1, rfl, w1_0, w1_1⟩ := opens24 (hval 1 24 v1 rfl rfl) h1
  obtain ⟨a2_0, a2_1, rfl, w2_0, w2_1⟩ := opens24 (hval 2 24 v2 rfl rfl) h2
  clear hA0 hval0 hsz0 hsz
  refine ((Go.AL.ShapeBack_all a0 a1_0 a1_1 a2_0 a2_1 w0 w1_0 w1_1 w2_0 w2_1).calls trivial (Go.AL.repL_cons (rp0) (Go.AL.repL_cons ((Go.AL.rep_agg (Go.AL.repL_cons (.p _) (Go.AL.repL_cons (.p _) Go.AL.repL_nil)))) (Go.AL.repL_cons ((Go.AL.rep_agg (Go.AL.repL_cons (.p _) (Go.AL.repL_cons (.p _) Go.AL.repL_nil)))) Go.AL.repL_nil)))).mono fun e W' ⟨he, bel⟩ => ?_
  subst he
  exact ⟨_, rfl, _, _, _, [], _, [], hW', trodAll_mk1 (shut_bool Try.underlying4 _), (trodAll_cons_mk (Below.trod laidOut (by kernel_rfl) (of_decide_eq_true (by kernel_rfl)) h0 bel hlt0) (trodAll_cons_mk (Below.trod laidOut (by kernel_rfl) (of_decide_eq_true (by kernel_rfl)) h1 bel hlt1) (trodAll_cons_mk (Below.trod laidOut (by kernel_rfl) (of_decide_eq_true (by kernel_rfl)) h2 bel hlt2) trodAll_mk0))), rfl, bel.frame _, fun h => by cases h⟩
theorem over : Rows.shapeBackRow.holds Try.pinned (OpenSpec.ofChange Rows.shapeBackSpec) :=
  OpenClaim.holds_of_wide 4 Try.f4 rfl rfl rfl rfl rfl rfl rfl ⟨rfl, rfl, rfl, rfl, rfl⟩ rfl rfl rfl rfl rfl (by kernel_rfl) Try.func4 (by kernel_rfl)
    (of_decide_eq_true (by kernel_rfl)) (by unfold Func.isWrapper; first | (rw [if_pos (by decide +kernel)]; kernel_rfl) | (rw [if_neg (by decide +kernel)]; exact ⟨rfl, rfl⟩))
    (fun os started H enc _ => lifted os started H enc)
theorem proved : Rows.ShapeBackSaid := over
end Go.Proofs.Ytadahjmamgidnaa.shapeBack
namespace Go.Proofs.Ytadahjmamgidnaa
/-- The row, under a short name, for the claim. -/
theorem shapeBack_holds : Rows.ShapeBackSaid := shapeBack.proved
#print axioms shapeBack_holds
end Go.Proofs.Ytadahjmamgidnaa
