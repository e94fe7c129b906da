/- The row of the law EvalReads: for every input the law returns true, and the input reads as it did. Conditions: none beyond the row's own cells. -/
import Derived.Test.YtjldlcakinmajaaRows
import Derived.Test.YtjldlcakinmajaaZEvalReads23
import Derived.WalkKit
import Derived.ProofKit
import Derived.OpenShut
import Derived.ShutString
import Derived.ChangeOld
import Derived.Below
import Derived.SizedLaws
import Derived.Deep.Slices
import Derived.Test.YtjldlcakinmajaaZEvalReads7
import Derived.Test.YtjldlcakinmajaaZEvalReads9
namespace Go.Proofs.Ytjldlcakinmajaa.evalReads
open Go.ChangeShapes Go.WideShapes Go.ChangeAt Go.RowKit
open Go.ChangeMaps (open_string shut_string)
set_option linter.unusedVariables false
theorem own : ownKnob Try.prog.godebug = none := by kernel_rfl
set_option maxRecDepth 100000 in
theorem cells49 {H : Type} {enc : TypeId × Value → H} {w : World} {base : Nat} {spare : Nat → Bool} {held : Bool} {fuel : Nat} {cs : List Value} {y : DataW H × List MemPlace} (hf : DataW.trod enc Try.prog w base spare held fuel 49 cs = some y) (hsz : cs.length = 4) :
    ∃ (x0 : Int) (x1 : Int) (x2 : Int) (x3 : Int), cs = [.int .i64 x0, .int .i64 x1, .int .i64 x2, .int .i64 x3] ∧ (Lit.int .i64 x0).wf = true ∧ (Lit.int .i64 x1).wf = true ∧ (Lit.int .i64 x2).wf = true ∧ (Lit.int .i64 x3).wf = true := by
  match cs, hsz with
  | [c0, c1, c2, c3], _ =>
    obtain ⟨xs1, n1, _, hx1, _, hl1, ha1⟩ := DataW.trod_struct Try.underlying49 hf
    obtain ⟨y1_0, e1_0⟩ : ∃ y, xs1[0]? = some y := ⟨_, List.getElem?_eq_getElem (by rw [hl1]; decide)⟩
    have g1_0 : DataW.trod enc Try.prog w base spare held n1 24 (([c0, c1, c2, c3].drop 0).take (Try.prog.cellsOf 24)) = xs1[0]? := ha1 0 _ rfl
    rw [e1_0, show Try.prog.cellsOf 24 = 2 by kernel_rfl] at g1_0
    have g1_0 : DataW.trod enc Try.prog w base spare held n1 24 [c0, c1] = some y1_0 := g1_0
    obtain ⟨xs2, n2, _, hx2, _, hl2, ha2⟩ := DataW.trod_struct Try.underlying24 g1_0
    obtain ⟨y2_0, e2_0⟩ : ∃ y, xs2[0]? = some y := ⟨_, List.getElem?_eq_getElem (by rw [hl2]; decide)⟩
    have g2_0 : DataW.trod enc Try.prog w base spare held n2 3 (([c0, c1].drop 0).take (Try.prog.cellsOf 3)) = xs2[0]? := ha2 0 _ rfl
    rw [e2_0, show Try.prog.cellsOf 3 = 1 by kernel_rfl] at g2_0
    have g2_0 : DataW.trod enc Try.prog w base spare held n2 3 [c0] = some y2_0 := g2_0
    obtain ⟨x0, hc0, _, w0⟩ := DataW.trod_int Try.underlying3 g2_0
    obtain ⟨y2_1, e2_1⟩ : ∃ y, xs2[1]? = some y := ⟨_, List.getElem?_eq_getElem (by rw [hl2]; decide)⟩
    have g2_1 : DataW.trod enc Try.prog w base spare held n2 3 (([c0, c1].drop 1).take (Try.prog.cellsOf 3)) = xs2[1]? := ha2 1 _ rfl
    rw [e2_1, show Try.prog.cellsOf 3 = 1 by kernel_rfl] at g2_1
    have g2_1 : DataW.trod enc Try.prog w base spare held n2 3 [c1] = some y2_1 := g2_1
    obtain ⟨x1, hc1, _, w1⟩ := DataW.trod_int Try.underlying3 g2_1
    obtain ⟨y1_1, e1_1⟩ : ∃ y, xs1[1]? = some y := ⟨_, List.getElem?_eq_getElem (by rw [hl1]; decide)⟩
    have g1_1 : DataW.trod enc Try.prog w base spare held n1 41 (([c0, c1, c2, c3].drop 2).take (Try.prog.cellsOf 41)) = xs1[1]? := ha1 1 _ rfl
    rw [e1_1, show Try.prog.cellsOf 41 = 2 by kernel_rfl] at g1_1
    have g1_1 : DataW.trod enc Try.prog w base spare held n1 41 [c2, c3] = some y1_1 := g1_1
    obtain ⟨xs3, n3, _, hx3, _, hl3, ha3⟩ := DataW.trod_struct Try.underlying41 g1_1
    obtain ⟨y3_0, e3_0⟩ : ∃ y, xs3[0]? = some y := ⟨_, List.getElem?_eq_getElem (by rw [hl3]; decide)⟩
    have g3_0 : DataW.trod enc Try.prog w base spare held n3 3 (([c2, c3].drop 0).take (Try.prog.cellsOf 3)) = xs3[0]? := ha3 0 _ rfl
    rw [e3_0, show Try.prog.cellsOf 3 = 1 by kernel_rfl] at g3_0
    have g3_0 : DataW.trod enc Try.prog w base spare held n3 3 [c2] = some y3_0 := g3_0
    obtain ⟨x2, hc2, _, w2⟩ := DataW.trod_int Try.underlying3 g3_0
    obtain ⟨y3_1, e3_1⟩ : ∃ y, xs3[1]? = some y := ⟨_, List.getElem?_eq_getElem (by rw [hl3]; decide)⟩
    have g3_1 : DataW.trod enc Try.prog w base spare held n3 39 (([c2, c3].drop 1).take (Try.prog.cellsOf 39)) = xs3[1]? := ha3 1 _ rfl
    rw [e3_1, show Try.prog.cellsOf 39 = 1 by kernel_rfl] at g3_1
    have g3_1 : DataW.trod enc Try.prog w base spare held n3 39 [c3] = some y3_1 := g3_1
    obtain ⟨x3, hc3, _, w3⟩ := DataW.trod_int Try.underlying39 g3_1
    obtain rfl := (List.cons.inj hc0).1
    obtain rfl := (List.cons.inj hc1).1
    obtain rfl := (List.cons.inj hc2).1
    obtain rfl := (List.cons.inj hc3).1
    exact ⟨x0, x1, x2, x3, rfl, w0, w1, w2, w3⟩
set_option maxRecDepth 100000 in
theorem list33 {H : Type} {enc : TypeId × Value → H} {W : World} {b0 : Nat} {v : Value} {d : DataW H} {ps : List MemPlace} (hv : Value.okWide Try.prog W .any b0 33 v) (h : DataW.Trod enc Try.prog W 0 (fun _ => true) true 33 v d ps) :
    ∃ l : List (Int × Int × Int × Int), l.length ≤ 9223372036854775807 ∧ (∀ x ∈ l, (Lit.int .i64 x.1).wf = true ∧ (Lit.int .i64 x.2.1).wf = true ∧ (Lit.int .i64 x.2.2.1).wf = true ∧ (Lit.int .i64 x.2.2.2).wf = true) ∧ Go.AL.Rep (Go.AL.G0 W) W (.vsl (l.map fun x => .agg [.p (.int .i64 x.1), .p (.int .i64 x.2.1), .p (.int .i64 x.2.2.1), .p (.int .i64 x.2.2.2)])) v := by
  obtain ⟨a, len, cap, rfl⟩ := okWide_slice Try.underlying33 hv
  obtain ⟨fuel, hf⟩ := h
  have hf : DataW.trod enc Try.prog W 0 (fun _ => true) true fuel 33 [.slice a len cap] = some (d, ps) := hf
  rcases Go.Deep.open_slice Try.underlying33 hf with ⟨hcs, _⟩ | ⟨a', len', cap', m, n, D, Pl, hcs, _, hle, hmx, hm, _, hel⟩
  · simp only [List.cons.injEq, Value.slice.injEq, and_true] at hcs
    obtain ⟨rfl, rfl, rfl⟩ := hcs
    exact ⟨[], by simp, by simp, .vnil _ _⟩
  · simp only [List.cons.injEq, Value.slice.injEq, and_true] at hcs
    obtain ⟨rfl, rfl, rfl⟩ := hcs
    have hm : m = cap := hm
    have hk : Try.prog.cellsOf 49 = 4 := by kernel_rfl
    obtain ⟨V, hV⟩ := Go.Deep.choose_lt (α := Int × Int × Int × Int) (n := len) (p := fun i x => (∀ j c, ([.int .i64 x.1, .int .i64 x.2.1, .int .i64 x.2.2.1, .int .i64 x.2.2.2] : List Value)[j]? = some c → W.cell? ((a'.add (i * 4)).add j) = some c) ∧ ((Lit.int .i64 x.1).wf = true ∧ (Lit.int .i64 x.2.1).wf = true ∧ (Lit.int .i64 x.2.2.1).wf = true ∧ (Lit.int .i64 x.2.2.2).wf = true)) (fun i hi => by
      obtain ⟨cs', h1, h2⟩ := hel i (by omega)
      rw [hk] at h1
      obtain ⟨_, hl, hc⟩ := World.cells?_some h1
      obtain ⟨x0, x1, x2, x3, rfl, w0, w1, w2, w3⟩ := cells49 h2 hl
      refine ⟨(x0, x1, x2, x3), fun j c hj => ?_, ⟨w0, w1, w2, w3⟩⟩
      have hjk : j < 4 := (List.getElem?_eq_some_iff.1 hj).1
      have := hc j hjk
      rw [hj] at this
      exact this)
    have hmx' : cap ≤ 9223372036854775807 := hmx
    refine ⟨(List.range len).map V, by simp; omega, fun x hx => ?_, ?_⟩
    · obtain ⟨i, hi, rfl⟩ := List.mem_map.1 hx
      exact (hV i (List.mem_range.1 hi)).2
    · rw [List.map_map]
      rcases Nat.eq_zero_or_pos len with h0 | hpos
      · subst h0; exact .vnil _ _
      · obtain ⟨β, o, spot⟩ := a'
        obtain rfl : spot = none := by simpa [Addr.add] using World.cell?_spot ((hV 0 hpos).1 0 _ rfl)
        exact Go.AL.rep_rows (k := 4) (fun i => [.int .i64 (V i).1, .int .i64 (V i).2.1, .int .i64 (V i).2.2.1, .int .i64 (V i).2.2.2]) (fun i _ => rfl) hle _ (fun i _ => rfl) (fun i hi j c hj => by have := (hV i hi).1 j c hj; rw [Addr.add_lit, Addr.add_lit, Nat.add_assoc] at this; exact this)
theorem laidOut : laidOutB Try.prog = true := by kernel_rfl
set_option maxRecDepth 100000 in
theorem lifted (os : Os) (started : os.Started) (H : Type) (enc : TypeId × Value → H) :
    ReturnsInHanded {} Try.checked os 4 .any (Rows.evalReadsSpec.pre6 enc Try.prog Try.f4 Rows.evalReadsRow.domain false) (Rows.evalReadsSpec.post enc Try.prog Try.f4 false true false false) := by
  refine returnsInHanded_of_change_sized (C := Try.checked) own started (by kernel_rfl) Try.func4
    (ChangeSpec.witness6 (enc := enc) (C := Try.checked) false ⟨#[], #[.agg #[.int .i64 0, .int .i64 0, .int .i64 0, .int .i64 0, .int .i64 0, .int .i64 0, .string ByteArray.empty, .slice none 0 0], .slice none 0 0, .slice none 0 0], []⟩ 8 (by kernel_rfl) (by kernel_rfl) (by kernel_rfl) (by kernel_rfl)) ?_
  intro W base args ds gs before hval0 hW hcnd hsz0 _
  have hsz : (DataW.weightsEach Try.prog (Try.f4.params.toList ++ Rows.evalReadsSpec.plain.varTypes Try.prog) (ds ++ gs)).all (· ≤ reachBytes) = true := hsz0
  have hval : ∀ (j : Nat) t v, Try.f4.params[j]? = some t → args[j]? = some v → Value.okWide Try.prog W .any base t v := hval0
  have hW' := hW
  obtain ⟨p, q, hA0, hV, rfl, hfz, hnd⟩ := hW
  have hA : DataW.TrodAll enc Try.prog W 0 (fun _ => true) true Try.f4.params.toList args.toList ds p := hA0
  rw [Try.params4] at hA hval hsz
  obtain ⟨v0, vs0, d0, ds0, p0, q0, hargs, rfl, rfl, h0, r0⟩ := trodAll_cons hA
  obtain ⟨v1, vs1, d1, ds1, p1, q1, rfl, rfl, rfl, h1, r1⟩ := trodAll_cons r0
  obtain ⟨v2, vs2, d2, ds2, p2, q2, rfl, rfl, rfl, h2, r2⟩ := trodAll_cons r1
  obtain ⟨rfl, rfl, rfl⟩ := trodAll_nil r2
  obtain rfl : args = #[v0, v1, v2] := by cases args; simp_all
  obtain ⟨rfl, rfl⟩ := trodVars_none hV
  have hlt0 : ∀ x ∈ p0, x.block < W.heap.size := fun x hx => by simpa using hW'.lt x (by simp [hx])
  have hlt1 : ∀ x ∈ p1, x.block < W.heap.size := fun x hx => by simpa using hW'.lt x (by simp [hx])
  have hlt2 : ∀ x ∈ p2, x.block < W.heap.size := fun x hx => by simpa using hW'.lt x (by simp [hx])
  obtain ⟨a0, w0, rp0⟩ := Go.AL.open_has (P := Try.prog) (S := [29, 22, 3, 26, 24, 9, 27]) (by kernel_rfl) (t := 29) (by decide) (hval 0 29 v0 rfl rfl) h0
  obtain ⟨a1, s1, w1, rp1⟩ := list33 (hval 1 33 v1 rfl rfl) h1
  obtain ⟨a2, s2, w2, rp2⟩ := list33 (hval 2 33 v2 rfl rfl) h2
  clear hA0 hval0 hsz0 hsz
  refine ((Go.AL.EvalReads_all a0 a1 a2 w0 s1 w1 s2 w2).calls trivial (Go.AL.repL_cons (rp0) (Go.AL.repL_cons (rp1) (Go.AL.repL_cons (rp2) Go.AL.repL_nil)))).mono fun e W' ⟨he, bel⟩ => ?_
  subst he
  exact ⟨_, rfl, _, _, _, [], _, [], hW', trodAll_mk1 (shut_bool Try.underlying4 _), (trodAll_cons_mk (Below.trod laidOut (by kernel_rfl) (of_decide_eq_true (by kernel_rfl)) h0 bel hlt0) (trodAll_cons_mk (Below.trod laidOut (by kernel_rfl) (of_decide_eq_true (by kernel_rfl)) h1 bel hlt1) (trodAll_cons_mk (Below.trod laidOut (by kernel_rfl) (of_decide_eq_true (by kernel_rfl)) h2 bel hlt2) trodAll_mk0))), rfl, bel.frame _, fun h => by cases h⟩
theorem over : Rows.evalReadsRow.holds Try.pinned (OpenSpec.ofChange Rows.evalReadsSpec) :=
  OpenClaim.holds_of_wide 4 Try.f4 rfl rfl rfl rfl rfl rfl rfl ⟨rfl, rfl, rfl, rfl, rfl⟩ rfl rfl rfl rfl rfl (by kernel_rfl) Try.func4 (by kernel_rfl)
    (of_decide_eq_true (by kernel_rfl)) (by unfold Func.isWrapper; first | (rw [if_pos (by decide +kernel)]; kernel_rfl) | (rw [if_neg (by decide +kernel)]; exact ⟨rfl, rfl⟩))
    (fun os started H enc _ => lifted os started H enc)
theorem proved : Rows.EvalReadsSaid := over
end Go.Proofs.Ytjldlcakinmajaa.evalReads
namespace Go.Proofs.Ytjldlcakinmajaa
/-- The row, under a short name, for the claim. -/
theorem evalReads_holds : Rows.EvalReadsSaid := evalReads.proved
#print axioms evalReads_holds
end Go.Proofs.Ytjldlcakinmajaa
