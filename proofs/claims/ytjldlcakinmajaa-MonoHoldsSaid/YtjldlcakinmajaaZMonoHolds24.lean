/- The row of the law MonoHolds: for every input the law returns true, and the input reads as it did. Conditions: none beyond the row's own cells. -/
import Derived.Test.YtjldlcakinmajaaRows
import Derived.Test.YtjldlcakinmajaaZMonoHolds23
import Derived.WalkKit
import Derived.ProofKit
import Derived.OpenShut
import Derived.ShutString
import Derived.ChangeOld
import Derived.Below
import Derived.SizedLaws
import Derived.Deep.Slices
import Derived.Test.YtjldlcakinmajaaZMonoHolds7
import Derived.Test.YtjldlcakinmajaaZMonoHolds9
namespace Go.Proofs.Ytjldlcakinmajaa.monoHolds
open Go.ChangeShapes Go.WideShapes Go.ChangeAt Go.RowKit
open Go.ChangeMaps (open_string shut_string)
set_option linter.unusedVariables false
theorem own : ownKnob Try.prog.godebug = none := by kernel_rfl
set_option maxRecDepth 100000 in
theorem cells86 {H : Type} {enc : TypeId × Value → H} {w : World} {base : Nat} {spare : Nat → Bool} {held : Bool} {fuel : Nat} {cs : List Value} {y : DataW H × List MemPlace} (hf : DataW.trod enc Try.prog w base spare held fuel 86 cs = some y) (hsz : cs.length = 5) :
    ∃ (x0 : Int) (x1 : Int) (x2 : Int) (x3 : Int) (x4 : Int), cs = [.int .i64 x0, .int .i64 x1, .int .u8 x2, .int .i64 x3, .int .u64 x4] ∧ (Lit.int .i64 x0).wf = true ∧ (Lit.int .i64 x1).wf = true ∧ (Lit.int .u8 x2).wf = true ∧ (Lit.int .i64 x3).wf = true ∧ (Lit.int .u64 x4).wf = true := by
  match cs, hsz with
  | [c0, c1, c2, c3, c4], _ =>
    obtain ⟨xs1, n1, _, hx1, _, hl1, ha1⟩ := DataW.trod_struct Try.underlying86 hf
    obtain ⟨y1_0, e1_0⟩ : ∃ y, xs1[0]? = some y := ⟨_, List.getElem?_eq_getElem (by rw [hl1]; decide)⟩
    have g1_0 : DataW.trod enc Try.prog w base spare held n1 24 (([c0, c1, c2, c3, c4].drop 0).take (Try.prog.cellsOf 24)) = xs1[0]? := ha1 0 _ rfl
    rw [e1_0, show Try.prog.cellsOf 24 = 2 by kernel_rfl] at g1_0
    have g1_0 : DataW.trod enc Try.prog w base spare held n1 24 [c0, c1] = some y1_0 := g1_0
    obtain ⟨xs2, n2, _, hx2, _, hl2, ha2⟩ := DataW.trod_struct Try.underlying24 g1_0
    obtain ⟨y2_0, e2_0⟩ : ∃ y, xs2[0]? = some y := ⟨_, List.getElem?_eq_getElem (by rw [hl2]; decide)⟩
    have g2_0 : DataW.trod enc Try.prog w base spare held n2 3 (([c0, c1].drop 0).take (Try.prog.cellsOf 3)) = xs2[0]? := ha2 0 _ rfl
    rw [e2_0, show Try.prog.cellsOf 3 = 1 by kernel_rfl] at g2_0
    have g2_0 : DataW.trod enc Try.prog w base spare held n2 3 [c0] = some y2_0 := g2_0
    obtain ⟨x0, hc0, _, w0⟩ := DataW.trod_int Try.underlying3 g2_0
    obtain ⟨y2_1, e2_1⟩ : ∃ y, xs2[1]? = some y := ⟨_, List.getElem?_eq_getElem (by rw [hl2]; decide)⟩
    have g2_1 : DataW.trod enc Try.prog w base spare held n2 3 (([c0, c1].drop 1).take (Try.prog.cellsOf 3)) = xs2[1]? := ha2 1 _ rfl
    rw [e2_1, show Try.prog.cellsOf 3 = 1 by kernel_rfl] at g2_1
    have g2_1 : DataW.trod enc Try.prog w base spare held n2 3 [c1] = some y2_1 := g2_1
    obtain ⟨x1, hc1, _, w1⟩ := DataW.trod_int Try.underlying3 g2_1
    obtain ⟨y1_1, e1_1⟩ : ∃ y, xs1[1]? = some y := ⟨_, List.getElem?_eq_getElem (by rw [hl1]; decide)⟩
    have g1_1 : DataW.trod enc Try.prog w base spare held n1 5 (([c0, c1, c2, c3, c4].drop 2).take (Try.prog.cellsOf 5)) = xs1[1]? := ha1 1 _ rfl
    rw [e1_1, show Try.prog.cellsOf 5 = 1 by kernel_rfl] at g1_1
    have g1_1 : DataW.trod enc Try.prog w base spare held n1 5 [c2] = some y1_1 := g1_1
    obtain ⟨x2, hc2, _, w2⟩ := DataW.trod_int Try.underlying5 g1_1
    obtain ⟨y1_2, e1_2⟩ : ∃ y, xs1[2]? = some y := ⟨_, List.getElem?_eq_getElem (by rw [hl1]; decide)⟩
    have g1_2 : DataW.trod enc Try.prog w base spare held n1 3 (([c0, c1, c2, c3, c4].drop 3).take (Try.prog.cellsOf 3)) = xs1[2]? := ha1 2 _ rfl
    rw [e1_2, show Try.prog.cellsOf 3 = 1 by kernel_rfl] at g1_2
    have g1_2 : DataW.trod enc Try.prog w base spare held n1 3 [c3] = some y1_2 := g1_2
    obtain ⟨x3, hc3, _, w3⟩ := DataW.trod_int Try.underlying3 g1_2
    obtain ⟨y1_3, e1_3⟩ : ∃ y, xs1[3]? = some y := ⟨_, List.getElem?_eq_getElem (by rw [hl1]; decide)⟩
    have g1_3 : DataW.trod enc Try.prog w base spare held n1 84 (([c0, c1, c2, c3, c4].drop 4).take (Try.prog.cellsOf 84)) = xs1[3]? := ha1 3 _ rfl
    rw [e1_3, show Try.prog.cellsOf 84 = 1 by kernel_rfl] at g1_3
    have g1_3 : DataW.trod enc Try.prog w base spare held n1 84 [c4] = some y1_3 := g1_3
    obtain ⟨x4, hc4, _, w4⟩ := DataW.trod_int Try.underlying84 g1_3
    obtain rfl := (List.cons.inj hc0).1
    obtain rfl := (List.cons.inj hc1).1
    obtain rfl := (List.cons.inj hc2).1
    obtain rfl := (List.cons.inj hc3).1
    obtain rfl := (List.cons.inj hc4).1
    exact ⟨x0, x1, x2, x3, x4, rfl, w0, w1, w2, w3, w4⟩
set_option maxRecDepth 100000 in
theorem list30 {H : Type} {enc : TypeId × Value → H} {W : World} {b0 : Nat} {v : Value} {d : DataW H} {ps : List MemPlace} (hv : Value.okWide Try.prog W .any b0 30 v) (h : DataW.Trod enc Try.prog W 0 (fun _ => true) true 30 v d ps) :
    ∃ l : List (Int × Int × Int × Int × Int), l.length ≤ 9223372036854775807 ∧ (∀ x ∈ l, (Lit.int .i64 x.1).wf = true ∧ (Lit.int .i64 x.2.1).wf = true ∧ (Lit.int .u8 x.2.2.1).wf = true ∧ (Lit.int .i64 x.2.2.2.1).wf = true ∧ (Lit.int .u64 x.2.2.2.2).wf = true) ∧ Go.AL.Rep (Go.AL.G0 W) W (.vsl (l.map fun x => .agg [.p (.int .i64 x.1), .p (.int .i64 x.2.1), .p (.int .u8 x.2.2.1), .p (.int .i64 x.2.2.2.1), .p (.int .u64 x.2.2.2.2)])) v := by
  obtain ⟨a, len, cap, rfl⟩ := okWide_slice Try.underlying30 hv
  obtain ⟨fuel, hf⟩ := h
  have hf : DataW.trod enc Try.prog W 0 (fun _ => true) true fuel 30 [.slice a len cap] = some (d, ps) := hf
  rcases Go.Deep.open_slice Try.underlying30 hf with ⟨hcs, _⟩ | ⟨a', len', cap', m, n, D, Pl, hcs, _, hle, hmx, hm, _, hel⟩
  · simp only [List.cons.injEq, Value.slice.injEq, and_true] at hcs
    obtain ⟨rfl, rfl, rfl⟩ := hcs
    exact ⟨[], by simp, by simp, .vnil _ _⟩
  · simp only [List.cons.injEq, Value.slice.injEq, and_true] at hcs
    obtain ⟨rfl, rfl, rfl⟩ := hcs
    have hm : m = cap := hm
    have hk : Try.prog.cellsOf 86 = 5 := by kernel_rfl
    obtain ⟨V, hV⟩ := Go.Deep.choose_lt (α := Int × Int × Int × Int × Int) (n := len) (p := fun i x => (∀ j c, ([.int .i64 x.1, .int .i64 x.2.1, .int .u8 x.2.2.1, .int .i64 x.2.2.2.1, .int .u64 x.2.2.2.2] : List Value)[j]? = some c → W.cell? ((a'.add (i * 5)).add j) = some c) ∧ ((Lit.int .i64 x.1).wf = true ∧ (Lit.int .i64 x.2.1).wf = true ∧ (Lit.int .u8 x.2.2.1).wf = true ∧ (Lit.int .i64 x.2.2.2.1).wf = true ∧ (Lit.int .u64 x.2.2.2.2).wf = true)) (fun i hi => by
      obtain ⟨cs', h1, h2⟩ := hel i (by omega)
      rw [hk] at h1
      obtain ⟨_, hl, hc⟩ := World.cells?_some h1
      obtain ⟨x0, x1, x2, x3, x4, rfl, w0, w1, w2, w3, w4⟩ := cells86 h2 hl
      refine ⟨(x0, x1, x2, x3, x4), fun j c hj => ?_, ⟨w0, w1, w2, w3, w4⟩⟩
      have hjk : j < 5 := (List.getElem?_eq_some_iff.1 hj).1
      have := hc j hjk
      rw [hj] at this
      exact this)
    have hmx' : cap ≤ 9223372036854775807 := hmx
    refine ⟨(List.range len).map V, by simp; omega, fun x hx => ?_, ?_⟩
    · obtain ⟨i, hi, rfl⟩ := List.mem_map.1 hx
      exact (hV i (List.mem_range.1 hi)).2
    · rw [List.map_map]
      rcases Nat.eq_zero_or_pos len with h0 | hpos
      · subst h0; exact .vnil _ _
      · obtain ⟨β, o, spot⟩ := a'
        obtain rfl : spot = none := by simpa [Addr.add] using World.cell?_spot ((hV 0 hpos).1 0 _ rfl)
        exact Go.AL.rep_rows (k := 5) (fun i => [.int .i64 (V i).1, .int .i64 (V i).2.1, .int .u8 (V i).2.2.1, .int .i64 (V i).2.2.2.1, .int .u64 (V i).2.2.2.2]) (fun i _ => rfl) hle _ (fun i _ => rfl) (fun i hi j c hj => by have := (hV i hi).1 j c hj; rw [Addr.add_lit, Addr.add_lit, Nat.add_assoc] at this; exact this)
theorem laidOut : laidOutB Try.prog = true := by kernel_rfl
set_option maxRecDepth 100000 in
theorem lifted (os : Os) (started : os.Started) (H : Type) (enc : TypeId × Value → H) :
    ReturnsInHanded {} Try.checked os 3 .any (Rows.monoHoldsSpec.pre6 enc Try.prog Try.f3 Rows.monoHoldsRow.domain false) (Rows.monoHoldsSpec.post enc Try.prog Try.f3 false true false false) := by
  refine returnsInHanded_of_change_sized (C := Try.checked) own started (by kernel_rfl) Try.func3
    (ChangeSpec.witness6 (enc := enc) (C := Try.checked) false ⟨#[], #[.agg #[.int .i64 0, .int .i64 0, .int .i64 0, .int .i64 0, .int .i64 0, .int .i64 0, .string ByteArray.empty, .slice none 0 0], .slice none 0 0], []⟩ 8 (by kernel_rfl) (by kernel_rfl) (by kernel_rfl) (by kernel_rfl)) ?_
  intro W base args ds gs before hval0 hW hcnd hsz0 _
  have hsz : (DataW.weightsEach Try.prog (Try.f3.params.toList ++ Rows.monoHoldsSpec.plain.varTypes Try.prog) (ds ++ gs)).all (· ≤ reachBytes) = true := hsz0
  have hval : ∀ (j : Nat) t v, Try.f3.params[j]? = some t → args[j]? = some v → Value.okWide Try.prog W .any base t v := hval0
  have hW' := hW
  obtain ⟨p, q, hA0, hV, rfl, hfz, hnd⟩ := hW
  have hA : DataW.TrodAll enc Try.prog W 0 (fun _ => true) true Try.f3.params.toList args.toList ds p := hA0
  rw [Try.params3] at hA hval hsz
  obtain ⟨v0, vs0, d0, ds0, p0, q0, hargs, rfl, rfl, h0, r0⟩ := trodAll_cons hA
  obtain ⟨v1, vs1, d1, ds1, p1, q1, rfl, rfl, rfl, h1, r1⟩ := trodAll_cons r0
  obtain ⟨rfl, rfl, rfl⟩ := trodAll_nil r1
  obtain rfl : args = #[v0, v1] := by cases args; simp_all
  obtain ⟨rfl, rfl⟩ := trodVars_none hV
  have hlt0 : ∀ x ∈ p0, x.block < W.heap.size := fun x hx => by simpa using hW'.lt x (by simp [hx])
  have hlt1 : ∀ x ∈ p1, x.block < W.heap.size := fun x hx => by simpa using hW'.lt x (by simp [hx])
  obtain ⟨a0, w0, rp0⟩ := Go.AL.open_has (P := Try.prog) (S := [29, 22, 3, 26, 24, 9, 27]) (by kernel_rfl) (t := 29) (by decide) (hval 0 29 v0 rfl rfl) h0
  obtain ⟨a1, s1, w1, rp1⟩ := list30 (hval 1 30 v1 rfl rfl) h1
  clear hA0 hval0 hsz0 hsz
  refine ((Go.AL.MonoHolds_all a0 a1 w0 s1 w1).calls trivial (Go.AL.repL_cons (rp0) (Go.AL.repL_cons (rp1) Go.AL.repL_nil))).mono fun e W' ⟨he, bel⟩ => ?_
  subst he
  exact ⟨_, rfl, _, _, _, [], _, [], hW', trodAll_mk1 (shut_bool Try.underlying4 _), (trodAll_cons_mk (Below.trod laidOut (by kernel_rfl) (of_decide_eq_true (by kernel_rfl)) h0 bel hlt0) (trodAll_cons_mk (Below.trod laidOut (by kernel_rfl) (of_decide_eq_true (by kernel_rfl)) h1 bel hlt1) trodAll_mk0)), rfl, bel.frame _, fun h => by cases h⟩
theorem over : Rows.monoHoldsRow.holds Try.pinned (OpenSpec.ofChange Rows.monoHoldsSpec) :=
  OpenClaim.holds_of_wide 3 Try.f3 rfl rfl rfl rfl rfl rfl rfl ⟨rfl, rfl, rfl, rfl, rfl⟩ rfl rfl rfl rfl rfl (by kernel_rfl) Try.func3 (by kernel_rfl)
    (of_decide_eq_true (by kernel_rfl)) (by unfold Func.isWrapper; first | (rw [if_pos (by decide +kernel)]; kernel_rfl) | (rw [if_neg (by decide +kernel)]; exact ⟨rfl, rfl⟩))
    (fun os started H enc _ => lifted os started H enc)
theorem proved : Rows.MonoHoldsSaid := over
end Go.Proofs.Ytjldlcakinmajaa.monoHolds
namespace Go.Proofs.Ytjldlcakinmajaa
/-- The row, under a short name, for the claim. -/
theorem monoHolds_holds : Rows.MonoHoldsSaid := monoHolds.proved
#print axioms monoHolds_holds
end Go.Proofs.Ytjldlcakinmajaa
