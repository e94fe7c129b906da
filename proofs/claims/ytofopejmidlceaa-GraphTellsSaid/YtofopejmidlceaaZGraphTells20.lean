/- The row of the law GraphTells: for every input the law returns true, and the input reads as it did. Conditions: none beyond the row's own cells. -/
import Derived.Test.YtofopejmidlceaaRows
import Derived.Test.YtofopejmidlceaaZGraphTells19
import Derived.WalkKit
import Derived.ProofKit
import Derived.OpenShut
import Derived.ShutString
import Derived.ChangeOld
import Derived.Below
import Derived.SizedLaws
import Derived.Deep.Slices
import Derived.Test.YtofopejmidlceaaZGraphTells7
import Derived.Test.YtofopejmidlceaaZGraphTells9
namespace Go.Proofs.Ytofopejmidlceaa.graphTells
open Go.ChangeShapes Go.WideShapes Go.ChangeAt Go.RowKit
open Go.ChangeMaps (open_string shut_string)
set_option linter.unusedVariables false
theorem own : ownKnob Try.prog.godebug = none := by kernel_rfl
set_option maxRecDepth 100000 in
theorem cells3 {H : Type} {enc : TypeId × Value → H} {w : World} {base : Nat} {spare : Nat → Bool} {held : Bool} {fuel : Nat} {cs : List Value} {y : DataW H × List MemPlace} (hf : DataW.trod enc Try.prog w base spare held fuel 3 cs = some y) (hsz : cs.length = 1) :
    ∃ (x0 : Int), cs = [.int .i64 x0] ∧ (Lit.int .i64 x0).wf = true := by
  obtain ⟨x0, hc0, _, w0⟩ := DataW.trod_int Try.underlying3 hf
  exact ⟨x0, hc0, w0⟩
set_option maxRecDepth 100000 in
theorem list23 {H : Type} {enc : TypeId × Value → H} {W : World} {b0 : Nat} {v : Value} {d : DataW H} {ps : List MemPlace} (hv : Value.okWide Try.prog W .any b0 23 v) (h : DataW.Trod enc Try.prog W 0 (fun _ => true) true 23 v d ps) :
    ∃ l : List (Int), l.length ≤ 9223372036854775807 ∧ (∀ x ∈ l, (Lit.int .i64 x).wf = true) ∧ Go.AL.Rep (Go.AL.G0 W) W (.vsl (l.map fun x => .p (.int .i64 x))) v := by
  obtain ⟨a, len, cap, rfl⟩ := okWide_slice Try.underlying23 hv
  obtain ⟨fuel, hf⟩ := h
  have hf : DataW.trod enc Try.prog W 0 (fun _ => true) true fuel 23 [.slice a len cap] = some (d, ps) := hf
  rcases Go.Deep.open_slice Try.underlying23 hf with ⟨hcs, _⟩ | ⟨a', len', cap', m, n, D, Pl, hcs, _, hle, hmx, hm, _, hel⟩
  · simp only [List.cons.injEq, Value.slice.injEq, and_true] at hcs
    obtain ⟨rfl, rfl, rfl⟩ := hcs
    exact ⟨[], by simp, by simp, .vnil _ _⟩
  · simp only [List.cons.injEq, Value.slice.injEq, and_true] at hcs
    obtain ⟨rfl, rfl, rfl⟩ := hcs
    have hm : m = cap := hm
    have hk : Try.prog.cellsOf 3 = 1 := by kernel_rfl
    obtain ⟨V, hV⟩ := Go.Deep.choose_lt (α := Int) (n := len) (p := fun i x => (∀ j c, ([.int .i64 x] : List Value)[j]? = some c → W.cell? ((a'.add (i * 1)).add j) = some c) ∧ ((Lit.int .i64 x).wf = true)) (fun i hi => by
      obtain ⟨cs', h1, h2⟩ := hel i (by omega)
      rw [hk] at h1
      obtain ⟨_, hl, hc⟩ := World.cells?_some h1
      obtain ⟨x0, rfl, w0⟩ := cells3 h2 hl
      refine ⟨x0, fun j c hj => ?_, w0⟩
      have hjk : j < 1 := (List.getElem?_eq_some_iff.1 hj).1
      have := hc j hjk
      rw [hj] at this
      exact this)
    have hmx' : cap ≤ 9223372036854775807 := hmx
    refine ⟨(List.range len).map V, by simp; omega, fun x hx => ?_, ?_⟩
    · obtain ⟨i, hi, rfl⟩ := List.mem_map.1 hx
      exact (hV i (List.mem_range.1 hi)).2
    · rw [List.map_map]
      rcases Nat.eq_zero_or_pos len with h0 | hpos
      · subst h0; exact .vnil _ _
      · obtain ⟨β, o, spot⟩ := a'
        obtain rfl : spot = none := by simpa [Addr.add] using World.cell?_spot ((hV 0 hpos).1 0 _ rfl)
        exact Go.AL.rep_rows (k := 1) (fun i => [.int .i64 (V i)]) (fun i _ => rfl) hle _ (fun i _ => rfl) (fun i hi j c hj => by have := (hV i hi).1 j c hj; rw [Addr.add_lit, Addr.add_lit, Nat.add_assoc] at this; exact this)
theorem laidOut : laidOutB Try.prog = true := by kernel_rfl
set_option maxRecDepth 100000 in
theorem lifted (os : Os) (started : os.Started) (H : Type) (enc : TypeId × Value → H) :
    ReturnsInHanded {} Try.checked os 3 .any (Rows.graphTellsSpec.pre6 enc Try.prog Try.f3 Rows.graphTellsRow.domain false) (Rows.graphTellsSpec.post enc Try.prog Try.f3 false true false false) := by
  refine returnsInHanded_of_change_sized (C := Try.checked) own started (by kernel_rfl) Try.func3
    (ChangeSpec.witness6 (enc := enc) (C := Try.checked) false ⟨#[], #[.slice none 0 0, .slice none 0 0], []⟩ 8 (by kernel_rfl) (by kernel_rfl) (by kernel_rfl) (by kernel_rfl)) ?_
  intro W base args ds gs before hval0 hW hcnd hsz0 _
  have hsz : (DataW.weightsEach Try.prog (Try.f3.params.toList ++ Rows.graphTellsSpec.plain.varTypes Try.prog) (ds ++ gs)).all (· ≤ reachBytes) = true := hsz0
  have hval : ∀ (j : Nat) t v, Try.f3.params[j]? = some t → args[j]? = some v → Value.okWide Try.prog W .any base t v := hval0
  have hW' := hW
  obtain ⟨p, q, hA0, hV, rfl, hfz, hnd⟩ := hW
  have hA : DataW.TrodAll enc Try.prog W 0 (fun _ => true) true Try.f3.params.toList args.toList ds p := hA0
  rw [Try.params3] at hA hval hsz
  obtain ⟨v0, vs0, d0, ds0, p0, q0, hargs, rfl, rfl, h0, r0⟩ := trodAll_cons hA
  obtain ⟨v1, vs1, d1, ds1, p1, q1, rfl, rfl, rfl, h1, r1⟩ := trodAll_cons r0
  obtain ⟨rfl, rfl, rfl⟩ := trodAll_nil r1
  obtain rfl : args = #[v0, v1] := by cases args; simp_all
  obtain ⟨rfl, rfl⟩ := trodVars_none hV
  have hlt0 : ∀ x ∈ p0, x.block < W.heap.size := fun x hx => by simpa using hW'.lt x (by simp [hx])
  have hlt1 : ∀ x ∈ p1, x.block < W.heap.size := fun x hx => by simpa using hW'.lt x (by simp [hx])
  obtain ⟨a0, w0, rp0⟩ := Go.AL.open_has (P := Try.prog) (S := [22, 41, 3, 23]) (by kernel_rfl) (t := 22) (by decide) (hval 0 22 v0 rfl rfl) h0
  obtain ⟨a1, s1, w1, rp1⟩ := list23 (hval 1 23 v1 rfl rfl) h1
  clear hA0 hval0 hsz0 hsz
  refine ((Go.AL.GraphTells_all a0 a1 w0 s1 w1).calls trivial (Go.AL.repL_cons (rp0) (Go.AL.repL_cons (rp1) Go.AL.repL_nil))).mono fun e W' ⟨he, bel⟩ => ?_
  subst he
  exact ⟨_, rfl, _, _, _, [], _, [], hW', trodAll_mk1 (shut_bool Try.underlying4 _), (trodAll_cons_mk (Below.trod laidOut (by kernel_rfl) (of_decide_eq_true (by kernel_rfl)) h0 bel hlt0) (trodAll_cons_mk (Below.trod laidOut (by kernel_rfl) (of_decide_eq_true (by kernel_rfl)) h1 bel hlt1) trodAll_mk0)), rfl, bel.frame _, fun h => by cases h⟩
theorem over : Rows.graphTellsRow.holds Try.pinned (OpenSpec.ofChange Rows.graphTellsSpec) :=
  OpenClaim.holds_of_wide 3 Try.f3 rfl rfl rfl rfl rfl rfl rfl ⟨rfl, rfl, rfl, rfl, rfl⟩ rfl rfl rfl rfl rfl (by kernel_rfl) Try.func3 (by kernel_rfl)
    (of_decide_eq_true (by kernel_rfl)) (by unfold Func.isWrapper; first | (rw [if_pos (by decide +kernel)]; kernel_rfl) | (rw [if_neg (by decide +kernel)]; exact ⟨rfl, rfl⟩))
    (fun os started H enc _ => lifted os started H enc)
theorem proved : Rows.GraphTellsSaid := over
end Go.Proofs.Ytofopejmidlceaa.graphTells
namespace Go.Proofs.Ytofopejmidlceaa
/-- The row, under a short name, for the claim. -/
theorem graphTells_holds : Rows.GraphTellsSaid := graphTells.proved
#print axioms graphTells_holds
end Go.Proofs.Ytofopejmidlceaa
