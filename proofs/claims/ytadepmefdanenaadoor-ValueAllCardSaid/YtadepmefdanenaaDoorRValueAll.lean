/- The row of the law ValueAll: for every input the law returns true, and the input reads as it did. Conditions: none beyond the row's own cells. -/
import Derived.Test.YtadepmefdanenaaDoorRows
import Derived.Test.YtadepmefdanenaaDoorK03i
import Derived.Test.YtadepmefdanenaaDoorCards
import Derived.Test.YtadepmefdanenaaDoorTie
import Derived.WalkKit
import Derived.ProofKit
import Derived.OpenShut
import Derived.ShutString
import Derived.ChangeOld
import Derived.Below
import Derived.SizedLaws
import Derived.LaidMore
import Derived.LaidLaws
import Derived.LaidHandle
import Derived.MakeChecks
import Derived.Stop.Joined
import Derived.Stop.LaidErr
import Derived.Lib.LaidTab
import Derived.SevenTiedAt
import Derived.Deep.Slices
import Derived.Test.YtadepmefdanenaaDoorA21
namespace Go.Proofs.YtadepmefdanenaaDoor.valueAll
open Go.ChangeShapes Go.WideShapes Go.ChangeAt Go.RowKit
open Go.ChangeMaps (open_string shut_string)
set_option linter.unusedVariables false
theorem own : ownKnob Tryd.prog.godebug = none := by kernel_rfl
set_option maxRecDepth 100000 in
theorem cells51 {H : Type} {enc : TypeId × Value → H} {w : World} {base : Nat} {spare : Nat → Bool} {held : Bool} {fuel : Nat} {cs : List Value} {y : DataW H × List MemPlace} (hf : DataW.trod enc Tryd.prog w base spare held fuel 51 cs = some y) (hsz : cs.length = 2) :
    ∃ (x0 : Int) (x1 : Int), cs = [.int .i64 x0, .int .i64 x1] ∧ (Lit.int .i64 x0).wf = true ∧ (Lit.int .i64 x1).wf = true := by
  match cs, hsz with
  | [c0, c1], _ =>
    obtain ⟨xs1, n1, _, hx1, _, hl1, ha1⟩ := DataW.trod_struct Tryd.underlying51 hf
    obtain ⟨y1_0, e1_0⟩ : ∃ y, xs1[0]? = some y := ⟨_, List.getElem?_eq_getElem (by rw [hl1]; decide)⟩
    have g1_0 : DataW.trod enc Tryd.prog w base spare held n1 3 (([c0, c1].drop 0).take (Tryd.prog.cellsOf 3)) = xs1[0]? := ha1 0 _ rfl
    rw [e1_0, show Tryd.prog.cellsOf 3 = 1 by kernel_rfl] at g1_0
    have g1_0 : DataW.trod enc Tryd.prog w base spare held n1 3 [c0] = some y1_0 := g1_0
    obtain ⟨x0, hc0, _, w0⟩ := DataW.trod_int Tryd.underlying3 g1_0
    obtain ⟨y1_1, e1_1⟩ : ∃ y, xs1[1]? = some y := ⟨_, List.getElem?_eq_getElem (by rw [hl1]; decide)⟩
    have g1_1 : DataW.trod enc Tryd.prog w base spare held n1 49 (([c0, c1].drop 1).take (Tryd.prog.cellsOf 49)) = xs1[1]? := ha1 1 _ rfl
    rw [e1_1, show Tryd.prog.cellsOf 49 = 1 by kernel_rfl] at g1_1
    have g1_1 : DataW.trod enc Tryd.prog w base spare held n1 49 [c1] = some y1_1 := g1_1
    obtain ⟨x1, hc1, _, w1⟩ := DataW.trod_int Tryd.underlying49 g1_1
    obtain rfl := (List.cons.inj hc0).1
    obtain rfl := (List.cons.inj hc1).1
    exact ⟨x0, x1, rfl, w0, w1⟩
set_option maxRecDepth 100000 in
theorem list59 {H : Type} {enc : TypeId × Value → H} {W : World} {b0 : Nat} {v : Value} {d : DataW H} {ps : List MemPlace} (hv : Value.okWide Tryd.prog W .any b0 59 v) (h : DataW.Trod enc Tryd.prog W 0 (fun _ => true) true 59 v d ps) :
    ∃ l : List (Int × Int), l.length ≤ 9223372036854775807 ∧ (∀ x ∈ l, (Lit.int .i64 x.1).wf = true ∧ (Lit.int .i64 x.2).wf = true) ∧ Go.AL.Rep (Go.AL.G0 W) W (.vsl (l.map fun x => .agg [.p (.int .i64 x.1), .p (.int .i64 x.2)])) v := by
  obtain ⟨a, len, cap, rfl⟩ := okWide_slice Tryd.underlying59 hv
  obtain ⟨fuel, hf⟩ := h
  have hf : DataW.trod enc Tryd.prog W 0 (fun _ => true) true fuel 59 [.slice a len cap] = some (d, ps) := hf
  rcases Go.Deep.open_slice Tryd.underlying59 hf with ⟨hcs, _⟩ | ⟨a', len', cap', m, n, D, Pl, hcs, _, hle, hmx, hm, _, hel⟩
  · simp only [List.cons.injEq, Value.slice.injEq, and_true] at hcs
    obtain ⟨rfl, rfl, rfl⟩ := hcs
    exact ⟨[], by simp, by simp, .vnil _ _⟩
  · simp only [List.cons.injEq, Value.slice.injEq, and_true] at hcs
    obtain ⟨rfl, rfl, rfl⟩ := hcs
    have hm : m = cap := hm
    have hk : Tryd.prog.cellsOf 51 = 2 := by kernel_rfl
    obtain ⟨V, hV⟩ := Go.Deep.choose_lt (α := Int × Int) (n := len) (p := fun i x => (∀ j c, ([.int .i64 x.1, .int .i64 x.2] : List Value)[j]? = some c → W.cell? ((a'.add (i * 2)).add j) = some c) ∧ ((Lit.int .i64 x.1).wf = true ∧ (Lit.int .i64 x.2).wf = true)) (fun i hi => by
      obtain ⟨cs', h1, h2⟩ := hel i (by omega)
      rw [hk] at h1
      obtain ⟨_, hl, hc⟩ := World.cells?_some h1
      obtain ⟨x0, x1, rfl, w0, w1⟩ := cells51 h2 hl
      refine ⟨(x0, x1), fun j c hj => ?_, ⟨w0, w1⟩⟩
      have hjk : j < 2 := (List.getElem?_eq_some_iff.1 hj).1
      have := hc j hjk
      rw [hj] at this
      exact this)
    have hmx' : cap ≤ 9223372036854775807 := hmx
    refine ⟨(List.range len).map V, by simp; omega, fun x hx => ?_, ?_⟩
    · obtain ⟨i, hi, rfl⟩ := List.mem_map.1 hx
      exact (hV i (List.mem_range.1 hi)).2
    · rw [List.map_map]
      rcases Nat.eq_zero_or_pos len with h0 | hpos
      · subst h0; exact .vnil _ _
      · obtain ⟨β, o, spot⟩ := a'
        obtain rfl : spot = none := by simpa [Addr.add] using World.cell?_spot ((hV 0 hpos).1 0 _ rfl)
        exact Go.AL.rep_rows (k := 2) (fun i => [.int .i64 (V i).1, .int .i64 (V i).2]) (fun i _ => rfl) hle _ (fun i _ => rfl) (fun i hi j c hj => by have := (hV i hi).1 j c hj; rw [Addr.add_lit, Addr.add_lit, Nat.add_assoc] at this; exact this)
theorem laidOut : laidOutB Tryd.prog = true := by kernel_rfl
theorem door_met (os : Os) (args : Array Value) : laidMetH Tryd.prog Rows.valueAllRow.laid ((World.doorLaid Tryd.prog 62 os).forCall (fun _ _ => 0) ⟨#[], args, []⟩).memory :=
  laidMetH_of_parts3 (fuel := 8) (laidMet_of_run' 8 (by kernel_rfl) (by kernel_rfl)) (by kernel_rfl) (by kernel_rfl)
theorem row130 : ∀ u, Tryd.prog.typeName? 3 u = some "*errors.errorString" → u = 130 := fun u hu => typeName_ptr_named (nm := "errors.errorString") (by kernel_rfl) (by kernel_rfl) (by decide) u hu
theorem glob {W : World} (h : laidMetH Tryd.prog Rows.valueAllRow.laid W) : Go.AL.Init W := by
  rw [MakeChecks.laidMetH_plain _ _ _ (by kernel_rfl)] at h
  have h : laidMet Tryd.prog [("math/bits.deBruijn32tab", Rows.laid_math_bits_deBruijn32tab), ("math/bits.deBruijn64tab", Rows.laid_math_bits_deBruijn64tab), ("internal/strconv.uint64pow10", Rows.laid_internal_strconv_uint64pow10), ("strconv.ErrRange", Rows.laid_strconv_ErrRange), ("strconv.ErrSyntax", Rows.laid_strconv_ErrSyntax)] W := h
  have h1 := h.tail
  have h2 := h1.tail
  have t2 : Lib.TabIs Tryd.prog W "internal/strconv.uint64pow10" .u64 Lib.pow10Tab := Lib.tabIs_of_head (g := 2) (n := 20) (rest := _) (by kernel_rfl) (by kernel_rfl) Tryd.underlying135 Tryd.underlying96 (by kernel_rfl) (by kernel_rfl) h2
  have h3 := h2.tail
  obtain ⟨a3, s3, v3, -⟩ := laid_sentinel h3 (g := 1) (by kernel_rfl) (by kernel_rfl) Tryd.underlying69 row130 Tryd.underlying130 Tryd.underlying132 rfl rfl Tryd.underlying9 (by kernel_rfl) (by kernel_rfl)
  have h4 := h3.tail
  obtain ⟨a4, s4, v4, -⟩ := laid_sentinel h4 (g := 0) (by kernel_rfl) (by kernel_rfl) Tryd.underlying69 row130 Tryd.underlying130 Tryd.underlying132 rfl rfl Tryd.underlying9 (by kernel_rfl) (by kernel_rfl)
  exact ⟨t2, ⟨_, _, v3⟩, ⟨_, _, v4⟩⟩
set_option maxRecDepth 100000 in
theorem lifted (os : Os) (started : os.Started) (H : Type) (enc : TypeId × Value → H) :
    ReturnsInHanded {} Tryd.checked os 7 .any (fun w args => (Rows.valueAllSpec.pre enc Tryd.prog Tryd.f7 [] false w args ∧ laidMetH Tryd.prog Rows.valueAllRow.laid w) ∧ sizedMet enc Tryd.prog Tryd.f7 (OpenSpec.ofChange Rows.valueAllSpec) false w args) (Rows.valueAllSpec.post enc Tryd.prog Tryd.f7 false true false false) := by
  refine returnsInHanded_of_change_and (C := Tryd.checked) (X := fun w _ => laidMetH Tryd.prog Rows.valueAllRow.laid w) (fun _ _ _ hh h => h.of_heap hh) own started (by kernel_rfl) Tryd.func7
    (ChangeSpec.witness_shaped (enc := enc) (C := Tryd.checked) (os := os) (X := fun w _ => laidMetH Tryd.prog Rows.valueAllRow.laid w) false (World.doorLaid Tryd.prog 62 os) #[.slice none 0 0] 8 rfl (World.shaped_of_RefB (by kernel_rfl) (by kernel_rfl)) (by kernel_rfl) (by kernel_rfl) (by kernel_rfl) (door_met os _)) ?_
  intro W base args ds gs before hval0 hW hcnd hsz0 hL _
  have hG := glob hL
  have hsz : (DataW.weightsEach Tryd.prog (Tryd.f7.params.toList ++ Rows.valueAllSpec.plain.varTypes Tryd.prog) (ds ++ gs)).all (· ≤ reachBytes) = true := hsz0
  have hval : ∀ (j : Nat) t v, Tryd.f7.params[j]? = some t → args[j]? = some v → Value.okWide Tryd.prog W .any base t v := hval0
  have hW' := hW
  obtain ⟨p, q, hA0, hV, rfl, hfz, hnd⟩ := hW
  have hA : DataW.TrodAll enc Tryd.prog W 0 (fun _ => true) true Tryd.f7.params.toList args.toList ds p := hA0
  rw [Tryd.params7] at hA hval hsz
  obtain ⟨v0, vs0, d0, ds0, p0, q0, hargs, rfl, rfl, h0, r0⟩ := trodAll_cons hA
  obtain ⟨rfl, rfl, rfl⟩ := trodAll_nil r0
  obtain rfl : args = #[v0] := by cases args; simp_all
  obtain ⟨rfl, rfl⟩ := trodVars_none hV
  have hlt0 : ∀ x ∈ p0, x.block < W.heap.size := fun x hx => by simpa using hW'.lt x (by simp [hx])
  obtain ⟨a0, s0, w0, rp0⟩ := list59 (hval 0 59 v0 rfl rfl) h0
  clear hA0 hval0 hsz0 hsz
  refine ((Go.AL.ValueAll_all a0 s0 w0).calls hG (Go.AL.repL_cons (rp0) Go.AL.repL_nil)).mono fun e W' ⟨he, bel⟩ => ?_
  subst he
  exact ⟨_, rfl, _, _, _, [], _, [], hW', trodAll_mk1 (shut_bool Tryd.underlying4 _), (trodAll_cons_mk (Below.trod laidOut (by kernel_rfl) (of_decide_eq_true (by kernel_rfl)) h0 bel hlt0) trodAll_mk0), rfl, bel.frame _, fun h => by cases h⟩
theorem over : Rows.valueAllRow.holds Tryd.pinned (OpenSpec.ofChange Rows.valueAllSpec) :=
  OpenClaim.holds_of_wide 7 Tryd.f7 rfl rfl rfl rfl rfl rfl rfl ⟨rfl, rfl, rfl, rfl, rfl⟩ rfl rfl rfl rfl rfl (by kernel_rfl) Tryd.func7 (by kernel_rfl)
    (of_decide_eq_true (by kernel_rfl)) (by unfold Func.isWrapper; first | (rw [if_pos (by decide +kernel)]; kernel_rfl) | (rw [if_neg (by decide +kernel)]; exact ⟨rfl, rfl⟩))
    (fun os started H enc _ => lifted os started H enc)
theorem card : Claim7.holds Tryd.pinned (.plain (OpenSpec.ofChange Rows.valueAllSpec)) Rows.valueAllCard :=
  Claim7.holds_tied_plain_at .later [] [.data, .data, .data, .sentinel, .sentinel] true (true, "5e96203a80c0fe8d234da7e592c67aabc2f4e9b4fc3104c8321a143862f68544") true
    over (fun _ h => by cases h) (by kernel_rfl) (fun _ h => by cases h) valueAll_row_tie rfl ⟨rfl, rfl⟩ (by kernel_rfl) rfl
    (fun f fn hf hfn => by
      obtain rfl : f = 7 := Option.some.inj ((show Tryd.prog.funcNamed "gridiron/gridironlaw03.ValueAll" = some 7 by kernel_rfl).symm.trans hf) |>.symm
      obtain rfl : fn = Tryd.f7 := (Option.some.inj (Tryd.func7.symm.trans hfn)).symm
      exact ⟨by kernel_rfl, fun j t ht => by
        rw [Tryd.params7] at ht
        have h3 : t = 59 := by
          rcases j with _ | j
          · simp at ht; subst ht; simp
          · simp at ht
        rcases h3 with rfl
        exact (show Tryd.prog.wantsStandIn 59 = false by kernel_rfl)⟩)
    (by kernel_rfl)
end Go.Proofs.YtadepmefdanenaaDoor.valueAll
namespace Go.Proofs.YtadepmefdanenaaDoor
/-- The card, under a short name, for the claim. -/
theorem valueAll_holds : Rows.ValueAllCardSaid := valueAll.card
#print axioms valueAll_holds
end Go.Proofs.YtadepmefdanenaaDoor
