/- The row of the law PlaceBack: for every input the law returns true, and the input reads as it did. Conditions: none beyond the row's own cells. -/
import Derived.Test.YtadepmefdanenaaDoorRows
import Derived.Test.YtadepmefdanenaaDoorK02r
import Derived.Test.YtadepmefdanenaaDoorCards
import Derived.Test.YtadepmefdanenaaDoorTie
import Derived.WalkKit
import Derived.ProofKit
import Derived.OpenShut
import Derived.ShutString
import Derived.ChangeOld
import Derived.Below
import Derived.SizedLaws
import Derived.LaidMore
import Derived.LaidLaws
import Derived.LaidHandle
import Derived.MakeChecks
import Derived.Stop.Joined
import Derived.Stop.LaidErr
import Derived.Lib.LaidTab
import Derived.SevenTiedAt
namespace Go.Proofs.YtadepmefdanenaaDoor.placeBack
open Go.ChangeShapes Go.WideShapes Go.ChangeAt Go.RowKit
open Go.ChangeMaps (open_string shut_string)
set_option linter.unusedVariables false
theorem own : ownKnob Tryd.prog.godebug = none := by kernel_rfl
set_option maxRecDepth 100000 in
theorem opens23 {H : Type} {enc : TypeId × Value → H} {w : World} {base : Nat} {spare : Nat → Bool} {held : Bool} {r : Reach} {b0 : Nat} {v : Value} {d : DataW H} {ps : List MemPlace} (hv : Value.okWide Tryd.prog w r b0 23 v) (h : DataW.Trod enc Tryd.prog w base spare held 23 v d ps) :
    ∃ (x0 : Int) (x1 : Int), v = .agg #[.int .i64 x0, .int .i64 x1] ∧ (Lit.int .i64 x0).wf = true ∧ (Lit.int .i64 x1).wf = true := by
  obtain ⟨cs, rfl, hsz⟩ := okWide_struct Tryd.underlying23 hv
  rw [show Tryd.prog.cellsOf 23 = 2 by kernel_rfl] at hsz
  obtain ⟨l, rfl⟩ : ∃ l : List Value, cs = ⟨l⟩ := ⟨cs.toList, by simp⟩
  match l, hsz with
  | [c0, c1], _ =>
    obtain ⟨fuel, hf⟩ := h
    have hf : DataW.trod enc Tryd.prog w base spare held fuel 23 [c0, c1] = some (d, ps) := hf
    obtain ⟨xs1, n1, _, hx1, _, hl1, ha1⟩ := DataW.trod_struct Tryd.underlying23 hf
    obtain ⟨y1_0, e1_0⟩ : ∃ y, xs1[0]? = some y := ⟨_, List.getElem?_eq_getElem (by rw [hl1]; decide)⟩
    have g1_0 : DataW.trod enc Tryd.prog w base spare held n1 3 (([c0, c1].drop 0).take (Tryd.prog.cellsOf 3)) = xs1[0]? := ha1 0 _ rfl
    rw [e1_0, show Tryd.prog.cellsOf 3 = 1 by kernel_rfl] at g1_0
    have g1_0 : DataW.trod enc Tryd.prog w base spare held n1 3 [c0] = some y1_0 := g1_0
    obtain ⟨x0, hc0, _, w0⟩ := DataW.trod_int Tryd.underlying3 g1_0
    obtain ⟨y1_1, e1_1⟩ : ∃ y, xs1[1]? = some y := ⟨_, List.getElem?_eq_getElem (by rw [hl1]; decide)⟩
    have g1_1 : DataW.trod enc Tryd.prog w base spare held n1 3 (([c0, c1].drop 1).take (Tryd.prog.cellsOf 3)) = xs1[1]? := ha1 1 _ rfl
    rw [e1_1, show Tryd.prog.cellsOf 3 = 1 by kernel_rfl] at g1_1
    have g1_1 : DataW.trod enc Tryd.prog w base spare held n1 3 [c1] = some y1_1 := g1_1
    obtain ⟨x1, hc1, _, w1⟩ := DataW.trod_int Tryd.underlying3 g1_1
    obtain rfl := (List.cons.inj hc0).1
    obtain rfl := (List.cons.inj hc1).1
    exact ⟨x0, x1, rfl, w0, w1⟩
theorem laidOut : laidOutB Tryd.prog = true := by kernel_rfl
theorem door_met (os : Os) (args : Array Value) : laidMetH Tryd.prog Rows.placeBackRow.laid ((World.doorLaid Tryd.prog 62 os).forCall (fun _ _ => 0) ⟨#[], args, []⟩).memory :=
  laidMetH_of_parts3 (fuel := 8) (laidMet_of_run' 8 (by kernel_rfl) (by kernel_rfl)) (by kernel_rfl) (by kernel_rfl)
theorem row130 : ∀ u, Tryd.prog.typeName? 3 u = some "*errors.errorString" → u = 130 := fun u hu => typeName_ptr_named (nm := "errors.errorString") (by kernel_rfl) (by kernel_rfl) (by decide) u hu
theorem glob {W : World} (h : laidMetH Tryd.prog Rows.placeBackRow.laid W) : Go.AL.Init W := by
  rw [MakeChecks.laidMetH_plain _ _ _ (by kernel_rfl)] at h
  have h : laidMet Tryd.prog [("math/bits.deBruijn32tab", Rows.laid_math_bits_deBruijn32tab), ("math/bits.deBruijn64tab", Rows.laid_math_bits_deBruijn64tab), ("internal/strconv.uint64pow10", Rows.laid_internal_strconv_uint64pow10), ("strconv.ErrRange", Rows.laid_strconv_ErrRange), ("strconv.ErrSyntax", Rows.laid_strconv_ErrSyntax)] W := h
  have h1 := h.tail
  have h2 := h1.tail
  have t2 : Lib.TabIs Tryd.prog W "internal/strconv.uint64pow10" .u64 Lib.pow10Tab := Lib.tabIs_of_head (g := 2) (n := 20) (rest := _) (by kernel_rfl) (by kernel_rfl) Tryd.underlying135 Tryd.underlying96 (by kernel_rfl) (by kernel_rfl) h2
  have h3 := h2.tail
  obtain ⟨a3, s3, v3, -⟩ := laid_sentinel h3 (g := 1) (by kernel_rfl) (by kernel_rfl) Tryd.underlying69 row130 Tryd.underlying130 Tryd.underlying132 rfl rfl Tryd.underlying9 (by kernel_rfl) (by kernel_rfl)
  have h4 := h3.tail
  obtain ⟨a4, s4, v4, -⟩ := laid_sentinel h4 (g := 0) (by kernel_rfl) (by kernel_rfl) Tryd.underlying69 row130 Tryd.underlying130 Tryd.underlying132 rfl rfl Tryd.underlying9 (by kernel_rfl) (by kernel_rfl)
  exact ⟨t2, ⟨_, _, v3⟩, ⟨_, _, v4⟩⟩
set_option maxRecDepth 100000 in
theorem lifted (os : Os) (started : os.Started) (H : Type) (enc : TypeId × Value → H) :
    ReturnsInHanded {} Tryd.checked os 4 .any (fun w args => (Rows.placeBackSpec.pre enc Tryd.prog Tryd.f4 [] false w args ∧ laidMetH Tryd.prog Rows.placeBackRow.laid w) ∧ sizedMet enc Tryd.prog Tryd.f4 (OpenSpec.ofChange Rows.placeBackSpec) false w args) (Rows.placeBackSpec.post enc Tryd.prog Tryd.f4 false true false false) := by
  refine returnsInHanded_of_change_and (C := Tryd.checked) (X := fun w _ => laidMetH Tryd.prog Rows.placeBackRow.laid w) (fun _ _ _ hh h => h.of_heap hh) own started (by kernel_rfl) Tryd.func4
    (ChangeSpec.witness_shaped (enc := enc) (C := Tryd.checked) (os := os) (X := fun w _ => laidMetH Tryd.prog Rows.placeBackRow.laid w) false (World.doorLaid Tryd.prog 62 os) #[.int .u16 0, .agg #[.int .i64 0, .int .i64 0], .int .u16 0] 8 rfl (World.shaped_of_RefB (by kernel_rfl) (by kernel_rfl)) (by kernel_rfl) (by kernel_rfl) (by kernel_rfl) (door_met os _)) ?_
  intro W base args ds gs before hval0 hW hcnd hsz0 hL _
  have hG := glob hL
  have hsz : (DataW.weightsEach Tryd.prog (Tryd.f4.params.toList ++ Rows.placeBackSpec.plain.varTypes Tryd.prog) (ds ++ gs)).all (· ≤ reachBytes) = true := hsz0
  have hval : ∀ (j : Nat) t v, Tryd.f4.params[j]? = some t → args[j]? = some v → Value.okWide Tryd.prog W .any base t v := hval0
  have hW' := hW
  obtain ⟨p, q, hA0, hV, rfl, hfz, hnd⟩ := hW
  have hA : DataW.TrodAll enc Tryd.prog W 0 (fun _ => true) true Tryd.f4.params.toList args.toList ds p := hA0
  rw [Tryd.params4] at hA hval hsz
  obtain ⟨v0, vs0, d0, ds0, p0, q0, hargs, rfl, rfl, h0, r0⟩ := trodAll_cons hA
  obtain ⟨v1, vs1, d1, ds1, p1, q1, rfl, rfl, rfl, h1, r1⟩ := trodAll_cons r0
  obtain ⟨v2, vs2, d2, ds2, p2, q2, rfl, rfl, rfl, h2, r2⟩ := trodAll_cons r1
  obtain ⟨rfl, rfl, rfl⟩ := trodAll_nil r2
  obtain rfl : args = #[v0, v1, v2] := by cases args; simp_all
  obtain ⟨rfl, rfl⟩ := trodVars_none hV
  have hlt1 : ∀ x ∈ p1, x.block < W.heap.size := fun x hx => by simpa using hW'.lt x (by simp [hx])
  obtain ⟨a0, rfl, rfl, rfl, w0⟩ := open_int Tryd.underlying36 (hval 0 36 v0 rfl rfl) h0
  obtain ⟨a1_0, a1_1, rfl, w1_0, w1_1⟩ := opens23 (hval 1 23 v1 rfl rfl) h1
  obtain ⟨a2, rfl, rfl, rfl, w2⟩ := open_int Tryd.underlying36 (hval 2 36 v2 rfl rfl) h2
  clear hA0 hval0 hsz0 hsz
  refine ((Go.AL.PlaceBack_all a0 a1_0 a1_1 a2 w0 w1_0 w1_1 w2).calls hG (Go.AL.repL_cons (.p _) (Go.AL.repL_cons ((Go.AL.rep_agg (Go.AL.repL_cons (.p _) (Go.AL.repL_cons (.p _) Go.AL.repL_nil)))) (Go.AL.repL_cons (.p _) Go.AL.repL_nil)))).mono fun e W' ⟨he, bel⟩ => ?_
  subst he
  exact ⟨_, rfl, _, _, _, [], _, [], hW', trodAll_mk1 (shut_bool Tryd.underlying4 _), (trodAll_cons_mk (shut_int Tryd.underlying36 w0) (trodAll_cons_mk (Below.trod laidOut (by kernel_rfl) (of_decide_eq_true (by kernel_rfl)) h1 bel hlt1) (trodAll_cons_mk (shut_int Tryd.underlying36 w2) trodAll_mk0))), rfl, bel.frame _, fun h => by cases h⟩
theorem over : Rows.placeBackRow.holds Tryd.pinned (OpenSpec.ofChange Rows.placeBackSpec) :=
  OpenClaim.holds_of_wide 4 Tryd.f4 rfl rfl rfl rfl rfl rfl rfl ⟨rfl, rfl, rfl, rfl, rfl⟩ rfl rfl rfl rfl rfl (by kernel_rfl) Tryd.func4 (by kernel_rfl)
    (of_decide_eq_true (by kernel_rfl)) (by unfold Func.isWrapper; first | (rw [if_pos (by decide +kernel)]; kernel_rfl) | (rw [if_neg (by decide +kernel)]; exact ⟨rfl, rfl⟩))
    (fun os started H enc _ => lifted os started H enc)
theorem card : Claim7.holds Tryd.pinned (.plain (OpenSpec.ofChange Rows.placeBackSpec)) Rows.placeBackCard :=
  Claim7.holds_tied_plain_at .later [] [.data, .data, .data, .sentinel, .sentinel] true (true, "5e96203a80c0fe8d234da7e592c67aabc2f4e9b4fc3104c8321a143862f68544") true
    over (fun _ h => by cases h) (by kernel_rfl) (fun _ h => by cases h) placeBack_row_tie rfl ⟨rfl, rfl⟩ (by kernel_rfl) rfl
    (fun f fn hf hfn => by
      obtain rfl : f = 4 := Option.some.inj ((show Tryd.prog.funcNamed "gridiron/gridironlaw02.PlaceBack" = some 4 by kernel_rfl).symm.trans hf) |>.symm
      obtain rfl : fn = Tryd.f4 := (Option.some.inj (Tryd.func4.symm.trans hfn)).symm
      exact ⟨by kernel_rfl, fun j t ht => by
        rw [Tryd.params4] at ht
        have h3 : t = 23 ∨ t = 36 := by
          rcases j with _ | j
          · simp at ht; subst ht; simp
          rcases j with _ | j
          · simp at ht; subst ht; simp
          rcases j with _ | j
          · simp at ht; subst ht; simp
          · simp at ht
        rcases h3 with rfl | rfl
        · exact (show Tryd.prog.wantsStandIn 23 = false by kernel_rfl)
        · exact (show Tryd.prog.wantsStandIn 36 = false by kernel_rfl)⟩)
    (by kernel_rfl)
end Go.Proofs.YtadepmefdanenaaDoor.placeBack
namespace Go.Proofs.YtadepmefdanenaaDoor
/-- The card, under a short name, for the claim. -/
theorem placeBack_holds : Rows.PlaceBackCardSaid := placeBack.card
#print axioms placeBack_holds
end Go.Proofs.YtadepmefdanenaaDoor
