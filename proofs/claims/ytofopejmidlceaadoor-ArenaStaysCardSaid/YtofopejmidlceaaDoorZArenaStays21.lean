/- The row of the law ArenaStays: for every input the law returns true, and the input reads as it did. Conditions: none beyond the row's own cells. -/
import Derived.Test.YtofopejmidlceaaDoorRows
import Derived.Test.YtofopejmidlceaaDoorZArenaStays20
import Derived.Test.YtofopejmidlceaaDoorCards
import Derived.Test.YtofopejmidlceaaDoorTie
import Derived.WalkKit
import Derived.ProofKit
import Derived.OpenShut
import Derived.ShutString
import Derived.ChangeOld
import Derived.Below
import Derived.SizedLaws
import Derived.LaidMore
import Derived.LaidLaws
import Derived.LaidHandle
import Derived.MakeChecks
import Derived.Stop.Joined
import Derived.Stop.LaidErr
import Derived.Lib.LaidTab
import Derived.SevenTiedAt
import Derived.Deep.Slices
import Derived.Test.YtofopejmidlceaaDoorZArenaStays7
import Derived.Test.YtofopejmidlceaaDoorZArenaStays9
namespace Go.Proofs.YtofopejmidlceaaDoor.arenaStays
open Go.ChangeShapes Go.WideShapes Go.ChangeAt Go.RowKit
open Go.ChangeMaps (open_string shut_string)
set_option linter.unusedVariables false
theorem own : ownKnob Tryd.prog.godebug = none := by kernel_rfl
set_option maxRecDepth 100000 in
theorem cells5 {H : Type} {enc : TypeId × Value → H} {w : World} {base : Nat} {spare : Nat → Bool} {held : Bool} {fuel : Nat} {cs : List Value} {y : DataW H × List MemPlace} (hf : DataW.trod enc Tryd.prog w base spare held fuel 5 cs = some y) (hsz : cs.length = 1) :
    ∃ (x0 : Int), cs = [.int .u8 x0] ∧ (Lit.int .u8 x0).wf = true := by
  obtain ⟨x0, hc0, _, w0⟩ := DataW.trod_int Tryd.underlying5 hf
  exact ⟨x0, hc0, w0⟩
set_option maxRecDepth 100000 in
theorem list53 {H : Type} {enc : TypeId × Value → H} {W : World} {b0 : Nat} {v : Value} {d : DataW H} {ps : List MemPlace} (hv : Value.okWide Tryd.prog W .any b0 53 v) (h : DataW.Trod enc Tryd.prog W 0 (fun _ => true) true 53 v d ps) :
    ∃ l : List (Int), l.length ≤ 9223372036854775807 ∧ (∀ x ∈ l, (Lit.int .u8 x).wf = true) ∧ Go.AL.Rep (Go.AL.G0 W) W (.vsl (l.map fun x => .p (.int .u8 x))) v := by
  obtain ⟨a, len, cap, rfl⟩ := okWide_slice Tryd.underlying53 hv
  obtain ⟨fuel, hf⟩ := h
  have hf : DataW.trod enc Tryd.prog W 0 (fun _ => true) true fuel 53 [.slice a len cap] = some (d, ps) := hf
  rcases Go.Deep.open_slice Tryd.underlying53 hf with ⟨hcs, _⟩ | ⟨a', len', cap', m, n, D, Pl, hcs, _, hle, hmx, hm, _, hel⟩
  · simp only [List.cons.injEq, Value.slice.injEq, and_true] at hcs
    obtain ⟨rfl, rfl, rfl⟩ := hcs
    exact ⟨[], by simp, by simp, .vnil _ _⟩
  · simp only [List.cons.injEq, Value.slice.injEq, and_true] at hcs
    obtain ⟨rfl, rfl, rfl⟩ := hcs
    have hm : m = cap := hm
    have hk : Tryd.prog.cellsOf 5 = 1 := by kernel_rfl
    obtain ⟨V, hV⟩ := Go.Deep.choose_lt (α := Int) (n := len) (p := fun i x => (∀ j c, ([.int .u8 x] : List Value)[j]? = some c → W.cell? ((a'.add (i * 1)).add j) = some c) ∧ ((Lit.int .u8 x).wf = true)) (fun i hi => by
      obtain ⟨cs', h1, h2⟩ := hel i (by omega)
      rw [hk] at h1
      obtain ⟨_, hl, hc⟩ := World.cells?_some h1
      obtain ⟨x0, rfl, w0⟩ := cells5 h2 hl
      refine ⟨x0, fun j c hj => ?_, w0⟩
      have hjk : j < 1 := (List.getElem?_eq_some_iff.1 hj).1
      have := hc j hjk
      rw [hj] at this
      exact this)
    have hmx' : cap ≤ 9223372036854775807 := hmx
    refine ⟨(List.range len).map V, by simp; omega, fun x hx => ?_, ?_⟩
    · obtain ⟨i, hi, rfl⟩ := List.mem_map.1 hx
      exact (hV i (List.mem_range.1 hi)).2
    · rw [List.map_map]
      rcases Nat.eq_zero_or_pos len with h0 | hpos
      · subst h0; exact .vnil _ _
      · obtain ⟨β, o, spot⟩ := a'
        obtain rfl : spot = none := by simpa [Addr.add] using World.cell?_spot ((hV 0 hpos).1 0 _ rfl)
        exact Go.AL.rep_rows (k := 1) (fun i => [.int .u8 (V i)]) (fun i _ => rfl) hle _ (fun i _ => rfl) (fun i hi j c hj => by have := (hV i hi).1 j c hj; rw [Addr.add_lit, Addr.add_lit, Nat.add_assoc] at this; exact this)
theorem laidOut : laidOutB Tryd.prog = true := by kernel_rfl
theorem door_met (os : Os) (args : Array Value) : laidMetH Tryd.prog Rows.arenaStaysRow.laid ((World.doorLaid Tryd.prog 24 os).forCall (fun _ _ => 0) ⟨#[], args, []⟩).memory :=
  laidMetH_of_parts3 (fuel := 8) (laidMet_of_run' 8 (by kernel_rfl) (by kernel_rfl)) (by kernel_rfl) (by kernel_rfl)
theorem glob {W : World} (h : laidMetH Tryd.prog Rows.arenaStaysRow.laid W) : Go.AL.Init W := by
  rw [MakeChecks.laidMetH_plain _ _ _ (by kernel_rfl)] at h
  have h : laidMet Tryd.prog [("math/bits.deBruijn32tab", Rows.laid_math_bits_deBruijn32tab), ("math/bits.deBruijn64tab", Rows.laid_math_bits_deBruijn64tab), ("internal/strconv.uint64pow10", Rows.laid_internal_strconv_uint64pow10)] W := h
  have h1 := h.tail
  have h2 := h1.tail
  have t2 : Lib.TabIs Tryd.prog W "internal/strconv.uint64pow10" .u64 Lib.pow10Tab := Lib.tabIs_of_head (g := 0) (n := 20) (rest := _) (by kernel_rfl) (by kernel_rfl) Tryd.underlying139 Tryd.underlying111 (by kernel_rfl) (by kernel_rfl) h2
  exact ⟨t2⟩
set_option maxRecDepth 100000 in
theorem lifted (os : Os) (started : os.Started) (H : Type) (enc : TypeId × Value → H) :
    ReturnsInHanded {} Tryd.checked os 4 .any (fun w args => (Rows.arenaStaysSpec.pre enc Tryd.prog Tryd.f4 [] false w args ∧ laidMetH Tryd.prog Rows.arenaStaysRow.laid w) ∧ sizedMet enc Tryd.prog Tryd.f4 (OpenSpec.ofChange Rows.arenaStaysSpec) false w args) (Rows.arenaStaysSpec.post enc Tryd.prog Tryd.f4 false true false false) := by
  refine returnsInHanded_of_change_and (C := Tryd.checked) (X := fun w _ => laidMetH Tryd.prog Rows.arenaStaysRow.laid w) (fun _ _ _ hh h => h.of_heap hh) own started (by kernel_rfl) Tryd.func4
    (ChangeSpec.witness_shaped (enc := enc) (C := Tryd.checked) (os := os) (X := fun w _ => laidMetH Tryd.prog Rows.arenaStaysRow.laid w) false (World.doorLaid Tryd.prog 24 os) #[.int .u8 0, .slice none 0 0, .slice none 0 0] 8 rfl (World.shaped_of_RefB (by kernel_rfl) (by kernel_rfl)) (by kernel_rfl) (by kernel_rfl) (by kernel_rfl) (door_met os _)) ?_
  intro W base args ds gs before hval0 hW hcnd hsz0 hL _
  have hG := glob hL
  have hsz : (DataW.weightsEach Tryd.prog (Tryd.f4.params.toList ++ Rows.arenaStaysSpec.plain.varTypes Tryd.prog) (ds ++ gs)).all (· ≤ reachBytes) = true := hsz0
  have hval : ∀ (j : Nat) t v, Tryd.f4.params[j]? = some t → args[j]? = some v → Value.okWide Tryd.prog W .any base t v := hval0
  have hW' := hW
  obtain ⟨p, q, hA0, hV, rfl, hfz, hnd⟩ := hW
  have hA : DataW.TrodAll enc Tryd.prog W 0 (fun _ => true) true Tryd.f4.params.toList args.toList ds p := hA0
  rw [Tryd.params4] at hA hval hsz
  obtain ⟨v0, vs0, d0, ds0, p0, q0, hargs, rfl, rfl, h0, r0⟩ := trodAll_cons hA
  obtain ⟨v1, vs1, d1, ds1, p1, q1, rfl, rfl, rfl, h1, r1⟩ := trodAll_cons r0
  obtain ⟨v2, vs2, d2, ds2, p2, q2, rfl, rfl, rfl, h2, r2⟩ := trodAll_cons r1
  obtain ⟨rfl, rfl, rfl⟩ := trodAll_nil r2
  obtain rfl : args = #[v0, v1, v2] := by cases args; simp_all
  obtain ⟨rfl, rfl⟩ := trodVars_none hV
  have hlt1 : ∀ x ∈ p1, x.block < W.heap.size := fun x hx => by simpa using hW'.lt x (by simp [hx])
  have hlt2 : ∀ x ∈ p2, x.block < W.heap.size := fun x hx => by simpa using hW'.lt x (by simp [hx])
  obtain ⟨a0, rfl, rfl, rfl, w0⟩ := open_int Tryd.underlying5 (hval 0 5 v0 rfl rfl) h0
  obtain ⟨a1, w1, rp1⟩ := Go.AL.open_has (P := Tryd.prog) (S := [22, 35, 5, 32, 40, 3, 33, 9]) (by kernel_rfl) (t := 22) (by decide) (hval 1 22 v1 rfl rfl) h1
  obtain ⟨a2, s2, w2, rp2⟩ := list53 (hval 2 53 v2 rfl rfl) h2
  clear hA0 hval0 hsz0 hsz
  refine ((Go.AL.ArenaStays_all a0 a1 a2 w0 w1 s2 w2).calls hG (Go.AL.repL_cons (.p _) (Go.AL.repL_cons (rp1) (Go.AL.repL_cons (rp2) Go.AL.repL_nil)))).mono fun e W' ⟨he, bel⟩ => ?_
  subst he
  exact ⟨_, rfl, _, _, _, [], _, [], hW', trodAll_mk1 (shut_bool Tryd.underlying4 _), (trodAll_cons_mk (shut_int Tryd.underlying5 w0) (trodAll_cons_mk (Below.trod laidOut (by kernel_rfl) (of_decide_eq_true (by kernel_rfl)) h1 bel hlt1) (trodAll_cons_mk (Below.trod laidOut (by kernel_rfl) (of_decide_eq_true (by kernel_rfl)) h2 bel hlt2) trodAll_mk0))), rfl, bel.frame _, fun h => by cases h⟩
theorem over : Rows.arenaStaysRow.holds Tryd.pinned (OpenSpec.ofChange Rows.arenaStaysSpec) :=
  OpenClaim.holds_of_wide 4 Tryd.f4 rfl rfl rfl rfl rfl rfl rfl ⟨rfl, rfl, rfl, rfl, rfl⟩ rfl rfl rfl rfl rfl (by kernel_rfl) Tryd.func4 (by kernel_rfl)
    (of_decide_eq_true (by kernel_rfl)) (by unfold Func.isWrapper; first | (rw [if_pos (by decide +kernel)]; kernel_rfl) | (rw [if_neg (by decide +kernel)]; exact ⟨rfl, rfl⟩))
    (fun os started H enc _ => lifted os started H enc)
theorem card : Claim7.holds Tryd.pinned (.plain (OpenSpec.ofChange Rows.arenaStaysSpec)) Rows.arenaStaysCard :=
  Claim7.holds_tied_plain_at .later [] [.data, .data, .data] true (true, "59a7b32ea4ce7db3c82336097526f0775747d940f62e6debb3cc6543209569a9") false
    over (fun _ h => by cases h) (by kernel_rfl) (fun _ h => by cases h) arenaStays_row_tie rfl ⟨rfl, rfl⟩ (by kernel_rfl) rfl
    (fun f fn hf hfn => by
      obtain rfl : f = 4 := Option.some.inj ((show Tryd.prog.funcNamed "gridiron/gridironlaw09.ArenaStays" = some 4 by kernel_rfl).symm.trans hf) |>.symm
      obtain rfl : fn = Tryd.f4 := (Option.some.inj (Tryd.func4.symm.trans hfn)).symm
      exact ⟨by kernel_rfl, fun j t ht => by
        rw [Tryd.params4] at ht
        have h3 : t = 5 ∨ t = 22 ∨ t = 53 := by
          rcases j with _ | j
          · simp at ht; subst ht; simp
          rcases j with _ | j
          · simp at ht; subst ht; simp
          rcases j with _ | j
          · simp at ht; subst ht; simp
          · simp at ht
        rcases h3 with rfl | rfl | rfl
        · exact (show Tryd.prog.wantsStandIn 5 = false by kernel_rfl)
        · exact (show Tryd.prog.wantsStandIn 22 = false by kernel_rfl)
        · exact (show Tryd.prog.wantsStandIn 53 = false by kernel_rfl)⟩)
    (by kernel_rfl)
end Go.Proofs.YtofopejmidlceaaDoor.arenaStays
namespace Go.Proofs.YtofopejmidlceaaDoor
/-- The card, under a short name, for the claim. -/
theorem arenaStays_holds : Rows.ArenaStaysCardSaid := arenaStays.card
#print axioms arenaStays_holds
end Go.Proofs.YtofopejmidlceaaDoor
