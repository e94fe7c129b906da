import Derived.Test.YtagajnfmfpihmaaDoorG0
import Derived.Test.YtagajnfmfpihmaaDoorGNumTold
import Derived.Test.YtagajnfmfpihmaaDoorShelf
import Derived.Deep.RegionWith
namespace Go.Proofs.YtagajnfmfpihmaaDoor.G
open Go.Sort Go.Lib Go.RowKit Go.Proofs.YtagajnfmfpihmaaDoorW.PrintWords Go.Proofs.YtagajnfmfpihmaaDoorW.PrintLast Go.Proofs.YtagajnfmfpihmaaDoorW.PrintMore
set_option linter.unusedVariables false
set_option linter.unusedSimpArgs false

theorem below_grow {w : World} (k : Nat) (os : Array Obj) : Below w.heap.size w (grow (w.drewN k) os) := by
  refine ⟨rfl, rfl, rfl, ?_, fun i hi => ?_⟩
  · simp [grow, World.drewN]
  · simp [grow, World.drewN, Array.getElem?_append, hi]
theorem below_of_drew {w w' : World} (h : Below w.drew.heap.size w.drew w') : Below w.heap.size w w' := ⟨h.os, h.tape, h.output, h.size, h.block⟩

/-! ### num.Text -/
def num_Text.f (a0 : Int) : Option ByteArray := if -9223372036854775808 ≤ a0 ∧ a0 ≤ 9223372036854775807 then some ⟨(Lib.itoa a0).toArray⟩ else none
theorem num_Text.calls (a0 : Int) (r : ByteArray) (w : World) (hG : Glob w) (h : num_Text.f a0 = some r) :
    Calls Tryd.prog 18 #[.int .i64 a0] w fun e w' => e = .returned (.string r) ∧ Below w.heap.size w w' := by
  unfold num_Text.f at h
  split at h
  · rename_i hb
    obtain rfl := Option.some.inj h
    have H := Aside0.mk hG
    clear hG h
    go_enter Tryd.func18, Tryd.ntmps18
    go_wp2_with (go_at_call 26; refine (Tryd.strconv_Itoa a0 hb.1 hb.2 _ H.out.tab).mono ?_; rintro e w' ⟨rfl, k, os, rfl⟩)
    go_ret
    exact ⟨rfl, below_grow k os⟩
  · exact absurd h (by simp)

/-! ### num.Parse -/
theorem C_bools2 (w : World) (a b : Bool) : Kd.C Kd.bool (w.alloc (.cells #[.bool a, .bool b] 4)) (some ⟨w.heap.size, 0, none⟩) 2 [a, b] := by
  refine ⟨rfl, by omega, fun _ => ⟨_, rfl, fun j p hj => ?_⟩⟩
  have hb : (w.alloc (.cells #[.bool a, .bool b] 4)).heap[w.heap.size]? = some (.cells #[.bool a, .bool b] 4 (0, 0)) := by simpa using heap_alloc_new w _
  match j, hj with
  | 0, hj => obtain rfl := Option.some.inj hj; exact ⟨[.bool a], rfl, rfl, fun i u hu => by match i, hu with | 0, hu => rw [Go.Proofs.YtagajnfmfpihmaaDoorW.PrintWords.add_plain]; exact (blk_cell hb 0).trans hu⟩
  | 1, hj => obtain rfl := Option.some.inj hj; exact ⟨[.bool b], rfl, rfl, fun i u hu => by match i, hu with | 0, hu => rw [Go.Proofs.YtagajnfmfpihmaaDoorW.PrintWords.add_plain]; exact (blk_cell hb 1).trans hu⟩
def ifb (b : Bool) (n : Int) : Int := if b = true then n else 0
theorem told2 (n : Int) (a b : Bool) : num_told.f 9 n [a, b] = some (ifb (a && b) n, a && b) := by
  cases a <;> cases b <;> simp [ifb, num_told.f, num_all.f, num_all.l0, rdOf, wrap64]
def num_Parse.f (s : ByteArray) : Option (Int × Bool) :=
  if s.size ≤ 281474976710656 then
    match Lib.atoiAll s.data.toList with
    | .ok v => some (ifb (Lib.itoa v == s.toList) v, Lib.itoa v == s.toList)
    | _ => some (0, false)
  else none

set_option maxHeartbeats 4000000 in
set_option maxRecDepth 100000 in
theorem num_Parse.ok (s : ByteArray) (v : Int) (w : World) (hG : Glob w) (hs : s.size ≤ 281474976710656) (hv : Lib.atoiAll s.data.toList = .ok v) :
    Calls Tryd.prog 17 #[.string s] w fun e w' => e = .returned (.tuple #[.int .i64 (ifb (Lib.itoa v == s.toList) v), .bool (Lib.itoa v == s.toList)]) ∧ Below w.heap.size w w' := by
  have HG := Aside0.mk hG
  clear hG
  have HV := Aside0.mk hv
  clear hv
  obtain ⟨b0, b1⟩ := Lib.atoiAll_bounds HV.out
  go_enter Tryd.func17, Tryd.ntmps17
  go_wp2_with (go_at_call 25; refine (Tryd.strconv_Atoi_ok s (by omega) v HV.out _).mono ?_; rintro e W1 ⟨rfl, hW⟩)
  have hb1 : Below w.heap.size w W1 := by
    rcases hW with rfl | ⟨t, rfl⟩
    · exact Below.refl _ _
    · exact Lib.bytesWorld_below _ _ _
  clear hW
  have HG1 := Aside0.mk (HG.out.below hb1)
  have HB1 := Aside0.mk hb1
  clear hb1
  have hT : num_Text.f v = some ⟨(Lib.itoa v).toArray⟩ := by unfold num_Text.f; rw [if_pos ⟨b0, b1⟩]
  have HT := Aside0.mk hT
  clear hT
  go_region_with (first
    | (go_at_call 18; refine (num_Text.calls v ⟨(Lib.itoa v).toArray⟩ _ ?hg HT.out).mono ?_; (case hg => repeat (first | exact HG1.out | (with_reducible refine Glob.drewN ?_ _) | (with_reducible refine Glob.drew ?_))); rintro e W2 ⟨rfl, hb2⟩)
    | (go_at_call 21; refine (num_told.calls 9 v _ _ [true, Lib.itoa v == s.toList] _ _ _ ?hr ?hc (told2 v true _)).mono ?_; (case hr => exact C_bools2 _ _ _); (case hc => exact Nat.le_refl _); rintro e W3 ⟨rfl, nd, rfl⟩))
  all_goals
    go_wp2
    go_ret2
    exact ⟨rfl, pw_below_drewN (below_alloc (below_then HB1.out HB1.out.size (show Below W1.heap.size W1 _ from below_of_drew hb2)) _) _⟩
/-- What Atoi says of a text that is no number's. -/
structure NoAtoi (s : ByteArray) (w : World) (e : Ending) (w' : World) : Prop where mk ::
  (out : ∃ n T p, e = .returned (.tuple #[.int .i64 n, .iface T p]) ∧ -9223372036854775808 ≤ n ∧ n ≤ 9223372036854775807 ∧ T = 47 ∧ Below w.heap.size w w')
theorem no_atoi (s : ByteArray) (w : World) (hG : Glob w) (hs : s.size ≤ 281474976710656) (hv : ∀ v, Lib.atoiAll s.data.toList ≠ .ok v) :
    Calls Tryd.prog 25 #[.string s] w fun e w' => NoAtoi s w e w' := by
  obtain ⟨-, ⟨t2, p2, h2⟩, ⟨t3, p3, h3⟩⟩ := hG
  rcases hr : Lib.atoiAll s.data.toList with v | - | -
  · exact absurd hr (hv v)
  · exact (Tryd.strconv_Atoi_syntax_var s hs hr t3 p3 w h3).mono fun e w' ⟨N, he, _, _, hb⟩ => ⟨_, _, _, he, by omega, by omega, rfl, hb⟩
  · exact (Tryd.strconv_Atoi_range_var s hs hr t2 p2 w h2).mono fun e w' ⟨N, he, _, _, hb⟩ => ⟨_, _, _, he, by unfold Lib.atoiSat; split <;> omega, by unfold Lib.atoiSat; split <;> omega, rfl, hb⟩
set_option maxHeartbeats 4000000 in
set_option maxRecDepth 100000 in
theorem num_Parse.no (s : ByteArray) (w : World) (hG : Glob w) (hs : s.size ≤ 281474976710656) (hv : ∀ v, Lib.atoiAll s.data.toList ≠ .ok v) :
    Calls Tryd.prog 17 #[.string s] w fun e w' => e = .returned (.tuple #[.int .i64 0, .bool false]) ∧ Below w.heap.size w w' := by
  have HG := Aside0.mk hG
  clear hG
  have HV := Aside0.mk hv
  clear hv
  go_enter Tryd.func17, Tryd.ntmps17
  go_wp2_with (go_at_call 25; refine (no_atoi s _ HG.out hs HV.out).mono ?_; rintro e W1 ⟨v, T, p, rfl, b0, b1, rfl, hb1⟩)
  have HG1 := Aside0.mk (HG.out.below hb1)
  have HB1 := Aside0.mk hb1
  clear hb1
  have hT : num_Text.f v = some ⟨(Lib.itoa v).toArray⟩ := by unfold num_Text.f; rw [if_pos ⟨b0, b1⟩]
  have HT := Aside0.mk hT
  clear hT
  go_region_with (first
    | (go_at_call 18; refine (num_Text.calls v ⟨(Lib.itoa v).toArray⟩ _ ?hg HT.out).mono ?_; (case hg => repeat (first | exact HG1.out | (with_reducible refine Glob.drewN ?_ _) | (with_reducible refine Glob.drew ?_))); rintro e W2 ⟨rfl, hb2⟩)
    | (go_at_call 21; refine (num_told.calls 9 v _ _ [false, Lib.itoa v == s.toList] _ _ _ ?hr ?hc (told2 v false _)).mono ?_; (case hr => exact C_bools2 _ _ _); (case hc => exact Nat.le_refl _); rintro e W3 ⟨rfl, nd, rfl⟩))
  all_goals
    go_wp2
    go_ret2
    exact ⟨rfl, pw_below_drewN (below_alloc (below_then HB1.out HB1.out.size (show Below W1.heap.size W1 _ from below_of_drew hb2)) _) _⟩
theorem num_Parse.calls (a0 : ByteArray) (r1 : Int) (r2 : Bool) (w : World) (hG : Glob w) (h : num_Parse.f a0 = some (r1, r2)) :
    Calls Tryd.prog 17 #[.string a0] w fun e w' => e = .returned (.tuple #[.int .i64 r1, .bool r2]) ∧ Below w.heap.size w w' := by
  unfold num_Parse.f at h
  by_cases hs : a0.size ≤ 281474976710656
  · rw [if_pos hs] at h
    rcases hr : Lib.atoiAll a0.data.toList with v | - | -
    · rw [hr] at h
      simp only [Option.some.injEq, Prod.mk.injEq] at h
      obtain ⟨rfl, rfl⟩ := h
      exact num_Parse.ok a0 v w hG hs hr
    · rw [hr] at h
      simp only [Option.some.injEq, Prod.mk.injEq] at h
      obtain ⟨rfl, rfl⟩ := h
      exact num_Parse.no a0 w hG hs (fun v => by rw [hr]; simp)
    · rw [hr] at h
      simp only [Option.some.injEq, Prod.mk.injEq] at h
      obtain ⟨rfl, rfl⟩ := h
      exact num_Parse.no a0 w hG hs (fun v => by rw [hr]; simp)
  · rw [if_neg hs] at h
    exact absurd h (by simp)
end Go.Proofs.YtagajnfmfpihmaaDoor.G
