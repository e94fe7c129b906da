/-
  DERIVED: THE SHELF's CONTRACTS AT THIS DUMP, IN PLAIN WORDS (tools/lay-plain.mjs out of 'YtofopejmidlceaaSlsoft.lean', which tools/lay-shelf.mjs wrote): THE SAME DECLARATIONS UNDER THE SAME NAMES: 'import', 'namespace', 'open', 'def', 'theorem' AND NOTHING ELSE: no command of the shelf's: FOR A HAND-IN. Each laying: the table of numbers ('.._ren') and one theorem, a field a fact of the dump's own or the kernel's comparison; each contract: ONE APPLICATION.
-/
import Derived.Test.YtofopejmidlceaaZGraphBehind11
import Derived.Lib.SlicesCompact
import Derived.RangeFuncBox
import Derived.RangeFuncLeaves
import Derived.Shelf.Abstract
import Derived.WalkKit
import Derived.OwnWalkIn
import Derived.TacticsInMore
import Derived.LoopNIn
import Derived.LoopIn
import Derived.Maps.AppendAt
import Derived.Ground.GgzProg
import Derived.Ground.Names2Prog
import Derived.Ground.SlgmProg
import Derived.Shelf.SlIterI.Nil
import Derived.Shelf.Slices.CompactI
import Derived.Shelf.SortM.Plain
import Derived.Shelf.SortM.SortNone
import Derived.Shelf.Spec.SlicesInsert
import Derived.Shelf.Spec.SlicesInsertGrow
import Derived.Test.YtofopejmidlceaaProg
import Derived.Test.YtofopejmidlceaaZGraphBehind9
/-! Slices of one's own, under contracts of the kit's that speak of rows. -/
namespace Go.AL
open Go.Proofs Go.Maps Go.WideElems Go.Sort
open Go.RowKit (Below)
set_option linter.unusedVariables false
set_option linter.unusedSimpArgs false
variable {P : Program} {σ : ASt} {R : AV → ASt → Prop}
/-- A slice that owns a row is a slice of one's own. -/
theorem own_row {G : Ghost} {w w' : World} {t : TypeId} {s : Nat} {v : Value} {n : Nat} {vals : List Value} {xs : List AV} (hw : SimW G σ w) (hbl : Below w.heap.size w w') (hrow : w'.ownsRow w.heap.size t s v n vals) (hnil : n = 0 → v = .slice none 0 0) (hn : xs.length = n)
    (hs : ∀ (i : Nat) x, xs[i]? = some x → x.cells.length = s) (hx : ∀ (i j : Nat) c, rowCell xs i j = some c → ∃ u, vals[i * s + j]? = some u ∧ c = .p u) :
    ∃ G', Le G w G' w' ∧ SimW G' (σ.addSl xs) w' ∧ Rep G' w' (.hsl σ.next 0 n) v := by
  by_cases h0 : n = 0
  · obtain rfl : xs = [] := List.eq_nil_of_length_eq_zero (by omega)
    rw [hnil h0]
    subst h0
    exact new_nil hw w' hbl none
  obtain ⟨hlen, hrow⟩ := hrow
  rcases hrow with ⟨rfl, h0'⟩ | ⟨g, cap, cur, rfl, hge, hheap, hnc, hcap, hcs, htake⟩
  · exact absurd h0' h0
  · have hl := Le.addSl hw hbl (some (g, 0, s, cap))
    refine ⟨_, hl, hw.addSl _ hbl (fun β q e => by cases e; exact hge) (fun hl => .inr ⟨g, 0, s, cap, cur, t, upd_same _ _ _, hheap, ⟨by omega, by omega⟩, ⟨by omega, by unfold maxLen at hcap; omega⟩, hs, fun i j c u hc hu => ?_⟩), ?_⟩
    · obtain ⟨u', h1, rfl⟩ := hx i j c hc
      obtain ⟨hi, hj, hlt⟩ := rowCell_lt hc hs
      rw [← htake, List.getElem?_take_of_lt (by rw [← hn]; exact hlt), Array.getElem?_toList] at h1
      rw [Nat.zero_add, h1] at hu
      obtain rfl := Option.some.inj hu
      exact .p _
    · have := Rep.hsl (G := G.addSl σ.next (some (g, 0, s, cap))) (w := w') σ.next 0 n g 0 s cap (upd_same _ _ _) (by omega)
      simpa using this
/-! ### in place -/
theorem touch_putRow {α : Type} [Inhabited α] (enc : α → Value) (w : World) (q blk off : Nat) (d : Array α) : Touch w (putRow enc (Sort.ahead w q) blk off d) blk :=
  ⟨rfl, rfl, rfl, by simp [putRow, mapBlock, Sort.ahead], fun k hk => by
    have : blk ≠ k := fun e => hk e.symm
    simp [putRow, mapBlock, Sort.ahead, Array.getElem?_modify, this]⟩
theorem below_grow (w : World) (os : Array Obj) : Below w.heap.size w (Sort.grow w os) :=
  ⟨rfl, rfl, rfl, by simp [Sort.grow], fun k hk => by simp only [Sort.grow]; exact Array.getElem?_append_left hk⟩
theorem rowCell_one {xs : List AV} (h : ∀ x ∈ xs, x.cells = [x]) (i j : Nat) : rowCell xs i j = if j = 0 then xs[i]? else none := by
  unfold rowCell
  cases hx : xs[i]? with
  | none => simp
  | some x =>
    simp only [Option.bind_some]
    rw [h x (List.mem_of_getElem? hx)]
    cases j <;> simp
/-- A whole slice of one's own, of numbers: where it lies. -/
theorem own_holds {G : Ghost} {w : World} {b : Nat} {zs : List Int} {v : Value} (hw : SimW G σ w) (hb : σ.sl b = some (zs.map fun z => .p (.int .i64 z))) (hr : Rep G w (.hsl b 0 zs.length) v) :
    (zs = [] ∧ ∃ a c, v = .slice a 0 c) ∨ ∃ β o cap arr el, v = .slice (some ⟨β, o, none⟩) zs.length cap ∧ zs.length ≤ cap ∧ G.sl b = some (some (β, o, 1, cap)) ∧ w.heap[β]? = some (.cells arr el (0, 0)) ∧ (o + cap ≤ arr.size ∧ cap ≤ 9223372036854775807) ∧ 0 < zs.length ∧ Holds (Value.int .i64) w β o zs.toArray := by
  by_cases h0 : zs = []
  · subst h0
    refine .inl ⟨rfl, ?_⟩
    simp only [List.length_nil] at hr
    generalize hx : (0 : Nat) = l at hr
    cases hr with
    | hsl _ _ _ β o s cap h hle => exact ⟨_, _, by rw [← hx]⟩
    | hend _ _ a β o s cap h hle => exact ⟨_, _, rfl⟩
    | hnil _ a h => exact ⟨_, _, rfl⟩
  have hpos : 0 < zs.length := List.length_pos_iff.2 h0
  refine .inr ?_
  rcases hw.sl b _ hb with ⟨_, hnil⟩ | ⟨β, o, s, cap, arr, el, h1, h2, h3, h4, h5, h6⟩
  · simp at hnil; exact absurd hnil h0
  · obtain ⟨rfl⟩ : s = 1 := by
      have := h5 0 (.p (.int .i64 zs[0])) (by simp [hpos])
      simpa [AV.cells] using this.symm
    have hle : zs.length ≤ cap := by simpa using h3.2
    generalize hl : zs.length = l at hr
    generalize hz : (0 : Nat) = off at hr
    cases hr with
    | hsl _ _ _ β' o' s' cap' h hle' =>
      subst hz
      obtain ⟨rfl, rfl, rfl, rfl⟩ : β = β' ∧ o = o' ∧ 1 = s' ∧ cap = cap' := by rw [h] at h1; simpa using h1.symm
      refine ⟨β, o, cap, arr, el, by simp, by omega, h1, h2, ⟨by omega, by omega⟩, by omega, fun j hj => ?_⟩
      have hj' : j < zs.length := by simpa using hj
      have hlt : o + j < arr.size := by omega
      have := h6 j 0 (.p (.int .i64 zs[j])) arr[o + j] (by
        rw [rowCell_one (by intro x hx; obtain ⟨z, _, rfl⟩ := List.mem_map.1 hx; rfl)]
        simp [hj']) (by simp [hlt])
      refine ⟨?_, by simp [World.frozen?, h2]⟩
      rw [cell_of_heap h2, Array.getElem?_eq_getElem hlt]
      generalize arr[o + j] = u at this
      cases this
      simp [hj']
    | hend _ _ a β' o' s' cap' h hle' => omega
    | hnil _ a h => omega
/-- It is written anew, and blocks are laid. -/
theorem SimW.rowTo {G : Ghost} {w : World} {b β o cap q : Nat} {zs zs' : List Int} {arr : Array Value} {el : TypeId} {os : Array Obj} (hw : SimW G σ w) (hb : σ.sl b = some (zs.map fun z => .p (.int .i64 z))) (g : G.sl b = some (some (β, o, 1, cap))) (hh : w.heap[β]? = some (.cells arr el (0, 0))) (hsz : o + cap ≤ arr.size ∧ cap ≤ 9223372036854775807) (hle : zs.length ≤ cap) (hpos : 0 < zs.length) (hl : zs'.length = zs.length) :
    Le G w G (Sort.grow (putRow (Value.int .i64) (Sort.ahead w q) β o zs'.toArray) os) ∧ SimW G { σ with sl := upd σ.sl b (some (zs'.map fun z => .p (.int .i64 z))) } (Sort.grow (putRow (Value.int .i64) (Sort.ahead w q) β o zs'.toArray) os) := by
  have ht := touch_putRow (Value.int .i64) w q β o zs'.toArray
  have hown : Owns G σ β (2, b) := .sl b β _ _ hb g
  have hh' : (putRow (Value.int .i64) (Sort.ahead w q) β o zs'.toArray).heap[β]? = some (.cells (Sort.putCells (Value.int .i64) o zs'.toArray arr) el (0, 0)) := by
    simp [putRow, mapBlock, Sort.ahead, Array.getElem?_modify, hh, onCells]
  have h1 := hw.touch_sl (cs' := zs'.map fun z => .p (.int .i64 z)) hb g ht fun hl2 => .inr ⟨β, o, 1, cap, _, el, g, hh', ⟨by simp; omega, by simp; omega⟩, ⟨by simp [Sort.putCells]; omega, hsz.2⟩, fun i x hx => by
    rw [List.getElem?_map] at hx
    obtain ⟨z, _, rfl⟩ := Option.map_eq_some_iff.1 hx
    rfl, fun i j c v hc hv => by
    rw [rowCell_one (by intro x hx; obtain ⟨z, _, rfl⟩ := List.mem_map.1 hx; rfl)] at hc
    split at hc
    · rename_i hj
      subst hj
      rw [List.getElem?_map] at hc
      obtain ⟨z, hz, rfl⟩ := Option.map_eq_some_iff.1 hc
      have hi : i < zs'.length := (List.getElem?_eq_some_iff.1 hz).1
      have hlt : o + i < arr.size := by omega
      simp only [Nat.mul_one, Nat.add_zero, Sort.putCells, Array.getElem?_mapIdx] at hv
      rw [Array.getElem?_eq_getElem hlt, Option.map_some, if_pos ⟨by omega, by simp; omega⟩] at hv
      obtain rfl := Option.some.inj hv
      rw [show o + i - o = i by omega]
      have : (zs'.toArray)[i]! = z := by
        rw [getElem!_pos _ _ (by simpa using hi)]
        simpa using (List.getElem?_eq_some_iff.1 hz).2
      rw [this]; exact .p _
    · cases hc⟩
  have hl1 := Le.touch hw hown ht
  have hb2 := below_grow (putRow (Value.int .i64) (Sort.ahead w q) β o zs'.toArray) os
  exact ⟨hl1.trans (Le.grow h1 hb2), h1.grow hb2⟩
/-! ### the library's contracts -/
def SortsI (P : Program) (f : FuncId) : Prop :=
  (∀ (blk off cap : Nat) (zs : List Int) (w : World), Holds (Value.int .i64) w blk off zs.toArray → blk < w.heap.size → zs.length < 4611686018427387904 →
    Calls P f #[.slice (some ⟨blk, off, none⟩) zs.length cap] w fun e w' => e = .returned (.tuple #[]) ∧ ∃ n os, w' = Sort.grow (putRow (Value.int .i64) (Sort.ahead w n) blk off (zs.mergeSort leI).toArray) os) ∧
  ∀ (p : Option Addr) (cap : Nat) (w : World), Calls P f #[.slice p 0 cap] w fun e w' => e = .returned (.tuple #[]) ∧ w' = w
theorem acall_sort {f : FuncId} (hS : SortsI P f) {b : Nat} {zs : List Int} (hb : σ.sl b = some (zs.map fun z => .p (.int .i64 z))) (hl : zs.length ≤ 1000000000) :
    ACall P f [.hsl b 0 zs.length] σ fun r τ => r = .tup [] ∧ τ = { σ with sl := upd σ.sl b (some ((sortI zs).map fun z => .p (.int .i64 z))) } := by
  intro G w vs hv hw
  obtain ⟨hv1, hv2⟩ := hv
  obtain ⟨v0, rfl⟩ : ∃ v0, vs = #[v0] := by
    obtain ⟨l⟩ := vs
    match l, hv1 with
    | [v0], _ => exact ⟨v0, rfl⟩
  have hr := hv2 0 _ v0 rfl rfl
  rcases own_holds hw hb hr with ⟨rfl, a, c, rfl⟩ | ⟨β, o, cap, arr, el, rfl, hle, g, hh, hsz, hpos, hH⟩
  · refine Calls.mono (hS.2 a c w) fun e w' he => ?_
    obtain ⟨rfl, rfl⟩ := he
    refine ⟨_, G, σ, Le.refl _ _, hw, .tup [] #[] rfl (fun i c v h => by cases h), rfl, ?_⟩
    have : upd σ.sl b (some ((sortI []).map fun z => .p (.int .i64 z))) = σ.sl := by
      funext x
      by_cases hx : x = b
      · subst hx; rw [upd_same, hb]; simp [sortI]
      · rw [upd_ne _ _ hx]
    rw [this]
  · have hlt : β < w.heap.size := (Array.getElem?_eq_some_iff.1 hh).1
    refine Calls.mono (hS.1 β o cap zs w hH hlt (by omega)) fun e w' he => ?_
    obtain ⟨rfl, q, os, rfl⟩ := he
    obtain ⟨h1, h2⟩ := hw.rowTo (q := q) (zs' := sortI zs) (os := os) hb g hh hsz hle hpos (by rw [sortI]; exact List.length_mergeSort _)
    exact ⟨_, G, _, h1, h2, .tup [] #[] rfl (fun i c v h => by cases h), rfl, rfl⟩
def CompactsI (P : Program) (f : FuncId) : Prop :=
  (∀ (blk off cap : Nat) (zs : List Int) (w : World), Holds (Value.int .i64) w blk off zs.toArray → zs.length ≤ 9223372036854775807 → zs.length ≤ cap →
    Calls P f #[.slice (some ⟨blk, off, none⟩) zs.length cap] w fun e w' => e = .returned (.slice (some ⟨blk, off, none⟩) (Lib.compact zs).length cap) ∧ ∃ q, w' = putRow (Value.int .i64) (Sort.ahead w q) blk off (Lib.compact zs ++ List.replicate (zs.length - (Lib.compact zs).length) 0).toArray) ∧
  ∀ (a : Option Addr) (cap : Nat) (w : World), Calls P f #[.slice a 0 cap] w fun e w' => e = .returned (.slice a 0 cap) ∧ w' = w
theorem compact_len (zs : List Int) : (Lib.compact zs).length ≤ zs.length := by
  unfold Lib.compact Lib.compactUpTo
  rw [List.length_map]
  exact Nat.le_trans (List.length_filter_le _ _) (by simp)
theorem acall_compact {f : FuncId} (hS : CompactsI P f) {b : Nat} {zs : List Int} (hb : σ.sl b = some (zs.map fun z => .p (.int .i64 z))) (hl : zs.length ≤ 1000000000) :
    ACall P f [.hsl b 0 zs.length] σ fun r τ => r = .vsl ((Lib.compact zs).map fun z => .p (.int .i64 z)) ∧ τ = σ.dropSl b := by
  intro G w vs hv hw
  obtain ⟨hv1, hv2⟩ := hv
  obtain ⟨v0, rfl⟩ : ∃ v0, vs = #[v0] := by
    obtain ⟨l⟩ := vs
    match l, hv1 with
    | [v0], _ => exact ⟨v0, rfl⟩
  have hr := hv2 0 _ v0 rfl rfl
  rcases own_holds hw hb hr with ⟨rfl, a, c, rfl⟩ | ⟨β, o, cap, arr, el, rfl, hle, g, hh, hsz, hpos, hH⟩
  · refine Calls.mono (hS.2 a c w) fun e w' he => ?_
    obtain ⟨rfl, rfl⟩ := he
    exact ⟨_, G, _, Le.refl _ _, hw.less (dropSl_le σ b), .vnil _ _, rfl, rfl⟩
  · refine Calls.mono (hS.1 β o cap zs w hH (by omega) hle) fun e w' he => ?_
    obtain ⟨rfl, q, rfl⟩ := he
    have hcl := compact_len zs
    generalize hM : Lib.compact zs = M at *
    obtain ⟨h1, h2⟩ := hw.rowTo (q := q) (zs' := M ++ List.replicate (zs.length - M.length) 0) (os := #[]) hb g hh hsz hle hpos (by simp; omega)
    simp only [Sort.grow_empty] at h1 h2
    obtain ⟨G', k1, k2, k3⟩ := h2.freeze (b := b) (upd_same _ _ _)
    have hd : ({ σ with sl := upd σ.sl b (some ((M ++ List.replicate (zs.length - M.length) 0).map fun z => .p (.int .i64 z))) } : ASt).dropSl b = σ.dropSl b := by
      unfold ASt.dropSl
      congr 1
      funext x
      by_cases hx : x = b
      · subst hx; simp
      · rw [upd_ne _ _ hx, upd_ne _ _ hx]; exact upd_ne _ _ hx
    rw [hd] at k2
    refine ⟨_, G', _, h1.trans k1, k2, ?_, rfl, rfl⟩
    have hrep : Rep G (putRow (Value.int .i64) (Sort.ahead w q) β o (M ++ List.replicate (zs.length - M.length) 0).toArray) (.hsl b 0 M.length) (.slice (some ⟨β, o, none⟩) M.length cap) := by
      have := Rep.hsl (G := G) (w := putRow (Value.int .i64) (Sort.ahead w q) β o (M ++ List.replicate (zs.length - M.length) 0).toArray) b 0 M.length β o 1 cap g (by omega)
      simpa using this
    have := k3 _ _ hrep
    have e : frz b ((M ++ List.replicate (zs.length - M.length) 0).map fun z => .p (.int .i64 z)) (.hsl b 0 M.length) = .vsl (M.map fun z => .p (.int .i64 z)) := by
      simp [frz, frz1, frz0, List.take_append]
    rw [e] at this
    exact this
end Go.AL
/-! slices.AppendSeq over slices.Values, at numbers: by the machine. -/
namespace Go.Proofs
open Go.RowKit Go.Shelf
attribute [local go_sem] Oper.semAt_some
set_option linter.unusedSimpArgs false
set_option linter.unusedVariables false
def _root_.Go.AL.intV : Value → Int
  | .int _ z => z
  | _ => 0
def AlI.hold (W : World) (b off j : Nat) (z : Int) : Prop := W.cell? ⟨b, off + j, none⟩ = some (.int .i64 z)
theorem AlI.fuptoX (f : Nat → Int) (k : Nat) : (List.range (k + 1)).map f = (List.range k).map f ++ [f k] := by simp [List.range_succ]
set_option maxRecDepth 100000 in
set_option maxHeartbeats 2000000 in
/-- The closure of slices.Values: all, one by one, where each round goes on. -/
theorem AlI.vals_in (F : Fence) (n : Nat) (h7 : F.fn 42) (hro : F.round = none) (hn : 1 ≤ n) (l Bs n₀ b off len cap : Nat) (zs : List Int) (hreach : len * 8 ≤ 140737488351232) (hb : b < n₀) (J Jx : List Int → World → Prop)
    (hY : ∀ pre x W, J pre W → pre.length < len → YieldAt F (n - 1) Try.prog l #[Value.int .i64 x] W fun e W' =>
      (e = .returned (.bool true) ∧ J (pre ++ [x]) W' ∧ Below n₀ W W') ∨ (e = .returned (.bool false) ∧ Jx (pre ++ [x]) W'))
    (W : World) (hBs : W.cell? ⟨Bs, 0, none⟩ = some (.slice (some ⟨b, off, none⟩) len cap)) (hc : ∀ j, j < len → AlI.hold W b off j (zs[j]?.getD 0)) (h0 : J [] W) :
    CallsIn F n Try.prog 42 #[.func (.yield l) #[] #[], .pointer (some ⟨Bs, 0, none⟩)] W fun e W' => (∃ v, e = .returned v) ∧
      ((∃ ys, ys = (List.range len).map (fun j => zs[j]?.getD 0) ∧ J ys W') ∨ (∃ pre, True ∧ Jx pre W')) := by
  refine callsIn_of_wp Try.func42 rfl h7 ?_ hro
  simp only [Try.ntmps42, List.size_toArray, List.length_cons, List.length_nil, Nat.reduceAdd, Nat.reduceSub, Array.replicate_succ, Array.replicate_zero, List.push_toArray, List.append_toArray, List.nil_append, List.cons_append]
  gi_wp2
  gi_loopw [7] (fun i wr => ∃ k : Nat, k ≤ len ∧ i = .int .i64 k ∧ J ((List.range k).map fun j => zs[j]?.getD 0) wr ∧ Below n₀ W wr)
    (fun i _ => len - (Go.AL.intV i).toNat)
  case atStart => exact ⟨0, Nat.zero_le _, rfl, h0, Below.refl _ _⟩
  case round =>
    obtain ⟨k, hk, rfl, hJs, hnx⟩ := hrel
    by_cases hlt : k < len
    · have hcx' := hc k hlt
      have hcx : wr.cell? ⟨b, off + k, none⟩ = some (.int .i64 (zs[k]?.getD 0)) := (hnx.cell (p := ⟨b, off + k, none⟩) hb).trans hcx'
      obtain ⟨fn, tmps, assign, body, hy, hR⟩ := hY _ (zs[k]?.getD 0) wr hJs (by simp; exact hlt)
      gi_wp2
      refine hR.mono ?_
      rintro e W3 (⟨rfl, hJ3, hk3⟩ | ⟨rfl, hJx3⟩)
      · gi_wp2
        refine ⟨?_, ?measure⟩; (repeat apply Exists.intro); refine ⟨?rel, rfl⟩
        case rel => exact ⟨k + 1, by omega, by simp, by rw [AlI.fuptoX]; exact hJ3, hnx.trans hk3⟩
        case measure => simp [Go.AL.intV]; omega
      · gi_wp2
        refine bodyPost_ret (results_none rfl _ _ _) rfl ?_
        exact ⟨⟨_, rfl⟩, .inr ⟨_, trivial, hJx3⟩⟩
    · obtain rfl : k = len := by omega
      gi_wp2
      go_end0
      exact ⟨⟨_, rfl⟩, .inl ⟨_, rfl, hJs⟩⟩
set_option maxRecDepth 100000 in
set_option maxHeartbeats 1000000 in
theorem AlI.vals_nil_in (F : Fence) (n : Nat) (h7 : F.fn 42) (hro : F.round = none) (l Bs : Nat) (a : Option Addr) (cap : Nat) (J : List Int → World → Prop) (W : World) (hBs : W.cell? ⟨Bs, 0, none⟩ = some (.slice a 0 cap)) (h0 : J [] W) :
    CallsIn F n Try.prog 42 #[.func (.yield l) #[] #[], .pointer (some ⟨Bs, 0, none⟩)] W fun e W' => (∃ v, e = .returned v) ∧ J [] W' := by
  refine callsIn_of_wp Try.func42 rfl h7 ?_ hro
  simp only [Try.ntmps42, List.size_toArray, List.length_cons, List.length_nil, Nat.reduceAdd, Nat.reduceSub, Array.replicate_succ, Array.replicate_zero, List.push_toArray, List.append_toArray, List.nil_append, List.cons_append]
  gi_wp2
  gi_loopw [7] (fun i wr => i = .int .i64 0 ∧ J [] wr) (fun _ _ => 0)
  case atStart => exact ⟨rfl, h0⟩
  case round =>
    obtain ⟨rfl, hJs⟩ := hrel
    gi_wp2
    go_end0
    exact ⟨⟨_, rfl⟩, hJs⟩
/-- The slice value sv holds zs, in a block below n₀; or there are none. -/
def AlI.Ins (n₀ : Nat) (W : World) (sv : Value) (zs : List Int) : Prop :=
  (∃ a cap, sv = .slice a 0 cap ∧ zs = []) ∨ ∃ b off cap, sv = .slice (some ⟨b, off, none⟩) zs.length cap ∧ b < n₀ ∧ ∀ j, j < zs.length → AlI.hold W b off j (zs[j]?.getD 0)
theorem AlI.rangeX (zs : List Int) : (List.range zs.length).map (fun j => zs[j]?.getD 0) = zs := by
  apply List.ext_getElem
  · simp
  · intro i h1 h2
    simp [h2]
theorem AlI.vals_stops (F : Fence) (n : Nat) (h7 : F.fn 42) (hro : F.round = none) (hn : 1 ≤ n) (Bs n₀ : Nat) (sv : Value) (zs : List Int) (hreach : zs.length * 8 ≤ 140737488351232) (w : World) (hBs : Bs < w.heap.size) (hn₀ : n₀ ≤ w.heap.size)
    (hc : w.cell? ⟨Bs, 0, none⟩ = some sv) (hI : AlI.Ins n₀ w sv zs) :
    SeqStopsK F n Try.prog 42 #[.pointer (some ⟨Bs, 0, none⟩)] (fun x : Int => #[Value.int .i64 x]) (Below n₀) (fun ys => ys = zs) (fun pre => True) zs.length w := fun l J Jx W hW _ _ hY h0 => by
  have hc' := (hW.cell (p := ⟨Bs, 0, none⟩) hBs).trans hc
  rcases hI with ⟨a, cap, rfl, rfl⟩ | ⟨b, off, cap, rfl, hb, hcs⟩
  · exact (AlI.vals_nil_in F n h7 hro l Bs a cap J W hc' h0).mono fun e W' ⟨he, hj⟩ => ⟨he, .inl ⟨_, rfl, hj⟩⟩
  · refine (AlI.vals_in F n h7 hro hn l Bs n₀ b off zs.length cap zs hreach hb J Jx hY W hc' (fun j hj => by have hcj := hcs j hj; exact ((hW.mono hn₀).cell (p := ⟨b, off + j, none⟩) hb).trans hcj) h0).mono ?_
    rintro e W' ⟨he, ⟨ys, rfl, hj⟩ | ⟨pre, _, hj⟩⟩
    · exact ⟨he, .inl ⟨_, AlI.rangeX zs, hj⟩⟩
    · exact ⟨he, .inr ⟨_, trivial, hj⟩⟩
theorem AlI.infoX : (Try.prog.info? 3).map (fun i => (i.zero, i.size, i.bytes)) = some (some (.int .i64 0), 1, 8) := by kernel_rfl
set_option maxRecDepth 100000 in
set_option maxHeartbeats 4000000 in
/-- slices.AppendSeq(nil, slices.Values(s)): a new slice that owns them; nil just where there is none. -/
theorem AlI.collect_in (F : Fence) (n : Nat) (h3 : F.fn 48) (h5 : F.fn 42) (hro : F.round = none) (hn : 3 ≤ n) (Bs : Nat) (sv : Value) (zs : List Int) (hlen : zs.length ≤ maxLen) (hbytes : zs.length * 8 ≤ 140737488351232) (w : World) (hBs : Bs < w.heap.size) (hc : w.cell? ⟨Bs, 0, none⟩ = some sv) (hI : AlI.Ins w.heap.size w sv zs) :
    CallsIn F n Try.prog 48 #[.slice none 0 0, .func (.func 42) #[] #[.pointer (some ⟨Bs, 0, none⟩)]] w fun e W' => ∃ v, e = .returned v ∧ W'.ownsRow w.heap.size 3 1 v zs.length (List.map (Value.int .i64) zs) ∧ (v = .slice none 0 0 ↔ zs = []) ∧ Below w.heap.size w W' := by
  have h1 : 1 ≤ n := by omega
  obtain ⟨i0, hi, hz0, hz1, hz2⟩ := info_parts AlI.infoX
  refine callsIn_of_wp_marks Try.func48 rfl h3 ?_ hro
  simp only [Try.ntmps48, List.size_toArray, List.length_cons, List.length_nil, Nat.reduceAdd, Nat.reduceSub, Array.replicate_succ, Array.replicate_zero, List.push_toArray, List.append_toArray, List.nil_append, List.cons_append]
  gi_wp2
  have bO := Boxed.new w 23 (.slice none 0 0)
  have hB0 : Below w.heap.size w (w.alloc (.cells #[.slice none 0 0] 23)) := (Below.refl _ w).alloc (Nat.le_refl _) _
  refine wpIn_rangeFunc_ownG hro h1 (gf := 42) (lb := #[.pointer (some ⟨Bs, 0, none⟩)]) rfl h5 (enters_of Try.func42 (by kernel_rfl) rfl)
    (AlI.vals_stops F (n - 1) h5 hro (by omega) Bs w.heap.size sv zs hbytes (w.alloc (.cells #[.slice none 0 0] 23)) (by simp; omega) (by simp) ((hB0.cell (p := ⟨Bs, 0, none⟩) hBs).trans hc) (by
      rcases hI with h | ⟨b, off, cap, e, hb, hcs⟩
      · exact .inl h
      · refine .inr ⟨b, off, cap, e, hb, fun j hj => ?_⟩
        have hcj := hcs j hj
        exact (hB0.cell (p := ⟨b, off + j, none⟩) hb).trans hcj)) belowK_t (belowK_b (by simp)) (Below.refl _ _) (fun _ => rfl)
    (fun pre W => (∃ v, Boxed W w.heap.size 23 v ∧ W.ownsRow w.heap.size 3 1 v pre.length (List.map (Value.int .i64) pre) ∧ (v = .slice none 0 0 ↔ pre = [])) ∧ Below w.heap.size w W)
    (fun _ _ _ => False)
    (OwnFrom.and (Own.from (holdsRow_own w.heap.size w.heap.size 23 3 1 (fun pre => pre.length) (fun pre => List.map (Value.int .i64) pre) (fun pre v => v = .slice none 0 0 ↔ pre = [])) _) (ownFrom_below (Nat.le_refl _) (by simp)))
    (fun _ _ _ _ _ hs _ _ => hs)
    ⟨⟨_, bO, World.ownsRow_nil _ _ _ _, by simp⟩, hB0⟩
    (fun x => { tmps := #[.slice none 0 0, .func (.func 42) #[] #[.pointer (some ⟨Bs, 0, none⟩)], .pointer (some ⟨w.heap.size, 0, none⟩), undef, .slice none 0 0, Value.int .i64 x, .func (.func 42) #[] #[.pointer (some ⟨Bs, 0, none⟩)], Value.int .i64 x, undef, undef, undef, undef, undef], defers := [] }) ?assign ?body ?done ?stop
  case assign =>
    intro l x W K hK
    gi_wp2
    exact hK
  case body =>
    rintro l pre x W ⟨⟨v, hv, hrow, hnil⟩, hB⟩ hlt
    have hc := hv.cell
    gi_wp2_with (gi_at_builtin; refine wpListIn_append_own _ rfl _ _ 23 rfl w.heap.size 3 i0 (.int .i64 0) 1 8 Try.underlying23 hi hz0 hz1 hz2 rfl (by decide) _ _ _ rfl (hrow.alloc _) ⟨W.heap.size, 0, none⟩ 1 1 [.int .i64 x] rfl rfl (cell_one_new _ _ _) (by simp [Value.oneCell']) (by omega) (by omega) (by have := hB.size; simp; omega) ?_; intro v' w1 hown' hgrow _; obtain ⟨g', cap', rfl⟩ := ownsRow_succ hown'; obtain ⟨hv1, hv2, hr2, hk2, hb2⟩ := hv.appended (by decide) hrow hB.size (Nat.le_refl _) hown' hgrow; have hc1 := hv1.cell; have hf1 := hv1.frozen)
    exact ⟨hk2.from _, hb2, ⟨_, hv2, by simpa using hr2, by simp⟩, hB.trans hb2⟩
  case done =>
    rintro D ys W hD rfl ⟨⟨v, hv, hrow, hnil⟩, hB⟩ hK
    have hc := hv.cell
    gi_wp2
    refine ⟨by simp, .inl ⟨_, _, rfl, run_takeDeferred hK, ?_⟩⟩
    exact ⟨_, results_tmp rfl _ _ _, v, rfl, ownsRow_putObj hrow _ hK rfl, hnil, hB.trans (belowK_b (w := w) (Nat.le_refl _) W D _ _ (by simp at hD; omega) hK rfl rfl)⟩
  case stop =>
    rintro D c pre W _ _ h _
    exact h.elim
end Go.Proofs
/-! slices.Sorted over a map's keys, as a slice of one's own; over a map that stays, too. -/
namespace Go.AL
open Go.Proofs Go.Maps Go.WideElems
open Go.WideShapes (sorted_perm)
open Go.RowKit (Below)
set_option linter.unusedVariables false
set_option linter.unusedSimpArgs false
variable {P : Program} {σ : ASt} {R : AV → ASt → Prop} {D : List Deferred} {Q : Exit → List AV → ASt → Prop} {fr : List AV} {ops : Array Oper}
/-- The shelf's contract of slices.Sorted, over the iterator fI with a box that holds a map. -/
def SortsKeysN (P : Program) (fS fI : FuncId) (kt : TypeId) : Prop :=
  ∀ (Bm b nn : Nat) (D0 : DataW Unit) (w : World), Bm < w.heap.size → w.cell? ⟨Bm, 0, none⟩ = some (.map (some b)) → w.ownsMap P kt kRd b nn D0 → Maps.size D0 ≤ maxLen → Maps.size D0 * 8 ≤ 140737488355328 →
    Calls P fS #[.func (.func fI) #[] #[.pointer (some ⟨Bm, 0, none⟩)]] w fun e w' => ∃ (v : Value) (ss : List Int), e = .returned v ∧ ss.Perm (intKeys D0) ∧
      w'.ownsRow w.heap.size kt 1 v ss.length ((ss.mergeSort leI).map encZ) ∧ (v = .slice none 0 0 ↔ ss = []) ∧ Below w.heap.size w w'
theorem owns_keysE {w : World} {μ clock : Nat} {kt : TypeId} {ents : Array MapEntry} (hkt : P.underlying kt = some (.int .i64)) {ns : List Int} (h2 : w.heap[μ]? = some (.map ents clock)) (h3 : ents.size = ns.length) (hnd : ns.Nodup) (hsz : ∀ s ∈ ns, (Lit.int .i64 s).wf = true) (hl : ns.length ≤ maxLen)
    (hkey : ∀ (i : Nat) e, ents[i]? = some e → ∃ s, ns[i]? = some s ∧ e.key = .int .i64 s ∧ e.born < clock) (h5 : ∀ (i j : Nat) (e e' : MapEntry), ents[i]? = some e → ents[j]? = some e' → e.born = e'.born → i = j) :
    ∃ D0, w.ownsMap P kt kRd μ ns.length D0 ∧ (intKeys D0).Perm ns ∧ Maps.size D0 = ns.length := by
  have hmem : ∀ e ∈ ents.toList, ∃ s, s ∈ ns ∧ e.key = .int .i64 s ∧ e.born < clock := fun e he => by
    obtain ⟨i, hi, rfl⟩ := List.getElem_of_mem he
    obtain ⟨s, a, b, c⟩ := hkey i ents.toList[i] (by simp at hi; simp [hi])
    exact ⟨s, List.mem_of_getElem? a, b, c⟩
  have hks : ents.toList.map (·.key) = ns.map (Value.int .i64) := by
    refine List.ext_getElem? fun i => ?_
    simp only [List.getElem?_map, Array.getElem?_toList]
    cases he : ents[i]? with
    | none =>
      have : ns[i]? = none := by
        rw [List.getElem?_eq_none_iff]
        have := Array.getElem?_eq_none_iff.1 he
        omega
      rw [this]; rfl
    | some e =>
      obtain ⟨s, a, b, _⟩ := hkey i e he
      rw [a]; simp [b]
  have hrd : ∀ e ∈ ents.toList, rd P kt kRd e = some (.int .i64 (match e.key with | .int _ s => s | _ => 0), .lit (.bool true)) := fun e he => by
    obtain ⟨s, hs, e1, _⟩ := hmem e he
    have hm := hsz s hs
    simp [rd, keyOf, hkt, mapKey, e1, hm]
  have F : Fit P kt kRd ents clock := ⟨by omega, ⟨fun e he => (hmem e he).choose_spec.2.2, by
      rw [List.Nodup, List.pairwise_map]
      refine List.pairwise_iff_getElem.2 fun i j hi hj hij e => ?_
      have := h5 i j ents.toList[i] ents.toList[j] (by simp at hi; simp [hi]) (by simp at hj; simp [hj]) e
      omega, by
      rw [hks]
      exact List.Pairwise.map _ (fun a b h e => h (Value.int.inj e).2) hnd⟩, fun e he => ⟨_, hrd e he⟩⟩
  refine ⟨_, ⟨ents, clock, h2, F, by omega, rfl⟩, ?_, ?_⟩
  · refine ((sorted_perm _).map _).trans ?_
    rw [List.map_map]
    have : ents.toList.map ((fun p => Go.intOf p.1) ∘ rg P kt kRd) = (ents.toList.map (·.key)).map fun v => match v with | .int _ s => s | _ => 0 := by
      rw [List.map_map]
      refine List.map_congr_left fun e he => ?_
      simp [rg, hrd e he, Go.intOf]
    rw [this, hks, List.map_map]
    have h2 : ns.map ((fun v => match v with | .int _ s => s | _ => 0) ∘ Value.int .i64) = ns := by
      conv => rhs; rw [← List.map_id ns]
      exact List.map_congr_left fun s _ => rfl
    rw [h2]
  · rw [Maps.size_eq, (sorted_perm _).length_eq, List.length_map, Array.length_toList]
    omega
/-- The map that a variable holds: its own, or one that stays. -/
def HoldsKeys (σ : ASt) (ns : List Int) (c : AV) : Prop :=
  (∃ m es, c = .map m ∧ σ.mp m = some es ∧ es.map Prod.fst = ns.map fun s => .p (.int .i64 s)) ∨ ∃ vs, c = .vmp (ns.map fun s => .p (.int .i64 s)) vs
theorem owns_keysH {G : Ghost} {w : World} {kt : TypeId} (hkt : P.underlying kt = some (.int .i64)) {ns : List Int} {c : AV} {v : Value} (hw : SimW G σ w) (hc : HoldsKeys σ ns c) (hr : Rep G w c v) (hnd : ns.Nodup) (hsz : ∀ s ∈ ns, (Lit.int .i64 s).wf = true) (hl : ns.length ≤ maxLen) :
    ∃ μ D0, v = .map (some μ) ∧ w.ownsMap P kt kRd μ ns.length D0 ∧ (intKeys D0).Perm ns ∧ Maps.size D0 = ns.length := by
  rcases hc with ⟨m, es, rfl, hm, hk⟩ | ⟨vs, rfl⟩
  · obtain ⟨μ, rfl, g⟩ : ∃ μ, v = .map (some μ) ∧ G.mp m = some μ := by cases hr; exact ⟨_, rfl, by assumption⟩
    obtain ⟨D0, h1, h2, h3⟩ := owns_keysI (P := P) (kt := kt) hkt hk hnd hsz hl g (hw.mp m es hm)
    exact ⟨μ, D0, rfl, h1, h2, h3⟩
  · generalize hks : ns.map (fun s => (.p (.int .i64 s) : AV)) = ks at hr
    cases hr with
    | vmp _ _ μ clock ents h1 h2 h3 h4 h5 h6 h7 h8 =>
      have hlen : ks.length = ns.length := by rw [← hks, List.length_map]
      obtain ⟨D0, k1, k2, k3⟩ := owns_keysE (P := P) (kt := kt) hkt (ns := ns) h2 (by omega) hnd hsz hl (fun i e he => by
        have hi : i < ns.length := by have := (Array.getElem?_eq_some_iff.1 he).1; omega
        have := h5 i (.p (.int .i64 ns[i])) e (by rw [← hks]; simp [hi]) he
        refine ⟨ns[i], List.getElem?_eq_getElem hi, ?_, h7 i e he⟩
        generalize e.key = q at this
        cases this; rfl) h8
      exact ⟨μ, D0, rfl, k1, k2, k3⟩
theorem acall_sortedN {fS fI : FuncId} {kt : TypeId} (hS : SortsKeysN P fS fI kt) (hkt : P.underlying kt = some (.int .i64)) {k : Nat} {c : AV} {ns : List Int} (hb : σ.bx k = some [c]) (hc : HoldsKeys σ ns c) (hnd : ns.Nodup) (hsz : ∀ s ∈ ns, (Lit.int .i64 s).wf = true) (hl : ns.length ≤ 1000000) :
    ACall P fS [.fn (.func fI) [] [.ptr k 0]] σ fun r τ => r = .hsl σ.next 0 ns.length ∧ τ = σ.addSl ((sortI ns).map fun s => .p (.int .i64 s)) := by
  intro G w vs hv hw
  obtain ⟨hv1, hv2⟩ := hv
  obtain ⟨v0, rfl⟩ : ∃ v0, vs = #[v0] := by
    obtain ⟨l⟩ := vs
    match l, hv1 with
    | [v0], _ => exact ⟨v0, rfl⟩
  have hr := hv2 0 _ v0 rfl rfl
  obtain ⟨β, arr, el, hβ, harr, u, hcell, hlt, hu⟩ : ∃ β arr el, G.bx k = some β ∧ w.heap[β]? = some (.cells arr el (0, 0)) ∧ ∃ u, arr[0]? = some u ∧ β < w.heap.size ∧ Rep G w c u := by
    obtain ⟨β, arr, el, g1, g2, g3, g4⟩ := hw.bx k _ hb
    obtain ⟨v, hv⟩ : ∃ v, arr[0]? = some v := ⟨_, Array.getElem?_eq_getElem (by rw [g3]; simp)⟩
    exact ⟨β, arr, el, g1, g2, v, hv, (Array.getElem?_eq_some_iff.1 g2).1, g4 0 _ v rfl hv⟩
  obtain rfl : v0 = .func (.func fI) #[] #[.pointer (some ⟨β, 0, none⟩)] := by
    cases hr with
    | fn f aa bs us vs h1 h2 h3 h4 =>
      obtain rfl : us = #[] := Array.eq_empty_of_size_eq_zero h1.symm
      obtain ⟨x, rfl⟩ : ∃ x, vs = #[x] := by
        obtain ⟨l⟩ := vs
        match l, h2 with
        | [v0], _ => exact ⟨v0, rfl⟩
      have hx := h4 0 _ x rfl rfl
      cases hx with
      | ptr _ _ β' h =>
        obtain rfl := Option.some.inj (h.symm.trans hβ)
        rfl
  obtain ⟨μ, D0, rfl, hown, hperm, hsize⟩ := owns_keysH (P := P) (kt := kt) hkt hw hc hu hnd hsz (by unfold maxLen; omega)
  refine Calls.mono (hS β μ _ D0 w hlt (by simp [World.cell?, harr, hcell]) hown (by rw [hsize]; unfold maxLen; omega) (by rw [hsize]; omega)) fun e w' he => ?_
  obtain ⟨v, ss, rfl, hp, hrow, hnil, hbl⟩ := he
  have hpp := hp.trans hperm
  have hsort : ss.mergeSort leI = ns.mergeSort leI := mergeSort_of_perm_i hpp
  have hlen : ss.length = ns.length := hpp.length_eq
  rw [hsort, hlen] at hrow
  obtain ⟨G', h1, h2, h3⟩ := own_row (xs := (sortI ns).map fun s => .p (.int .i64 s)) hw hbl hrow (fun h0 => hnil.2 (List.eq_nil_of_length_eq_zero (by omega))) (by rw [List.length_map, sortI, List.length_mergeSort]) (fun i x hx => by
    rw [List.getElem?_map] at hx
    obtain ⟨_, _, rfl⟩ := Option.map_eq_some_iff.1 hx
    rfl) (fun i j c h => by
    rw [rowCell_one (by intro x hx; obtain ⟨z, _, rfl⟩ := List.mem_map.1 hx; rfl)] at h
    split at h
    · rename_i hj
      subst hj
      rw [List.getElem?_map] at h
      obtain ⟨z, hz, rfl⟩ := Option.map_eq_some_iff.1 h
      refine ⟨encZ z, ?_, rfl⟩
      rw [Nat.mul_one, Nat.add_zero, List.getElem?_map, show ns.mergeSort leI = sortI ns from rfl, hz]; rfl
    · cases h)
  exact ⟨_, G', _, h1, h2, h3, rfl, rfl⟩
/-! ### a call that turns memory, in a region that draws -/
theorem zl_acall {mu imp : List Nat} {l : List Oper} {K : List AV → ASt → Prop} {i : Nat} {old : List ASt} {pd : List Pend} {o : Oper} {rest : List Oper} {f : Operand} {aa : Array Operand} {ts : Array TypeId} (hz : zst mu imp o = true) (ho : o.op = .call { callee := .value f, args := aa, argTypes := ts }) (hg : o.guard = none)
    {F : FuncId} {first cap : List AV} (hf : acallee (aev fr f) = some (F, first, cap)) (hc : callable P F = true) {args : List AV} (ha : first ++ aa.toList.map (aev fr) ++ cap = args) {r : AV} {τ : ASt} (h : ACall P F args σ fun r' τ' => r' = r ∧ τ' = τ)
    (hk2 : pendOk P mu imp l (old.length + 1) τ pd ∧ Shut (ZRun P mu imp l K (i + 1) rest (aput fr o.dst r) τ (σ :: old) pd)) : ZS P mu imp l K i (o :: rest) fr σ old pd := by
  intro hok
  unfold ZL; rw [if_pos hz]
  refine ⟨_, _, yldT_opq hg fun ρ hρ => ?_, pendOk_yld hok hk2.1, zl_run hk2.2.out hok⟩
  have h1 : ρ f = aev fr f := hρ f (by rw [ho]; simp [Op.operands, Call.operands])
  have h2 : aa.toList.map ρ = aa.toList.map (aev fr) := List.map_congr_left fun x hx => hρ x (by rw [ho]; simp [Op.operands, Call.operands]; exact .inr (by simpa using hx))
  exact opq_call ho (by rw [h1]; exact hf) hc (by rw [h2, ha]; exact h)
end Go.AL
namespace Go.Proofs
open Go.Shelf
def Try.keysA_ren : Go.Shelf.Ren := ⟨fun | 7 => 26 | 10 => 43 | n => n, fun | 23 => 44 | 26 => 3 | 3 => 23 | 28 => 53 | 0 => 0 | 27 => 52 | 33 => 47 | 4 => 4 | n => n, fun | n => n⟩
theorem Try.keysA : Go.Proofs.SlLaysZI.n7 Try.prog Try.keysA_ren := {
  mixed := by kernel_rfl
  f7 := ⟨Try.f26.name, by decide, Try.func26.trans (congrArg some (by kernel_rfl))⟩
  f10 := ⟨Try.f43.name, by decide, Try.func43.trans (congrArg some (by kernel_rfl))⟩
  t0 := Try.underlying0
  a0 := Try.isAgg0
  z0 := Try.sizeOf0
  v0 := Try.zeroValue0
  t4 := Try.underlying4
  a4 := Try.isAgg4
  z4 := Try.sizeOf4
  v4 := Try.zeroValue4
  t23 := Try.underlying44
  a23 := Try.isAgg44
  z23 := Try.sizeOf44
  v23 := Try.zeroValue44
  t26 := Try.underlying3
  a26 := Try.isAgg3
  z26 := Try.sizeOf3
  v26 := Try.zeroValue3
  t27 := Try.underlying52
  a27 := Try.isAgg52
  z27 := Try.sizeOf52
  v27 := Try.zeroValue52
  t28 := Try.underlying53
  a28 := Try.isAgg53
  z28 := Try.sizeOf53
  v28 := Try.zeroValue53
  t33 := Try.underlying47
  a33 := Try.isAgg47
  z33 := Try.sizeOf47
  v33 := Try.zeroValue47 }
def Try.keys2A_ren : Go.Shelf.Ren := ⟨fun | 7 => 37 | 10 => 47 | n => n, fun | 23 => 61 | 26 => 3 | 3 => 3 | 28 => 53 | 0 => 0 | 27 => 52 | 33 => 47 | 4 => 4 | n => n, fun | n => n⟩
theorem Try.keys2A : Go.Proofs.SlLaysZI.n7 Try.prog Try.keys2A_ren := {
  mixed := by kernel_rfl
  f7 := ⟨Try.f37.name, by decide, Try.func37.trans (congrArg some (by kernel_rfl))⟩
  f10 := ⟨Try.f47.name, by decide, Try.func47.trans (congrArg some (by kernel_rfl))⟩
  t0 := Try.underlying0
  a0 := Try.isAgg0
  z0 := Try.sizeOf0
  v0 := Try.zeroValue0
  t4 := Try.underlying4
  a4 := Try.isAgg4
  z4 := Try.sizeOf4
  v4 := Try.zeroValue4
  t23 := Try.underlying61
  a23 := Try.isAgg61
  z23 := Try.sizeOf61
  v23 := Try.zeroValue61
  t26 := Try.underlying3
  a26 := Try.isAgg3
  z26 := Try.sizeOf3
  v26 := Try.zeroValue3
  t27 := Try.underlying52
  a27 := Try.isAgg52
  z27 := Try.sizeOf52
  v27 := Try.zeroValue52
  t28 := Try.underlying53
  a28 := Try.isAgg53
  z28 := Try.sizeOf53
  v28 := Try.zeroValue53
  t33 := Try.underlying47
  a33 := Try.isAgg47
  z33 := Try.sizeOf47
  v33 := Try.zeroValue47 }
def Try.sortedA_ren : Go.Shelf.Ren := ⟨fun | 6 => 24 | 8 => 40 | 9 => 41 | 11 => 48 | 13 => 50 | 12 => 49 | 23 => 63 | 24 => 64 | 14 => 55 | 15 => 56 | 16 => 57 | 17 => 58 | 18 => 59 | 19 => 60 | 20 => 51 | 21 => 61 | 22 => 62 | 25 => 67 | 26 => 68 | 27 => 69 | 28 => 70 | 29 => 71 | 30 => 65 | 31 => 73 | n => n, fun | 26 => 3 | 28 => 53 | 24 => 23 | 0 => 0 | 3 => 3 | 37 => 74 | 48 => 85 | 50 => 87 | 4 => 4 | 40 => 79 | 39 => 78 | 45 => 68 | 5 => 5 | 9 => 9 | 51 => 88 | 55 => 92 | 57 => 94 | 58 => 95 | 33 => 47 | n => n, fun | n => n⟩
theorem Try.sortedA : Go.Proofs.SlLaysZI.n6 Try.prog Try.sortedA_ren := {
  mixed := by kernel_rfl
  f6 := ⟨Try.f24.name, by decide, Try.func24.trans (congrArg some (by kernel_rfl))⟩
  f8 := ⟨Try.f40.name, by decide, Try.func40.trans (congrArg some (by kernel_rfl))⟩
  f11 := ⟨Try.f48.name, by decide, Try.func48.trans (congrArg some (by kernel_rfl))⟩
  t0 := Try.underlying0
  a0 := Try.isAgg0
  z0 := Try.sizeOf0
  v0 := Try.zeroValue0
  t24 := Try.underlying23
  a24 := Try.isAgg23
  z24 := Try.sizeOf23
  v24 := Try.zeroValue23
  t26 := Try.underlying3
  a26 := Try.isAgg3
  z26 := Try.sizeOf3
  v26 := Try.zeroValue3
  t28 := Try.underlying53
  a28 := Try.isAgg53
  z28 := Try.sizeOf53
  v28 := Try.zeroValue53
  i26 := by kernel_rfl }
def Try.sortA_ren : Go.Shelf.Ren := ⟨fun | 5 => 41 | 8 => 50 | 7 => 49 | 19 => 63 | 20 => 64 | 10 => 55 | 11 => 56 | 12 => 57 | 13 => 58 | 14 => 59 | 15 => 60 | 16 => 51 | 17 => 61 | 18 => 62 | 30 => 67 | 31 => 68 | 32 => 69 | 33 => 70 | 34 => 71 | 35 => 65 | 40 => 73 | n => n, fun | 23 => 23 | 25 => 3 | 3 => 3 | 32 => 74 | 22 => 23 | 0 => 0 | 44 => 85 | 46 => 87 | 4 => 4 | 36 => 79 | 35 => 78 | 41 => 68 | 5 => 5 | 9 => 9 | 53 => 88 | 57 => 92 | 63 => 94 | 64 => 95 | n => n, fun | n => n⟩
theorem Try.sortA : Go.Proofs.SlLaysM.n5 Try.prog Try.sortA_ren := {
  mixed := by kernel_rfl
  f5 := ⟨Try.f41.name, by decide, Try.func41.trans (congrArg some (by kernel_rfl))⟩
  f7 := ⟨Try.f49.name, by decide, Try.func49.trans (congrArg some (by kernel_rfl))⟩
  f8 := Try.func50.trans (congrArg some (by kernel_rfl))
  f10 := ⟨Try.f55.name, by decide, Try.func55.trans (congrArg some (by kernel_rfl))⟩
  f11 := ⟨Try.f56.name, by decide, Try.func56.trans (congrArg some (by kernel_rfl))⟩
  f12 := ⟨Try.f57.name, by decide, Try.func57.trans (congrArg some (by kernel_rfl))⟩
  f13 := ⟨Try.f58.name, by decide, Try.func58.trans (congrArg some (by kernel_rfl))⟩
  f14 := ⟨Try.f59.name, by decide, Try.func59.trans (congrArg some (by kernel_rfl))⟩
  f15 := ⟨Try.f60.name, by decide, Try.func60.trans (congrArg some (by kernel_rfl))⟩
  f16 := ⟨Try.f51.name, by decide, Try.func51.trans (congrArg some (by kernel_rfl))⟩
  f17 := ⟨Try.f61.name, by decide, Try.func61.trans (congrArg some (by kernel_rfl))⟩
  f18 := ⟨Try.f62.name, by decide, Try.func62.trans (congrArg some (by kernel_rfl))⟩
  f19 := Try.func63.trans (congrArg some (by kernel_rfl))
  f20 := Try.func64.trans (congrArg some (by kernel_rfl))
  f30 := ⟨Try.f67.name, by decide, Try.func67.trans (congrArg some (by kernel_rfl))⟩
  f31 := Try.func68.trans (congrArg some (by kernel_rfl))
  f32 := Try.func69.trans (congrArg some (by kernel_rfl))
  f33 := ⟨Try.f70.name, by decide, Try.func70.trans (congrArg some (by kernel_rfl))⟩
  f34 := ⟨Try.f71.name, by decide, Try.func71.trans (congrArg some (by kernel_rfl))⟩
  f35 := ⟨Try.f65.name, by decide, Try.func65.trans (congrArg some (by kernel_rfl))⟩
  f40 := ⟨Try.f73.name, by decide, Try.func73.trans (congrArg some (by kernel_rfl))⟩
  t0 := Try.underlying0
  a0 := Try.isAgg0
  z0 := Try.sizeOf0
  v0 := Try.zeroValue0
  t3 := Try.underlying3
  a3 := Try.isAgg3
  z3 := Try.sizeOf3
  v3 := Try.zeroValue3
  t4 := Try.underlying4
  a4 := Try.isAgg4
  z4 := Try.sizeOf4
  v4 := Try.zeroValue4
  t5 := Try.underlying5
  a5 := Try.isAgg5
  z5 := Try.sizeOf5
  v5 := Try.zeroValue5
  t9 := Try.underlying9
  a9 := Try.isAgg9
  z9 := Try.sizeOf9
  v9 := Try.zeroValue9
  t22 := Try.underlying23
  a22 := Try.isAgg23
  z22 := Try.sizeOf23
  v22 := Try.zeroValue23
  t23 := Try.underlying23
  a23 := Try.isAgg23
  z23 := Try.sizeOf23
  v23 := Try.zeroValue23
  t25 := Try.underlying3
  a25 := Try.isAgg3
  z25 := Try.sizeOf3
  v25 := Try.zeroValue3
  t32 := Try.underlying74
  a32 := Try.isAgg74
  z32 := Try.sizeOf74
  v32 := Try.zeroValue74
  t35 := Try.underlying78
  a35 := Try.isAgg78
  z35 := Try.sizeOf78
  v35 := Try.zeroValue78
  t36 := Try.underlying79
  a36 := Try.isAgg79
  z36 := Try.sizeOf79
  v36 := Try.zeroValue79
  t41 := Try.underlying68
  a41 := Try.isAgg68
  z41 := Try.sizeOf68
  v41 := Try.zeroValue68
  t44 := Try.underlying85
  a44 := Try.isAgg85
  z44 := Try.sizeOf85
  v44 := Try.zeroValue85
  t46 := Try.underlying87
  a46 := Try.isAgg87
  z46 := Try.sizeOf87
  v46 := Try.zeroValue87
  t53 := Try.underlying88
  a53 := Try.isAgg88
  z53 := Try.sizeOf88
  v53 := Try.zeroValue88
  t57 := Try.underlying92
  a57 := Try.isAgg92
  z57 := Try.sizeOf92
  v57 := Try.zeroValue92
  t63 := Try.underlying94
  a63 := Try.isAgg94
  z63 := Try.sizeOf94
  v63 := Try.zeroValue94
  t64 := Try.underlying95
  a64 := Try.isAgg95
  z64 := Try.sizeOf95
  v64 := Try.zeroValue95 }
def Try.compactA_ren : Go.Shelf.Ren := ⟨fun | 20 => 23 | n => n, fun | 22 => 23 | 3 => 3 | 4 => 4 | 0 => 0 | n => n, fun | n => n⟩
theorem Try.compactA : Go.Proofs.Lays2.n20 Try.prog Try.compactA_ren := {
  mixed := by kernel_rfl
  f20 := Try.func23.trans (congrArg some (by kernel_rfl))
  t0 := Try.underlying0
  a0 := Try.isAgg0
  z0 := Try.sizeOf0
  v0 := Try.zeroValue0
  t3 := Try.underlying3
  a3 := Try.isAgg3
  z3 := Try.sizeOf3
  v3 := Try.zeroValue3
  t4 := Try.underlying4
  a4 := Try.isAgg4
  z4 := Try.sizeOf4
  v4 := Try.zeroValue4
  t22 := Try.underlying23
  a22 := Try.isAgg23
  z22 := Try.sizeOf23
  v22 := Try.zeroValue23
  i3 := by kernel_rfl }
def Try.insertA_ren : Go.Shelf.Ren := ⟨fun | 21 => 46 | 27 => 53 | 28 => 54 | 35 => 66 | 39 => 72 | n => n, fun | 22 => 23 | 3 => 3 | 4 => 4 | 0 => 0 | n => n, fun | n => n⟩
theorem Try.insertA : Go.Proofs.Lays2.n21 Try.prog Try.insertA_ren := {
  mixed := by kernel_rfl
  f21 := Try.func46.trans (congrArg some (by kernel_rfl))
  f27 := Try.func53.trans (congrArg some (by kernel_rfl))
  f28 := Try.func54.trans (congrArg some (by kernel_rfl))
  f35 := Try.func66.trans (congrArg some (by kernel_rfl))
  f39 := Try.func72.trans (congrArg some (by kernel_rfl))
  t0 := Try.underlying0
  a0 := Try.isAgg0
  z0 := Try.sizeOf0
  v0 := Try.zeroValue0
  t3 := Try.underlying3
  a3 := Try.isAgg3
  z3 := Try.sizeOf3
  v3 := Try.zeroValue3
  t4 := Try.underlying4
  a4 := Try.isAgg4
  z4 := Try.sizeOf4
  v4 := Try.zeroValue4
  t22 := Try.underlying23
  a22 := Try.isAgg23
  z22 := Try.sizeOf23
  v22 := Try.zeroValue23
  i3 := by kernel_rfl }
end Go.Proofs
/-! Contracts: slices.Sort, Compact, Sorted, Collect of numbers. -/
namespace Go.Proofs
open Go.RowKit Go.Maps Go.Sort Go.Shelf
set_option linter.unusedSimpArgs false
set_option linter.unusedVariables false
theorem isort_ok : Go.AL.SortsI Try.prog 41 :=
  ⟨fun blk off cap zs w hH hblk hsz => AnyM.slices_Sort_int Try.sortA blk off cap zs w hH hblk hsz, fun p cap w => AnyM.slices_Sort_int_none Try.sortA p cap w⟩
theorem icompact_ok : Go.AL.CompactsI Try.prog 23 :=
  ⟨fun blk off cap zs w hH hsz hcap => Any.slices_Compact_int Try.compactA blk off cap zs w hH hsz hcap, fun a cap w => Any.slices_Compact_int_empty Try.compactA a cap w⟩
theorem ikeysA_ok : Go.AL.SortsKeysN Try.prog 24 43 3 := fun Bm b nn D0 w hB hc hown hmax hbytes => by
  refine (callsIn_wide (n := 5)).1 ?_
  have hseq : SeqGives Fence.wide 2 Try.prog 43 #[.pointer (some ⟨Bm, 0, none⟩)] encZ (fun ss => ss.Perm (intKeys D0)) (Maps.size D0) w :=
    AnyZI.keys_gives (ρ := Try.keysA_ren) { Try.keysA with } Fence.wide _ trivial rfl (by omega) Bm b nn D0 w hB hc hown
  have hs : ∀ m, AnyZI.SortsIn Try.prog Try.sortedA_ren Fence.wide m := fun m =>
    ⟨fun blk off cap ss W hH hblk hsz => callsIn_wide.2 (AnyM.slices_Sort_int Try.sortA blk off cap ss W hH hblk hsz), fun p cap W => callsIn_wide.2 (AnyM.slices_Sort_int_none Try.sortA p cap W)⟩
  have cS := AnyZI.sorted_in Try.sortedA Fence.wide 5 trivial trivial trivial trivial rfl (by omega) (hs _) (enters_of Try.func41 (by kernel_rfl) rfl) 43 #[.pointer (some ⟨Bm, 0, none⟩)] trivial (enters_of Try.func43 (by kernel_rfl) rfl) _ _ hmax hbytes _ hseq
  change CallsIn _ _ Try.prog 24 _ _ _ at cS
  exact cS.mono fun e w' ⟨v, ss, h1, h2, h3, h4, h5⟩ => ⟨v, ss, h1, h2, h3, h4, h5⟩
theorem ikeysB_ok : Go.AL.SortsKeysN Try.prog 24 47 3 := fun Bm b nn D0 w hB hc hown hmax hbytes => by
  refine (callsIn_wide (n := 5)).1 ?_
  have hseq : SeqGives Fence.wide 2 Try.prog 47 #[.pointer (some ⟨Bm, 0, none⟩)] encZ (fun ss => ss.Perm (intKeys D0)) (Maps.size D0) w :=
    AnyZI.keys_gives (ρ := Try.keys2A_ren) { Try.keys2A with } Fence.wide _ trivial rfl (by omega) Bm b nn D0 w hB hc hown
  have hs : ∀ m, AnyZI.SortsIn Try.prog Try.sortedA_ren Fence.wide m := fun m =>
    ⟨fun blk off cap ss W hH hblk hsz => callsIn_wide.2 (AnyM.slices_Sort_int Try.sortA blk off cap ss W hH hblk hsz), fun p cap W => callsIn_wide.2 (AnyM.slices_Sort_int_none Try.sortA p cap W)⟩
  have cS := AnyZI.sorted_in Try.sortedA Fence.wide 5 trivial trivial trivial trivial rfl (by omega) (hs _) (enters_of Try.func41 (by kernel_rfl) rfl) 47 #[.pointer (some ⟨Bm, 0, none⟩)] trivial (enters_of Try.func47 (by kernel_rfl) rfl) _ _ hmax hbytes _ hseq
  change CallsIn _ _ Try.prog 24 _ _ _ at cS
  exact cS.mono fun e w' ⟨v, ss, h1, h2, h3, h4, h5⟩ => ⟨v, ss, h1, h2, h3, h4, h5⟩
end Go.Proofs
namespace Go.AL
open Go.Proofs Go.RowKit
variable {σ : ASt}
/-- What a slice's value says of cells. -/
theorem ins_of {G : Ghost} {w : World} {zs : List Int} {v : Value} (hw : SimW G σ w) (hr : Rep G w (.vsl (zs.map vi)) v) : AlI.Ins w.heap.size w v zs := by
  generalize hx : zs.map vi = xs at hr
  cases hr with
  | vnil a cap => exact .inl ⟨a, cap, rfl, by simpa using hx⟩
  | vsl _ β o s cap val hcap hs h hr =>
    by_cases h0 : zs = []
    · subst h0
      obtain rfl : xs = [] := by rw [← hx]; rfl
      exact .inl ⟨_, cap, rfl, rfl⟩
    · have hpos : 0 < zs.length := List.length_pos_iff.2 h0
      obtain rfl : s = 1 := by
        have := hs 0 (vi zs[0]) (by rw [← hx]; simp [hpos])
        simpa [AV.cells] using this.symm
      have cell : ∀ j (hj : j < zs.length), G.st β (o + j) ∧ w.cell? ⟨β, o + j, none⟩ = some (.int .i64 zs[j]) := fun j hj => by
        have hc : rowCell xs j 0 = some (vi zs[j]) := by
          rw [← hx, rowCell_one (by intro x hx; obtain ⟨z, _, rfl⟩ := List.mem_map.1 hx; rfl)]
          simp [hj]
        have h1 := h j 0 _ hc
        have h2 := hr j 0 _ hc
        generalize val j 0 = u at h1 h2
        cases h2
        simpa using h1
      refine .inr ⟨β, o, cap, by rw [← hx, List.length_map], hw.stIn _ _ (cell 0 hpos).1, fun j hj => ?_⟩
      have := (cell j hj).2
      show w.cell? _ = _
      rw [this]
      simp [hj]
theorem iappendseq_ok {k : Nat} {zs : List Int} (hb : σ.bx k = some [.vsl (zs.map vi)]) (hl : zs.length ≤ 1000000) :
    ACall Try.prog 48 [.p (.slice none 0 0), .fn (.func 42) [] [.ptr k 0]] σ fun r τ => r = .hsl σ.next 0 zs.length ∧ τ = σ.addSl (zs.map vi) := by
  intro G w vs hv hw
  obtain ⟨hv1, hv2⟩ := hv
  obtain ⟨v0, v1, rfl⟩ : ∃ v0 v1, vs = #[v0, v1] := by
    obtain ⟨l⟩ := vs
    match l, hv1 with
    | [v0, v1], _ => exact ⟨v0, v1, rfl⟩
  have hr0 := hv2 0 _ v0 rfl rfl
  have hr := hv2 1 _ v1 rfl rfl
  cases hr0
  obtain ⟨β, arr, el, g1, g2, g3, g4⟩ := hw.bx k _ hb
  obtain ⟨u, hu⟩ : ∃ v, arr[0]? = some v := ⟨_, Array.getElem?_eq_getElem (by rw [g3]; simp)⟩
  have hcu := g4 0 _ u rfl hu
  obtain rfl : v1 = .func (.func 42) #[] #[.pointer (some ⟨β, 0, none⟩)] := by
    cases hr with
    | fn f aa bs us vs h1 h2 h3 h4 =>
      obtain rfl : us = #[] := Array.eq_empty_of_size_eq_zero h1.symm
      obtain ⟨x, rfl⟩ : ∃ x, vs = #[x] := by
        obtain ⟨l⟩ := vs
        match l, h2 with
        | [v0], _ => exact ⟨v0, rfl⟩
      have hx := h4 0 _ x rfl rfl
      cases hx with
      | ptr _ _ β' h =>
        obtain rfl := Option.some.inj (h.symm.trans g1)
        rfl
  have hlt : β < w.heap.size := (Array.getElem?_eq_some_iff.1 g2).1
  refine Calls.mono ((callsIn_wide (n := 5)).1 (AlI.collect_in Fence.wide 5 trivial trivial rfl (by omega) β u zs (by unfold maxLen; omega) (by omega) w hlt (by rw [cell_of_heap g2]; exact hu) (ins_of hw hcu))) fun e w' he => ?_
  obtain ⟨v, rfl, hrow, hnil, hbl⟩ := he
  obtain ⟨G', h1, h2, h3⟩ := own_row (xs := zs.map vi) hw hbl hrow (fun h0 => hnil.2 (List.eq_nil_of_length_eq_zero h0)) (by rw [List.length_map]) (fun i x hx => by
    rw [List.getElem?_map] at hx
    obtain ⟨_, _, rfl⟩ := Option.map_eq_some_iff.1 hx
    rfl) (fun i j c h => by
    rw [rowCell_one (by intro x hx; obtain ⟨z, _, rfl⟩ := List.mem_map.1 hx; rfl)] at h
    split at h
    · rename_i hj
      subst hj
      rw [List.getElem?_map] at h
      obtain ⟨z, hz, rfl⟩ := Option.map_eq_some_iff.1 h
      refine ⟨.int .i64 z, ?_, rfl⟩
      rw [Nat.mul_one, Nat.add_zero, List.getElem?_map, hz]; rfl
    · cases h)
  exact ⟨_, G', _, h1, h2, h3, rfl, rfl⟩
theorem addSl_upd (σ : ASt) (xs ys : List AV) : ({ σ.addSl xs with sl := upd (σ.addSl xs).sl σ.next (some ys) } : ASt) = σ.addSl ys := by
  have : upd (σ.addSl xs).sl σ.next (some ys) = (σ.addSl ys).sl := by
    funext x
    by_cases h : x = σ.next
    · subst h; simp [ASt.addSl]
    · simp [ASt.addSl, upd, h]
  show ASt.mk (σ.addSl xs).bx (σ.addSl xs).mp (upd (σ.addSl xs).sl σ.next (some ys)) (σ.addSl xs).next = _
  rw [this]; rfl
set_option maxHeartbeats 8000000 in
set_option maxRecDepth 100000 in
theorem icollect_ok {k : Nat} {zs : List Int} (hb : σ.bx k = some [.vsl (zs.map vi)]) (hl : zs.length ≤ 1000000) :
    ACall Try.prog 40 [.fn (.func 42) [] [.ptr k 0]] σ fun r τ => r = .hsl σ.next 0 zs.length ∧ τ = σ.addSl (zs.map vi) := by
  refine acall_of Try.func40 Try.ntmps40 rfl ?_
  simp only [List.length_cons, List.length_nil, List.cons_append, List.nil_append, List.replicate]
  repeat' first | refine aw_N [] trivial trivial ?_ | refine aw_cond rfl (fun h => ?_) (fun h => ?_)
  refine awl_cons rfl (opq_call rfl rfl rfl ((iappendseq_ok hb hl).mono fun r τ ⟨e1, e2⟩ => ?_))
  subst e1 e2
  refine awl_run' [] ?_
  simp -implicitDefEqProofs
  repeat' first | refine aw_N [] trivial trivial ?_ | refine aw_cond rfl (fun h => ?_) (fun h => ?_)
  exact ⟨rfl, rfl⟩
set_option maxHeartbeats 8000000 in
set_option maxRecDepth 100000 in
theorem isortedV_ok {k : Nat} {zs : List Int} (hb : σ.bx k = some [.vsl (zs.map vi)]) (hl : zs.length ≤ 1000000) :
    ACall Try.prog 24 [.fn (.func 42) [] [.ptr k 0]] σ fun r τ => r = .hsl σ.next 0 zs.length ∧ τ = σ.addSl ((sortI zs).map vi) := by
  refine acall_of Try.func24 Try.ntmps24 rfl ?_
  simp only [List.length_cons, List.length_nil, List.cons_append, List.nil_append, List.replicate]
  repeat' first | refine aw_N [] trivial trivial ?_ | refine aw_cond rfl (fun h => ?_) (fun h => ?_)
  refine awl_cons rfl (opq_call rfl rfl rfl ((icollect_ok hb hl).mono fun r τ ⟨e1, e2⟩ => ?_))
  subst e1 e2
  refine awl_run' [] ?_
  simp -implicitDefEqProofs
  repeat' first | refine aw_N [] trivial trivial ?_ | refine aw_cond rfl (fun h => ?_) (fun h => ?_)
  refine awl_cons rfl (opq_call rfl rfl rfl ((acall_sort isort_ok (σ := σ.addSl (zs.map vi)) (b := σ.next) (zs := zs) (by simp) (by omega)).mono fun r τ ⟨e1, e2⟩ => ?_))
  rw [addSl_upd] at e2
  subst e1 e2
  refine awl_run' [] ?_
  simp -implicitDefEqProofs
  repeat' first | refine aw_N [] trivial trivial ?_ | refine aw_cond rfl (fun h => ?_) (fun h => ?_)
  exact ⟨rfl, rfl⟩
set_option maxHeartbeats 8000000 in
set_option maxRecDepth 100000 in
theorem ivalues_ok (xs : List AV) (σ : ASt) : ACall Try.prog 25 [.vsl xs] σ fun r τ => r = .fn (.func 42) [] [.ptr σ.next 0] ∧ τ = σ.addBx [.vsl xs] := by
  refine acall_of Try.func25 Try.ntmps25 rfl ?_
  simp only [List.length_cons, List.length_nil, List.cons_append, List.nil_append, List.replicate]
  repeat' first | refine aw_N [1] trivial trivial ?_ | refine aw_cond rfl (fun h => ?_) (fun h => ?_)
  exact ⟨rfl, rfl⟩
set_option maxHeartbeats 8000000 in
set_option maxRecDepth 100000 in
theorem ikeysFA_ok (ks xs : List AV) (σ : ASt) : ACall Try.prog 26 [.vmp ks xs] σ fun r τ => r = .fn (.func 43) [] [.ptr σ.next 0] ∧ τ = σ.addBx [.vmp ks xs] := by
  refine acall_of Try.func26 Try.ntmps26 rfl ?_
  simp only [List.length_cons, List.length_nil, List.cons_append, List.nil_append, List.replicate]
  repeat' first | refine aw_N [1] trivial trivial ?_ | refine aw_cond rfl (fun h => ?_) (fun h => ?_)
  exact ⟨rfl, rfl⟩
set_option maxHeartbeats 8000000 in
set_option maxRecDepth 100000 in
theorem ikeysFBm_ok (m : Nat) (σ : ASt) : ACall Try.prog 37 [.map m] σ fun r τ => r = .fn (.func 47) [] [.ptr σ.next 0] ∧ τ = σ.addBx [.map m] := by
  refine acall_of Try.func37 Try.ntmps37 rfl ?_
  simp only [List.length_cons, List.length_nil, List.cons_append, List.nil_append, List.replicate]
  repeat' first | refine aw_N [1] trivial trivial ?_ | refine aw_cond rfl (fun h => ?_) (fun h => ?_)
  exact ⟨rfl, rfl⟩
end Go.AL
