/- Parts of the proof of ArenaStays: the logic, contracts, plain laws. -/
import Derived.Test.YtofopejmidlceaaDoorZArenaStays8
import Derived.ChangeArms
import Derived.WideShapes
import Derived.Deep.Slices
import Derived.Test.YtofopejmidlceaaDoorZArenaStays6
import Derived.Test.YtofopejmidlceaaDoorProg
import Derived.Test.YtofopejmidlceaaDoorZArenaStays7
/-! Arguments of any shape: whole numbers, bools, texts, structs, slices, one in another. -/
namespace Go.AL
open Go.RowKit (Below)
open Go.ChangeShapes Go.WideShapes
set_option linter.unusedVariables false
set_option linter.unusedSimpArgs false
variable {P : Program}
/-- A value is of a type, bs deep bs this. -/
def hasF (P : Program) : Nat → TypeId → AV → Prop
  | 0, _, _ => False
  | n + 1, t, x =>
    match P.underlying t with
    | some (.int k) => ∃ z, x = .p (.int k z) ∧ (Lit.int k z).wf = true
    | some .bool => ∃ b, x = .p (.bool b)
    | some .string => ∃ s : ByteArray, x = .p (.string s) ∧ s.size ≤ maxLen
    | some (.struct fs) => ∃ cs, x = .agg cs ∧ cs.length = P.cellsOf t ∧ ∀ f ∈ fs.toList, ∃ y, hasF P n f.type y ∧ y.cells = (cs.drop f.offset).take (P.cellsOf f.type)
    | some (.slice e) => ∃ xs, x = .vsl xs ∧ xs.length ≤ maxLen ∧ ∀ y ∈ xs, hasF P n e y
    | _ => False
def HasT (P : Program) (t : TypeId) (x : AV) : Prop := ∃ n, hasF P n t x
/-- Are these types of such kinds, all of them, and do fields stand one behind the other? -/
def tile (P : Program) : Nat → List Field → Option Nat
  | o, [] => some o
  | o, f :: fs => if f.offset = o then tile P (o + P.cellsOf f.type) fs else none
def kindsB (P : Program) (S : List TypeId) : Bool :=
  S.all fun t => match P.underlying t with
    | some (.int _) => P.cellsOf t == 1
    | some .bool => P.cellsOf t == 1
    | some .string => P.cellsOf t == 1
    | some (.struct fs) => fs.toList.all (fun f => S.contains f.type) && tile P 0 fs.toList == some (P.cellsOf t)
    | some (.slice e) => S.contains e && decide (0 < P.cellsOf e ∧ P.cellsOf t = 1)
    | _ => false
section
variable {H : Type} {enc : TypeId × Value → H} {W : World}
/-- Cells, and what they are. -/
def CRep (W : World) (x : AV) (cs : List Value) : Prop := x.cells.length = cs.length ∧ ∀ (i : Nat) c v, x.cells[i]? = some c → cs[i]? = some v → Rep (G0 W) W c v
theorem rep_rowsG {β o k len cap : Nat} (cs : Nat → List Value) (F : Nat → AV) (hle : len ≤ cap) (hk : ∀ i, i < len → (F i).cells.length = k) (hl : ∀ i, i < len → (cs i).length = k)
    (hc : ∀ i, i < len → ∀ j v, (cs i)[j]? = some v → W.cell? ⟨β, o + (i * k + j), none⟩ = some v) (hr : ∀ i, i < len → ∀ (j : Nat) c v, (F i).cells[j]? = some c → (cs i)[j]? = some v → Rep (G0 W) W c v) :
    Rep (G0 W) W (.vsl ((List.range len).map F)) (.slice (some ⟨β, o, none⟩) len cap) := by
  have at_ : ∀ (i j : Nat) c, rowCell ((List.range len).map F) i j = some c → i < len ∧ (F i).cells[j]? = some c ∧ ∃ v, (cs i)[j]? = some v := by
    intro i j c h
    unfold rowCell at h
    obtain ⟨x, h1, h2⟩ := Option.bind_eq_some_iff.1 h
    rw [List.getElem?_map] at h1
    obtain ⟨i', h3, rfl⟩ := Option.map_eq_some_iff.1 h1
    obtain ⟨hl', he⟩ := List.getElem?_eq_some_iff.1 h3
    simp at hl' he
    subst he
    refine ⟨hl', h2, ?_⟩
    have hj : j < (cs i).length := by rw [hl i hl', ← hk i hl']; exact (List.getElem?_eq_some_iff.1 h2).1
    exact ⟨_, List.getElem?_eq_getElem hj⟩
  have key := Rep.vsl (G := G0 W) (w := W) ((List.range len).map F) β o k cap (fun i j => (cs i).getD j undef) (by simpa using hle)
    (fun i x hx => by
      rw [List.getElem?_map] at hx
      obtain ⟨i', h3, rfl⟩ := Option.map_eq_some_iff.1 hx
      obtain ⟨hl', he⟩ := List.getElem?_eq_some_iff.1 h3
      simp at hl' he
      subst he
      exact hk i hl')
    (fun i j c h => by
      obtain ⟨hi, _, v, hv⟩ := at_ i j c h
      have := hc i hi j v hv
      rw [Nat.add_assoc]
      exact ⟨cell_lt this, by rw [this, List.getD, hv]; rfl⟩)
    (fun i j c h => by
      obtain ⟨hi, hcc, v, hv⟩ := at_ i j c h
      have e : (cs i).getD j undef = v := by rw [List.getD, hv]; rfl
      rw [e]
      exact hr i hi j c v hcc hv)
  simpa using key
theorem tile_ge {P : Program} : ∀ (fs : List Field) (o n : Nat), tile P o fs = some n → o ≤ n ∧ ∀ f ∈ fs, o ≤ f.offset
  | [], o, n, h => by obtain rfl := Option.some.inj h; exact ⟨Nat.le_refl _, by simp⟩
  | f :: fs, o, n, h => by
    unfold tile at h
    split at h
    · rename_i he
      obtain ⟨h1, h2⟩ := tile_ge fs _ n h
      refine ⟨by omega, fun g hg => ?_⟩
      rcases List.mem_cons.1 hg with rfl | hg
      · omega
      · have := h2 g hg; omega
    · cases h
theorem fields_has {P : Program} {n : Nat} {cs : List Value} (S : List TypeId)
    (ih : ∀ t cs, t ∈ S → cs.length = P.cellsOf t → (∃ y, DataW.trod enc P W 0 (fun _ => true) true n t cs = some y) → ∃ x, hasF P n t x ∧ CRep W x cs) :
    ∀ (fs : List Field) (o : Nat), tile P o fs = some cs.length → (∀ f ∈ fs, f.type ∈ S) → (∀ f ∈ fs, ∃ y, DataW.trod enc P W 0 (fun _ => true) true n f.type ((cs.drop f.offset).take (P.cellsOf f.type)) = some y) →
      ∃ bs : List AV, bs.length = cs.length - o ∧ (∀ (i : Nat) c v, bs[i]? = some c → (cs.drop o)[i]? = some v → Rep (G0 W) W c v) ∧ ∀ f ∈ fs, ∃ y, hasF P n f.type y ∧ y.cells = (bs.drop (f.offset - o)).take (P.cellsOf f.type)
  | [], o, h, _, _ => by
    obtain rfl := Option.some.inj h
    exact ⟨[], by simp, by simp, by simp⟩
  | f :: fs, o, h, hS, ht => by
    unfold tile at h
    split at h
    · rename_i he
      obtain ⟨hle, hge⟩ := tile_ge fs _ _ h
      have hlen : ((cs.drop f.offset).take (P.cellsOf f.type)).length = P.cellsOf f.type := by rw [List.length_take, List.length_drop]; omega
      obtain ⟨x, hx, hxl, hxr⟩ := ih f.type _ (hS f List.mem_cons_self) hlen (ht f List.mem_cons_self)
      obtain ⟨bs, h1, h2, h3⟩ := fields_has S ih fs (o + P.cellsOf f.type) h (fun g hg => hS g (List.mem_cons_of_mem _ hg)) (fun g hg => ht g (List.mem_cons_of_mem _ hg))
      rw [hlen] at hxl
      refine ⟨x.cells ++ bs, by rw [List.length_append, hxl, h1]; omega, fun i c v hc hv => ?_, fun g hg => ?_⟩
      · by_cases hi : i < P.cellsOf f.type
        · rw [List.getElem?_append_left (by omega)] at hc
          refine hxr i c v hc ?_
          rw [List.getElem?_take, if_pos hi, he]; exact hv
        · rw [List.getElem?_append_right (by omega), hxl] at hc
          refine h2 _ c v hc ?_
          rw [List.getElem?_drop] at hv ⊢
          rw [show o + P.cellsOf f.type + (i - P.cellsOf f.type) = o + i by omega]; exact hv
      · rcases List.mem_cons.1 hg with rfl | hg
        · refine ⟨x, hx, ?_⟩
          rw [he, Nat.sub_self, List.drop_zero, List.take_append_of_le_length (by omega), List.take_of_length_le (by omega)]
        · obtain ⟨y, hy, hyc⟩ := h3 g hg
          have := hge g hg
          refine ⟨y, hy, ?_⟩
          rw [hyc, List.drop_append, show x.cells.drop (g.offset - o) = [] from List.drop_eq_nil_of_le (by omega), List.nil_append, hxl]
          congr 2
          omega
    · cases h
theorem trod_has {P : Program} {S : List TypeId} (hS : kindsB P S = true) : ∀ (n : Nat) (t : TypeId) (cs : List Value), t ∈ S → cs.length = P.cellsOf t → (∃ y, DataW.trod enc P W 0 (fun _ => true) true n t cs = some y) → ∃ x, hasF P n t x ∧ CRep W x cs := by
  intro n
  induction n with
  | zero => intro t cs _ _ ⟨y, h⟩; simp [DataW.trod] at h
  | succ n ih =>
    intro t cs ht hl ⟨y, h⟩
    have hk := List.all_eq_true.1 hS t ht
    cases hu : P.underlying t with
    | none => rw [hu] at hk; cases hk
    | some d =>
      rw [hu] at hk
      unfold hasF
      rw [hu]
      cases d with
      | int k =>
        obtain ⟨z, rfl, _, hw⟩ := DataW.trod_int hu h
        exact ⟨_, ⟨z, rfl, hw⟩, rfl, fun i c v hc hv => by
          rcases i with _ | i
          · cases hc; cases hv; exact .p _
          · simp at hv⟩
      | bool =>
        obtain ⟨z, rfl, _⟩ := DataW.trod_bool hu h
        exact ⟨_, ⟨z, rfl⟩, rfl, fun i c v hc hv => by
          rcases i with _ | i
          · cases hc; cases hv; exact .p _
          · simp at hv⟩
      | string =>
        obtain ⟨z, rfl, _, hw⟩ := DataW.trod_string hu h
        exact ⟨_, ⟨z, rfl, hw⟩, rfl, fun i c v hc hv => by
          rcases i with _ | i
          · cases hc; cases hv; exact .p _
          · simp at hv⟩
      | struct fs =>
        simp only [Bool.and_eq_true, beq_iff_eq] at hk
        obtain ⟨xs, m, hm, _, _, hxl, hf⟩ := DataW.trod_struct hu h
        obtain rfl : n = m := by omega
        obtain ⟨bs, h1, h2, h3⟩ := fields_has (enc := enc) S ih fs.toList 0 (by rw [hk.2, hl]) (fun f hf => by simpa using List.all_eq_true.1 hk.1 f hf) (fun f hff => by
          obtain ⟨i, hi, rfl⟩ := List.getElem_of_mem hff
          have hi' : i < fs.size := by simpa using hi
          have := hf i fs[i] (Array.getElem?_eq_getElem hi')
          rw [List.getElem?_eq_getElem (by omega)] at this
          exact ⟨_, by simpa using this⟩)
        simp only [Nat.sub_zero, List.drop_zero] at h1 h2 h3
        exact ⟨.agg bs, ⟨bs, rfl, by omega, h3⟩, h1, h2⟩
      | slice e =>
        simp only [Bool.and_eq_true, decide_eq_true_eq] at hk
        have he : e ∈ S := by simpa using hk.1
        rcases DataW.trod_slice hu h with ⟨rfl, _⟩ | ⟨a, len, cap, elems, rest, n', hn', rfl, _, _, hle, hmx, hlen, hel, _, _⟩
        · exact ⟨_, ⟨[], rfl, by simp, by simp⟩, rfl, fun i c v hc hv => by
            rcases i with _ | i
            · cases hc; cases hv; exact .vnil _ _
            · simp at hv⟩
        · obtain rfl : n = n' := by omega
          obtain ⟨V, hV⟩ := Go.Deep.choose_lt (α := AV × List Value) (n := len) (p := fun i q => hasF P n e q.1 ∧ CRep W q.1 q.2 ∧ q.2.length = P.cellsOf e ∧ ∀ j v, q.2[j]? = some v → W.cell? ((a.add (i * P.cellsOf e)).add j) = some v) (fun i hi => by
            have h0 := hel i hi
            rw [List.getElem?_eq_getElem (by omega)] at h0
            obtain ⟨cs', h1, h2⟩ := Option.bind_eq_some_iff.1 h0
            obtain ⟨_, hl', hc⟩ := World.cells?_some h1
            obtain ⟨x, hx, hr⟩ := ih e cs' he hl' ⟨_, h2⟩
            refine ⟨(x, cs'), hx, hr, hl', fun j v hj => ?_⟩
            have hjk : j < P.cellsOf e := by rw [← hl']; exact (List.getElem?_eq_some_iff.1 hj).1
            have := hc j hjk
            rw [hj] at this
            exact this)
          refine ⟨.vsl ((List.range len).map fun i => (V i).1), ⟨_, rfl, by simp; omega, fun y hy => ?_⟩, rfl, fun i c v hc hv => ?_⟩
          · obtain ⟨i, hi, rfl⟩ := List.mem_map.1 hy
            exact (hV i (List.mem_range.1 hi)).1
          · rcases i with _ | i
            · cases hc; cases hv
              rcases Nat.eq_zero_or_pos len with h0 | hpos
              · subst h0; exact .vnil _ _
              · obtain ⟨β, o, spot⟩ := a
                obtain ⟨_, _, h3, h4⟩ := hV 0 hpos
                obtain rfl : spot = none := by
                  have hj : (V 0).2[0]? = some ((V 0).2[0]'(by omega)) := List.getElem?_eq_getElem (by omega)
                  simpa [Addr.add] using World.cell?_spot (h4 0 _ hj)
                refine rep_rowsG (k := P.cellsOf e) (fun i => (V i).2) (fun i => (V i).1) hle (fun i hi => by rw [(hV i hi).2.1.1, (hV i hi).2.2.1]) (fun i hi => (hV i hi).2.2.1) (fun i hi j v hj => ?_) (fun i hi j c v hc hv => (hV i hi).2.1.2 j c v hc hv)
                have := (hV i hi).2.2.2 j v hj
                rw [Addr.add_lit, Addr.add_lit, Nat.add_assoc] at this
                exact this
            · simp at hv
      | _ => cases hk
/-- An argument, whatever its shape. -/
theorem open_has {P : Program} {S : List TypeId} (hS : kindsB P S = true) {t : TypeId} (ht : t ∈ S) {ps : List MemPlace} {d : DataW H} {v : Value} {b0 : Nat} (hv : Value.okWide P W .any b0 t v) (h : DataW.Trod enc P W 0 (fun _ => true) true t v d ps) : ∃ x, HasT P t x ∧ Rep (G0 W) W x v := by
  obtain ⟨n, h⟩ := h
  have hk := List.all_eq_true.1 hS t ht
  cases hu : P.underlying t with
  | none => rw [hu] at hk; cases hk
  | some q =>
    rw [hu] at hk
    have one : ∀ {x : AV}, v.cells.toList = [v] → (∀ cs, x ≠ .agg cs) → CRep W x v.cells.toList → Rep (G0 W) W x v := by
      intro x h1 h2 h3
      rw [h1] at h3
      have : x.cells = [x] := by cases x <;> first | rfl | exact absurd rfl (h2 _)
      exact h3.2 0 x v (by rw [this]; rfl) rfl
    cases q with
    | int k =>
      obtain ⟨z, rfl⟩ := okWide_int hu hv
      obtain ⟨x, hx, hr⟩ := trod_has hS n t _ ht (by simpa [Value.cells] using (by simpa using hk : P.cellsOf t = 1).symm) ⟨_, h⟩
      refine ⟨x, ⟨n, hx⟩, one rfl ?_ hr⟩
      cases n with
      | zero => exact hx.elim
      | succ n => unfold hasF at hx; rw [hu] at hx; obtain ⟨z, rfl, _⟩ := hx; exact fun cs h => by cases h
    | bool =>
      obtain ⟨z, rfl⟩ := okWide_bool hu hv
      obtain ⟨x, hx, hr⟩ := trod_has hS n t _ ht (by simpa [Value.cells] using (by simpa using hk : P.cellsOf t = 1).symm) ⟨_, h⟩
      refine ⟨x, ⟨n, hx⟩, one rfl ?_ hr⟩
      cases n with
      | zero => exact hx.elim
      | succ n => unfold hasF at hx; rw [hu] at hx; obtain ⟨z, rfl⟩ := hx; exact fun cs h => by cases h
    | string =>
      obtain ⟨z, rfl⟩ := okWide_string hu hv
      obtain ⟨x, hx, hr⟩ := trod_has hS n t _ ht (by simpa [Value.cells] using (by simpa using hk : P.cellsOf t = 1).symm) ⟨_, h⟩
      refine ⟨x, ⟨n, hx⟩, one rfl ?_ hr⟩
      cases n with
      | zero => exact hx.elim
      | succ n => unfold hasF at hx; rw [hu] at hx; obtain ⟨z, rfl, _⟩ := hx; exact fun cs h => by cases h
    | slice e =>
      obtain ⟨a, len, cap, rfl⟩ := okWide_slice hu hv
      have hc1 : P.cellsOf t = 1 := by simp only [Bool.and_eq_true, decide_eq_true_eq] at hk; exact hk.2.2
      obtain ⟨x, hx, hr⟩ := trod_has hS n t _ ht (by simpa [Value.cells] using hc1.symm) ⟨_, h⟩
      refine ⟨x, ⟨n, hx⟩, one rfl ?_ hr⟩
      cases n with
      | zero => exact hx.elim
      | succ n => unfold hasF at hx; rw [hu] at hx; obtain ⟨z, rfl, _⟩ := hx; exact fun cs h => by cases h
    | struct fs =>
      obtain ⟨cs, rfl, hsz⟩ := okWide_struct hu hv
      obtain ⟨x, hx, hr⟩ := trod_has hS n t _ ht (by simpa [Value.cells] using hsz) ⟨_, h⟩
      cases n with
      | zero => exact hx.elim
      | succ n =>
        have hx' := hx
        unfold hasF at hx; rw [hu] at hx
        obtain ⟨bs, rfl, _⟩ := hx
        exact ⟨_, ⟨n + 1, hx'⟩, .agg bs cs (by simpa [Value.cells, AV.cells] using hr.1) fun i c v hc hv => hr.2 i c v hc (by simpa [Value.cells] using hv)⟩
    | _ => cases hk
end
end Go.AL
/-! What the logic wants to know of the types. -/
namespace Go.AL
open Go.Proofs
@[simp] theorem ts2 : tsize Tryd.prog 2 = some (1, false) := by kernel_rfl
@[simp] theorem tk2 : tkind Tryd.prog 2 = 0 := by kernel_rfl
@[simp] theorem ti2 : isIface Tryd.prog 2 = false := by kernel_rfl
@[simp] theorem tl2 : tleaf Tryd.prog 2 = 2 := by kernel_rfl
@[simp] theorem tu2 : Tryd.prog.underlying 2 = some (.int .i64) := by kernel_rfl
@[simp] theorem tstn2 : isString Tryd.prog 2 = false := by kernel_rfl
@[simp] theorem tbyn2 : isBytes Tryd.prog 2 = false := by kernel_rfl
@[simp] theorem tz2 : tzero Tryd.prog 2 = some (.p (.int .i64 0)) := by kernel_rfl
@[simp] theorem ts3 : tsize Tryd.prog 3 = some (1, false) := by kernel_rfl
@[simp] theorem tk3 : tkind Tryd.prog 3 = 0 := by kernel_rfl
@[simp] theorem ti3 : isIface Tryd.prog 3 = false := by kernel_rfl
@[simp] theorem tl3 : tleaf Tryd.prog 3 = 2 := by kernel_rfl
@[simp] theorem tu3 : Tryd.prog.underlying 3 = some (.int .i64) := by kernel_rfl
@[simp] theorem tstn3 : isString Tryd.prog 3 = false := by kernel_rfl
@[simp] theorem tbyn3 : isBytes Tryd.prog 3 = false := by kernel_rfl
@[simp] theorem tz3 : tzero Tryd.prog 3 = some (.p (.int .i64 0)) := by kernel_rfl
@[simp] theorem ts4 : tsize Tryd.prog 4 = some (1, false) := by kernel_rfl
@[simp] theorem tk4 : tkind Tryd.prog 4 = 1 := by kernel_rfl
@[simp] theorem ti4 : isIface Tryd.prog 4 = false := by kernel_rfl
@[simp] theorem tl4 : tleaf Tryd.prog 4 = 1 := by kernel_rfl
@[simp] theorem tu4 : Tryd.prog.underlying 4 = some .bool := by kernel_rfl
@[simp] theorem tstn4 : isString Tryd.prog 4 = false := by kernel_rfl
@[simp] theorem tbyn4 : isBytes Tryd.prog 4 = false := by kernel_rfl
@[simp] theorem tz4 : tzero Tryd.prog 4 = some (.p (.bool false)) := by kernel_rfl
@[simp] theorem ts5 : tsize Tryd.prog 5 = some (1, false) := by kernel_rfl
@[simp] theorem tk5 : tkind Tryd.prog 5 = 0 := by kernel_rfl
@[simp] theorem ti5 : isIface Tryd.prog 5 = false := by kernel_rfl
@[simp] theorem tl5 : tleaf Tryd.prog 5 = 2 := by kernel_rfl
@[simp] theorem tu5 : Tryd.prog.underlying 5 = some (.int .u8) := by kernel_rfl
@[simp] theorem tstn5 : isString Tryd.prog 5 = false := by kernel_rfl
@[simp] theorem tbyn5 : isBytes Tryd.prog 5 = false := by kernel_rfl
@[simp] theorem tz5 : tzero Tryd.prog 5 = some (.p (.int .u8 0)) := by kernel_rfl
@[simp] theorem ts9 : tsize Tryd.prog 9 = some (1, false) := by kernel_rfl
@[simp] theorem tk9 : tkind Tryd.prog 9 = 0 := by kernel_rfl
@[simp] theorem ti9 : isIface Tryd.prog 9 = false := by kernel_rfl
@[simp] theorem tl9 : tleaf Tryd.prog 9 = 3 := by kernel_rfl
@[simp] theorem tstr9 : isString Tryd.prog 9 = true := by kernel_rfl
@[simp] theorem tu9 : Tryd.prog.underlying 9 = some .string := by kernel_rfl
@[simp] theorem tbyn9 : isBytes Tryd.prog 9 = false := by kernel_rfl
@[simp] theorem tz9 : tzero Tryd.prog 9 = some (.p (.string ⟨#[]⟩)) := by kernel_rfl
@[simp] theorem ts12 : tsize Tryd.prog 12 = some (1, false) := by kernel_rfl
@[simp] theorem tk12 : tkind Tryd.prog 12 = 0 := by kernel_rfl
@[simp] theorem ti12 : isIface Tryd.prog 12 = false := by kernel_rfl
@[simp] theorem tl12 : tleaf Tryd.prog 12 = 2 := by kernel_rfl
@[simp] theorem tu12 : Tryd.prog.underlying 12 = some (.int .u64) := by kernel_rfl
@[simp] theorem tstn12 : isString Tryd.prog 12 = false := by kernel_rfl
@[simp] theorem tbyn12 : isBytes Tryd.prog 12 = false := by kernel_rfl
@[simp] theorem tz12 : tzero Tryd.prog 12 = some (.p (.int .u64 0)) := by kernel_rfl
@[simp] theorem ts13 : tsize Tryd.prog 13 = some (2, true) := by kernel_rfl
@[simp] theorem tk13 : tkind Tryd.prog 13 = 0 := by kernel_rfl
@[simp] theorem ti13 : isIface Tryd.prog 13 = false := by kernel_rfl
@[simp] theorem tstn13 : isString Tryd.prog 13 = false := by kernel_rfl
@[simp] theorem tbyn13 : isBytes Tryd.prog 13 = false := by kernel_rfl
@[simp] theorem tf13_0 : tfield Tryd.prog 13 0 = some (0, 1, false) := by kernel_rfl
@[simp] theorem tf13_1 : tfield Tryd.prog 13 1 = some (1, 1, false) := by kernel_rfl
@[simp] theorem tp13 : tplaces Tryd.prog 13 = some [(0, 1), (1, 1)] := by kernel_rfl
@[simp] theorem tz13 : tzero Tryd.prog 13 = some (.agg [.p (.string ⟨#[]⟩), .p (.int .u64 0)]) := by kernel_rfl
@[simp] theorem ts20 : tsize Tryd.prog 20 = some (1, false) := by kernel_rfl
@[simp] theorem tk20 : tkind Tryd.prog 20 = 3 := by kernel_rfl
@[simp] theorem ti20 : isIface Tryd.prog 20 = true := by kernel_rfl
@[simp] theorem tstn20 : isString Tryd.prog 20 = false := by kernel_rfl
@[simp] theorem tbyn20 : isBytes Tryd.prog 20 = false := by kernel_rfl
@[simp] theorem tz20 : tzero Tryd.prog 20 = some (.p (.nilIface)) := by kernel_rfl
@[simp] theorem ts21 : tsize Tryd.prog 21 = some (1, false) := by kernel_rfl
@[simp] theorem tk21 : tkind Tryd.prog 21 = 0 := by kernel_rfl
@[simp] theorem ti21 : isIface Tryd.prog 21 = false := by kernel_rfl
@[simp] theorem tl21 : tleaf Tryd.prog 21 = 2 := by kernel_rfl
@[simp] theorem tu21 : Tryd.prog.underlying 21 = some (.int .i32) := by kernel_rfl
@[simp] theorem tstn21 : isString Tryd.prog 21 = false := by kernel_rfl
@[simp] theorem tbyn21 : isBytes Tryd.prog 21 = false := by kernel_rfl
@[simp] theorem tz21 : tzero Tryd.prog 21 = some (.p (.int .i32 0)) := by kernel_rfl
@[simp] theorem ts22 : tsize Tryd.prog 22 = some (1, false) := by kernel_rfl
@[simp] theorem tk22 : tkind Tryd.prog 22 = 4 := by kernel_rfl
@[simp] theorem ti22 : isIface Tryd.prog 22 = false := by kernel_rfl
@[simp] theorem tby22 : isBytes Tryd.prog 22 = false := by kernel_rfl
@[simp] theorem tstn22 : isString Tryd.prog 22 = false := by kernel_rfl
@[simp] theorem tsl22 : isSlice Tryd.prog 22 = true := by kernel_rfl
@[simp] theorem te22 : telem Tryd.prog 22 = some (3, true, 56) := by kernel_rfl
@[simp] theorem tet22 : telemT Tryd.prog 22 = some 35 := by kernel_rfl
@[simp] theorem tz22 : tzero Tryd.prog 22 = some (.p (.slice none 0 0)) := by kernel_rfl
@[simp] theorem ts25 : tsize Tryd.prog 25 = some (1, false) := by kernel_rfl
@[simp] theorem tk25 : tkind Tryd.prog 25 = 2 := by kernel_rfl
@[simp] theorem ti25 : isIface Tryd.prog 25 = false := by kernel_rfl
@[simp] theorem tstn25 : isString Tryd.prog 25 = false := by kernel_rfl
@[simp] theorem tbyn25 : isBytes Tryd.prog 25 = false := by kernel_rfl
@[simp] theorem tz25 : tzero Tryd.prog 25 = some (.p (.pointer none)) := by kernel_rfl
@[simp] theorem ts26 : tsize Tryd.prog 26 = some (1, false) := by kernel_rfl
@[simp] theorem tk26 : tkind Tryd.prog 26 = 0 := by kernel_rfl
@[simp] theorem ti26 : isIface Tryd.prog 26 = false := by kernel_rfl
@[simp] theorem tl26 : tleaf Tryd.prog 26 = 2 := by kernel_rfl
@[simp] theorem tu26 : Tryd.prog.underlying 26 = some (.int .i64) := by kernel_rfl
@[simp] theorem tstn26 : isString Tryd.prog 26 = false := by kernel_rfl
@[simp] theorem tbyn26 : isBytes Tryd.prog 26 = false := by kernel_rfl
@[simp] theorem tz26 : tzero Tryd.prog 26 = some (.p (.int .i64 0)) := by kernel_rfl
@[simp] theorem ts29 : tsize Tryd.prog 29 = some (1, false) := by kernel_rfl
@[simp] theorem tk29 : tkind Tryd.prog 29 = 2 := by kernel_rfl
@[simp] theorem ti29 : isIface Tryd.prog 29 = false := by kernel_rfl
@[simp] theorem tstn29 : isString Tryd.prog 29 = false := by kernel_rfl
@[simp] theorem tbyn29 : isBytes Tryd.prog 29 = false := by kernel_rfl
@[simp] theorem tz29 : tzero Tryd.prog 29 = some (.p (.pointer none)) := by kernel_rfl
@[simp] theorem ts32 : tsize Tryd.prog 32 = some (1, false) := by kernel_rfl
@[simp] theorem tk32 : tkind Tryd.prog 32 = 4 := by kernel_rfl
@[simp] theorem ti32 : isIface Tryd.prog 32 = false := by kernel_rfl
@[simp] theorem tby32 : isBytes Tryd.prog 32 = false := by kernel_rfl
@[simp] theorem tstn32 : isString Tryd.prog 32 = false := by kernel_rfl
@[simp] theorem tsl32 : isSlice Tryd.prog 32 = true := by kernel_rfl
@[simp] theorem te32 : telem Tryd.prog 32 = some (4, true, 72) := by kernel_rfl
@[simp] theorem tet32 : telemT Tryd.prog 32 = some 40 := by kernel_rfl
@[simp] theorem tz32 : tzero Tryd.prog 32 = some (.p (.slice none 0 0)) := by kernel_rfl
@[simp] theorem ts33 : tsize Tryd.prog 33 = some (1, false) := by kernel_rfl
@[simp] theorem tk33 : tkind Tryd.prog 33 = 4 := by kernel_rfl
@[simp] theorem ti33 : isIface Tryd.prog 33 = false := by kernel_rfl
@[simp] theorem tby33 : isBytes Tryd.prog 33 = false := by kernel_rfl
@[simp] theorem tstn33 : isString Tryd.prog 33 = false := by kernel_rfl
@[simp] theorem tsl33 : isSlice Tryd.prog 33 = true := by kernel_rfl
@[simp] theorem te33 : telem Tryd.prog 33 = some (1, false, 8) := by kernel_rfl
@[simp] theorem tet33 : telemT Tryd.prog 33 = some 3 := by kernel_rfl
@[simp] theorem tz33 : tzero Tryd.prog 33 = some (.p (.slice none 0 0)) := by kernel_rfl
@[simp] theorem ts34 : tsize Tryd.prog 34 = some (3, true) := by kernel_rfl
@[simp] theorem tk34 : tkind Tryd.prog 34 = 0 := by kernel_rfl
@[simp] theorem ti34 : isIface Tryd.prog 34 = false := by kernel_rfl
@[simp] theorem tstn34 : isString Tryd.prog 34 = false := by kernel_rfl
@[simp] theorem tbyn34 : isBytes Tryd.prog 34 = false := by kernel_rfl
@[simp] theorem tf34_0 : tfield Tryd.prog 34 0 = some (0, 1, false) := by kernel_rfl
@[simp] theorem tf34_1 : tfield Tryd.prog 34 1 = some (1, 1, false) := by kernel_rfl
@[simp] theorem tf34_2 : tfield Tryd.prog 34 2 = some (2, 1, false) := by kernel_rfl
@[simp] theorem tp34 : tplaces Tryd.prog 34 = some [(0, 1), (1, 1), (2, 1)] := by kernel_rfl
@[simp] theorem tz34 : tzero Tryd.prog 34 = some (.agg [.p (.int .u8 0), .p (.slice none 0 0), .p (.slice none 0 0)]) := by kernel_rfl
@[simp] theorem ts35 : tsize Tryd.prog 35 = some (3, true) := by kernel_rfl
@[simp] theorem tk35 : tkind Tryd.prog 35 = 0 := by kernel_rfl
@[simp] theorem ti35 : isIface Tryd.prog 35 = false := by kernel_rfl
@[simp] theorem tstn35 : isString Tryd.prog 35 = false := by kernel_rfl
@[simp] theorem tbyn35 : isBytes Tryd.prog 35 = false := by kernel_rfl
@[simp] theorem tf35_0 : tfield Tryd.prog 35 0 = some (0, 1, false) := by kernel_rfl
@[simp] theorem tf35_1 : tfield Tryd.prog 35 1 = some (1, 1, false) := by kernel_rfl
@[simp] theorem tf35_2 : tfield Tryd.prog 35 2 = some (2, 1, false) := by kernel_rfl
@[simp] theorem tp35 : tplaces Tryd.prog 35 = some [(0, 1), (1, 1), (2, 1)] := by kernel_rfl
@[simp] theorem tz35 : tzero Tryd.prog 35 = some (.agg [.p (.int .u8 0), .p (.slice none 0 0), .p (.slice none 0 0)]) := by kernel_rfl
@[simp] theorem ts39 : tsize Tryd.prog 39 = some (4, true) := by kernel_rfl
@[simp] theorem tk39 : tkind Tryd.prog 39 = 0 := by kernel_rfl
@[simp] theorem ti39 : isIface Tryd.prog 39 = false := by kernel_rfl
@[simp] theorem tstn39 : isString Tryd.prog 39 = false := by kernel_rfl
@[simp] theorem tbyn39 : isBytes Tryd.prog 39 = false := by kernel_rfl
@[simp] theorem tf39_0 : tfield Tryd.prog 39 0 = some (0, 1, false) := by kernel_rfl
@[simp] theorem tf39_1 : tfield Tryd.prog 39 1 = some (1, 1, false) := by kernel_rfl
@[simp] theorem tf39_2 : tfield Tryd.prog 39 2 = some (2, 1, false) := by kernel_rfl
@[simp] theorem tf39_3 : tfield Tryd.prog 39 3 = some (3, 1, false) := by kernel_rfl
@[simp] theorem tp39 : tplaces Tryd.prog 39 = some [(0, 1), (1, 1), (2, 1), (3, 1)] := by kernel_rfl
@[simp] theorem tz39 : tzero Tryd.prog 39 = some (.agg [.p (.int .i64 0), .p (.slice none 0 0), .p (.slice none 0 0), .p (.string ⟨#[]⟩)]) := by kernel_rfl
@[simp] theorem ts40 : tsize Tryd.prog 40 = some (4, true) := by kernel_rfl
@[simp] theorem tk40 : tkind Tryd.prog 40 = 0 := by kernel_rfl
@[simp] theorem ti40 : isIface Tryd.prog 40 = false := by kernel_rfl
@[simp] theorem tstn40 : isString Tryd.prog 40 = false := by kernel_rfl
@[simp] theorem tbyn40 : isBytes Tryd.prog 40 = false := by kernel_rfl
@[simp] theorem tf40_0 : tfield Tryd.prog 40 0 = some (0, 1, false) := by kernel_rfl
@[simp] theorem tf40_1 : tfield Tryd.prog 40 1 = some (1, 1, false) := by kernel_rfl
@[simp] theorem tf40_2 : tfield Tryd.prog 40 2 = some (2, 1, false) := by kernel_rfl
@[simp] theorem tf40_3 : tfield Tryd.prog 40 3 = some (3, 1, false) := by kernel_rfl
@[simp] theorem tp40 : tplaces Tryd.prog 40 = some [(0, 1), (1, 1), (2, 1), (3, 1)] := by kernel_rfl
@[simp] theorem tz40 : tzero Tryd.prog 40 = some (.agg [.p (.int .i64 0), .p (.slice none 0 0), .p (.slice none 0 0), .p (.string ⟨#[]⟩)]) := by kernel_rfl
@[simp] theorem ts43 : tsize Tryd.prog 43 = some (4, true) := by kernel_rfl
@[simp] theorem tk43 : tkind Tryd.prog 43 = 0 := by kernel_rfl
@[simp] theorem ti43 : isIface Tryd.prog 43 = false := by kernel_rfl
@[simp] theorem tstn43 : isString Tryd.prog 43 = false := by kernel_rfl
@[simp] theorem tbyn43 : isBytes Tryd.prog 43 = false := by kernel_rfl
@[simp] theorem tf43_0 : tfield Tryd.prog 43 0 = some (0, 1, false) := by kernel_rfl
@[simp] theorem tf43_1 : tfield Tryd.prog 43 1 = some (1, 1, false) := by kernel_rfl
@[simp] theorem tf43_2 : tfield Tryd.prog 43 2 = some (2, 1, false) := by kernel_rfl
@[simp] theorem tf43_3 : tfield Tryd.prog 43 3 = some (3, 1, false) := by kernel_rfl
@[simp] theorem tp43 : tplaces Tryd.prog 43 = some [(0, 1), (1, 1), (2, 1), (3, 1)] := by kernel_rfl
@[simp] theorem tz43 : tzero Tryd.prog 43 = some (.agg [.p (.int .i64 0), .p (.slice none 0 0), .p (.slice none 0 0), .p (.string ⟨#[]⟩)]) := by kernel_rfl
@[simp] theorem ts53 : tsize Tryd.prog 53 = some (1, false) := by kernel_rfl
@[simp] theorem tk53 : tkind Tryd.prog 53 = 4 := by kernel_rfl
@[simp] theorem ti53 : isIface Tryd.prog 53 = false := by kernel_rfl
@[simp] theorem tby53 : isBytes Tryd.prog 53 = true := by kernel_rfl
@[simp] theorem tstn53 : isString Tryd.prog 53 = false := by kernel_rfl
@[simp] theorem tsl53 : isSlice Tryd.prog 53 = true := by kernel_rfl
@[simp] theorem te53 : telem Tryd.prog 53 = some (1, false, 1) := by kernel_rfl
@[simp] theorem tet53 : telemT Tryd.prog 53 = some 5 := by kernel_rfl
@[simp] theorem tz53 : tzero Tryd.prog 53 = some (.p (.slice none 0 0)) := by kernel_rfl
@[simp] theorem ts54 : tsize Tryd.prog 54 = some (1, false) := by kernel_rfl
@[simp] theorem tk54 : tkind Tryd.prog 54 = 4 := by kernel_rfl
@[simp] theorem ti54 : isIface Tryd.prog 54 = false := by kernel_rfl
@[simp] theorem tby54 : isBytes Tryd.prog 54 = false := by kernel_rfl
@[simp] theorem tstn54 : isString Tryd.prog 54 = false := by kernel_rfl
@[simp] theorem tsl54 : isSlice Tryd.prog 54 = true := by kernel_rfl
@[simp] theorem te54 : telem Tryd.prog 54 = some (4, true, 72) := by kernel_rfl
@[simp] theorem tet54 : telemT Tryd.prog 54 = some 43 := by kernel_rfl
@[simp] theorem tz54 : tzero Tryd.prog 54 = some (.p (.slice none 0 0)) := by kernel_rfl
@[simp] theorem ts57 : tsize Tryd.prog 57 = some (1, false) := by kernel_rfl
@[simp] theorem tk57 : tkind Tryd.prog 57 = 5 := by kernel_rfl
@[simp] theorem ti57 : isIface Tryd.prog 57 = false := by kernel_rfl
@[simp] theorem tstn57 : isString Tryd.prog 57 = false := by kernel_rfl
@[simp] theorem tbyn57 : isBytes Tryd.prog 57 = false := by kernel_rfl
@[simp] theorem tmap57 : isMapT Tryd.prog 57 = true := by kernel_rfl
@[simp] theorem tz57 : tzero Tryd.prog 57 = some (.p (.map none)) := by kernel_rfl
@[simp] theorem ts58 : tsize Tryd.prog 58 = some (1, false) := by kernel_rfl
@[simp] theorem tk58 : tkind Tryd.prog 58 = 5 := by kernel_rfl
@[simp] theorem ti58 : isIface Tryd.prog 58 = false := by kernel_rfl
@[simp] theorem tstn58 : isString Tryd.prog 58 = false := by kernel_rfl
@[simp] theorem tbyn58 : isBytes Tryd.prog 58 = false := by kernel_rfl
@[simp] theorem tmap58 : isMapT Tryd.prog 58 = true := by kernel_rfl
@[simp] theorem tz58 : tzero Tryd.prog 58 = some (.p (.map none)) := by kernel_rfl
@[simp] theorem ts59 : tsize Tryd.prog 59 = some (4, true) := by kernel_rfl
@[simp] theorem tk59 : tkind Tryd.prog 59 = 0 := by kernel_rfl
@[simp] theorem ti59 : isIface Tryd.prog 59 = false := by kernel_rfl
@[simp] theorem tstn59 : isString Tryd.prog 59 = false := by kernel_rfl
@[simp] theorem tbyn59 : isBytes Tryd.prog 59 = false := by kernel_rfl
@[simp] theorem tf59_0 : tfield Tryd.prog 59 0 = some (0, 1, false) := by kernel_rfl
@[simp] theorem tf59_1 : tfield Tryd.prog 59 1 = some (1, 1, false) := by kernel_rfl
@[simp] theorem tf59_2 : tfield Tryd.prog 59 2 = some (2, 1, false) := by kernel_rfl
@[simp] theorem tf59_3 : tfield Tryd.prog 59 3 = some (3, 1, false) := by kernel_rfl
@[simp] theorem tp59 : tplaces Tryd.prog 59 = some [(0, 1), (1, 1), (2, 1), (3, 1)] := by kernel_rfl
@[simp] theorem tz59 : tzero Tryd.prog 59 = some (.agg [.p (.int .i64 0), .p (.map none), .p (.map none), .p (.int .i64 0)]) := by kernel_rfl
@[simp] theorem ts60 : tsize Tryd.prog 60 = some (4, true) := by kernel_rfl
@[simp] theorem tk60 : tkind Tryd.prog 60 = 0 := by kernel_rfl
@[simp] theorem ti60 : isIface Tryd.prog 60 = false := by kernel_rfl
@[simp] theorem tstn60 : isString Tryd.prog 60 = false := by kernel_rfl
@[simp] theorem tbyn60 : isBytes Tryd.prog 60 = false := by kernel_rfl
@[simp] theorem tf60_0 : tfield Tryd.prog 60 0 = some (0, 1, false) := by kernel_rfl
@[simp] theorem tf60_1 : tfield Tryd.prog 60 1 = some (1, 1, false) := by kernel_rfl
@[simp] theorem tf60_2 : tfield Tryd.prog 60 2 = some (2, 1, false) := by kernel_rfl
@[simp] theorem tf60_3 : tfield Tryd.prog 60 3 = some (3, 1, false) := by kernel_rfl
@[simp] theorem tp60 : tplaces Tryd.prog 60 = some [(0, 1), (1, 1), (2, 1), (3, 1)] := by kernel_rfl
@[simp] theorem tz60 : tzero Tryd.prog 60 = some (.agg [.p (.int .i64 0), .p (.map none), .p (.map none), .p (.int .i64 0)]) := by kernel_rfl
@[simp] theorem ts61 : tsize Tryd.prog 61 = some (1, false) := by kernel_rfl
@[simp] theorem tk61 : tkind Tryd.prog 61 = 4 := by kernel_rfl
@[simp] theorem ti61 : isIface Tryd.prog 61 = false := by kernel_rfl
@[simp] theorem tby61 : isBytes Tryd.prog 61 = false := by kernel_rfl
@[simp] theorem tstn61 : isString Tryd.prog 61 = false := by kernel_rfl
@[simp] theorem tsl61 : isSlice Tryd.prog 61 = true := by kernel_rfl
@[simp] theorem te61 : telem Tryd.prog 61 = some (1, false, 1) := by kernel_rfl
@[simp] theorem tet61 : telemT Tryd.prog 61 = some 4 := by kernel_rfl
@[simp] theorem tz61 : tzero Tryd.prog 61 = some (.p (.slice none 0 0)) := by kernel_rfl
@[simp] theorem ts62 : tsize Tryd.prog 62 = some (3, true) := by kernel_rfl
@[simp] theorem tk62 : tkind Tryd.prog 62 = 0 := by kernel_rfl
@[simp] theorem ti62 : isIface Tryd.prog 62 = false := by kernel_rfl
@[simp] theorem tstn62 : isString Tryd.prog 62 = false := by kernel_rfl
@[simp] theorem tbyn62 : isBytes Tryd.prog 62 = false := by kernel_rfl
@[simp] theorem tf62_0 : tfield Tryd.prog 62 0 = some (0, 1, false) := by kernel_rfl
@[simp] theorem tf62_1 : tfield Tryd.prog 62 1 = some (1, 1, false) := by kernel_rfl
@[simp] theorem tf62_2 : tfield Tryd.prog 62 2 = some (2, 1, false) := by kernel_rfl
@[simp] theorem tp62 : tplaces Tryd.prog 62 = some [(0, 1), (1, 1), (2, 1)] := by kernel_rfl
@[simp] theorem tz62 : tzero Tryd.prog 62 = some (.agg [.p (.int .i64 0), .p (.slice none 0 0), .p (.slice none 0 0)]) := by kernel_rfl
@[simp] theorem ts63 : tsize Tryd.prog 63 = some (3, true) := by kernel_rfl
@[simp] theorem tk63 : tkind Tryd.prog 63 = 0 := by kernel_rfl
@[simp] theorem ti63 : isIface Tryd.prog 63 = false := by kernel_rfl
@[simp] theorem tstn63 : isString Tryd.prog 63 = false := by kernel_rfl
@[simp] theorem tbyn63 : isBytes Tryd.prog 63 = false := by kernel_rfl
@[simp] theorem tf63_0 : tfield Tryd.prog 63 0 = some (0, 1, false) := by kernel_rfl
@[simp] theorem tf63_1 : tfield Tryd.prog 63 1 = some (1, 1, false) := by kernel_rfl
@[simp] theorem tf63_2 : tfield Tryd.prog 63 2 = some (2, 1, false) := by kernel_rfl
@[simp] theorem tp63 : tplaces Tryd.prog 63 = some [(0, 1), (1, 1), (2, 1)] := by kernel_rfl
@[simp] theorem tz63 : tzero Tryd.prog 63 = some (.agg [.p (.int .i64 0), .p (.slice none 0 0), .p (.slice none 0 0)]) := by kernel_rfl
@[simp] theorem ts74 : tsize Tryd.prog 74 = some (1, false) := by kernel_rfl
@[simp] theorem tk74 : tkind Tryd.prog 74 = 2 := by kernel_rfl
@[simp] theorem ti74 : isIface Tryd.prog 74 = false := by kernel_rfl
@[simp] theorem tstn74 : isString Tryd.prog 74 = false := by kernel_rfl
@[simp] theorem tbyn74 : isBytes Tryd.prog 74 = false := by kernel_rfl
@[simp] theorem tz74 : tzero Tryd.prog 74 = some (.p (.pointer none)) := by kernel_rfl
@[simp] theorem ts75 : tsize Tryd.prog 75 = some (3, true) := by kernel_rfl
@[simp] theorem tk75 : tkind Tryd.prog 75 = 0 := by kernel_rfl
@[simp] theorem ti75 : isIface Tryd.prog 75 = false := by kernel_rfl
@[simp] theorem tstn75 : isString Tryd.prog 75 = false := by kernel_rfl
@[simp] theorem tbyn75 : isBytes Tryd.prog 75 = false := by kernel_rfl
@[simp] theorem tf75_0 : tfield Tryd.prog 75 0 = some (0, 1, false) := by kernel_rfl
@[simp] theorem tf75_1 : tfield Tryd.prog 75 1 = some (1, 1, false) := by kernel_rfl
@[simp] theorem tf75_2 : tfield Tryd.prog 75 2 = some (2, 1, false) := by kernel_rfl
@[simp] theorem tp75 : tplaces Tryd.prog 75 = some [(0, 1), (1, 1), (2, 1)] := by kernel_rfl
@[simp] theorem tz75 : tzero Tryd.prog 75 = some (.agg [.p (.pointer none), .p (.slice none 0 0), .p (.slice none 0 0)]) := by kernel_rfl
@[simp] theorem ts76 : tsize Tryd.prog 76 = some (3, true) := by kernel_rfl
@[simp] theorem tk76 : tkind Tryd.prog 76 = 0 := by kernel_rfl
@[simp] theorem ti76 : isIface Tryd.prog 76 = false := by kernel_rfl
@[simp] theorem tstn76 : isString Tryd.prog 76 = false := by kernel_rfl
@[simp] theorem tbyn76 : isBytes Tryd.prog 76 = false := by kernel_rfl
@[simp] theorem tf76_0 : tfield Tryd.prog 76 0 = some (0, 1, false) := by kernel_rfl
@[simp] theorem tf76_1 : tfield Tryd.prog 76 1 = some (1, 1, false) := by kernel_rfl
@[simp] theorem tf76_2 : tfield Tryd.prog 76 2 = some (2, 1, false) := by kernel_rfl
@[simp] theorem tp76 : tplaces Tryd.prog 76 = some [(0, 1), (1, 1), (2, 1)] := by kernel_rfl
@[simp] theorem tz76 : tzero Tryd.prog 76 = some (.agg [.p (.pointer none), .p (.slice none 0 0), .p (.slice none 0 0)]) := by kernel_rfl
@[simp] theorem ts80 : tsize Tryd.prog 80 = some (1, false) := by kernel_rfl
@[simp] theorem tk80 : tkind Tryd.prog 80 = 5 := by kernel_rfl
@[simp] theorem ti80 : isIface Tryd.prog 80 = false := by kernel_rfl
@[simp] theorem tstn80 : isString Tryd.prog 80 = false := by kernel_rfl
@[simp] theorem tbyn80 : isBytes Tryd.prog 80 = false := by kernel_rfl
@[simp] theorem tmap80 : isMapT Tryd.prog 80 = true := by kernel_rfl
@[simp] theorem tz80 : tzero Tryd.prog 80 = some (.p (.map none)) := by kernel_rfl
@[simp] theorem ts94 : tsize Tryd.prog 94 = some (1, false) := by kernel_rfl
@[simp] theorem tk94 : tkind Tryd.prog 94 = 0 := by kernel_rfl
@[simp] theorem ti94 : isIface Tryd.prog 94 = false := by kernel_rfl
@[simp] theorem tl94 : tleaf Tryd.prog 94 = 2 := by kernel_rfl
@[simp] theorem tu94 : Tryd.prog.underlying 94 = some (.int .u64) := by kernel_rfl
@[simp] theorem tstn94 : isString Tryd.prog 94 = false := by kernel_rfl
@[simp] theorem tbyn94 : isBytes Tryd.prog 94 = false := by kernel_rfl
@[simp] theorem tz94 : tzero Tryd.prog 94 = some (.p (.int .u64 0)) := by kernel_rfl
@[simp] theorem ts95 : tsize Tryd.prog 95 = some (1, false) := by kernel_rfl
@[simp] theorem tk95 : tkind Tryd.prog 95 = 4 := by kernel_rfl
@[simp] theorem ti95 : isIface Tryd.prog 95 = false := by kernel_rfl
@[simp] theorem tby95 : isBytes Tryd.prog 95 = false := by kernel_rfl
@[simp] theorem tstn95 : isString Tryd.prog 95 = false := by kernel_rfl
@[simp] theorem tsl95 : isSlice Tryd.prog 95 = true := by kernel_rfl
@[simp] theorem te95 : telem Tryd.prog 95 = some (1, false, 16) := by kernel_rfl
@[simp] theorem tet95 : telemT Tryd.prog 95 = some 9 := by kernel_rfl
@[simp] theorem tz95 : tzero Tryd.prog 95 = some (.p (.slice none 0 0)) := by kernel_rfl
@[simp] theorem ts96 : tsize Tryd.prog 96 = some (1, false) := by kernel_rfl
@[simp] theorem tk96 : tkind Tryd.prog 96 = 4 := by kernel_rfl
@[simp] theorem ti96 : isIface Tryd.prog 96 = false := by kernel_rfl
@[simp] theorem tby96 : isBytes Tryd.prog 96 = false := by kernel_rfl
@[simp] theorem tstn96 : isString Tryd.prog 96 = false := by kernel_rfl
@[simp] theorem tsl96 : isSlice Tryd.prog 96 = true := by kernel_rfl
@[simp] theorem te96 : telem Tryd.prog 96 = some (1, false, 24) := by kernel_rfl
@[simp] theorem tet96 : telemT Tryd.prog 96 = some 33 := by kernel_rfl
@[simp] theorem tz96 : tzero Tryd.prog 96 = some (.p (.slice none 0 0)) := by kernel_rfl
@[simp] theorem ts101 : tsize Tryd.prog 101 = some (1, false) := by kernel_rfl
@[simp] theorem tk101 : tkind Tryd.prog 101 = 0 := by kernel_rfl
@[simp] theorem ti101 : isIface Tryd.prog 101 = false := by kernel_rfl
@[simp] theorem tl101 : tleaf Tryd.prog 101 = 2 := by kernel_rfl
@[simp] theorem tu101 : Tryd.prog.underlying 101 = some (.int .i64) := by kernel_rfl
@[simp] theorem tstn101 : isString Tryd.prog 101 = false := by kernel_rfl
@[simp] theorem tbyn101 : isBytes Tryd.prog 101 = false := by kernel_rfl
@[simp] theorem tz101 : tzero Tryd.prog 101 = some (.p (.int .i64 0)) := by kernel_rfl
@[simp] theorem ts109 : tsize Tryd.prog 109 = some (1, false) := by kernel_rfl
@[simp] theorem tk109 : tkind Tryd.prog 109 = 0 := by kernel_rfl
@[simp] theorem ti109 : isIface Tryd.prog 109 = false := by kernel_rfl
@[simp] theorem tl109 : tleaf Tryd.prog 109 = 2 := by kernel_rfl
@[simp] theorem tu109 : Tryd.prog.underlying 109 = some (.int .u32) := by kernel_rfl
@[simp] theorem tstn109 : isString Tryd.prog 109 = false := by kernel_rfl
@[simp] theorem tbyn109 : isBytes Tryd.prog 109 = false := by kernel_rfl
@[simp] theorem tz109 : tzero Tryd.prog 109 = some (.p (.int .u32 0)) := by kernel_rfl
@[simp] theorem ts111 : tsize Tryd.prog 111 = some (1, false) := by kernel_rfl
@[simp] theorem tk111 : tkind Tryd.prog 111 = 0 := by kernel_rfl
@[simp] theorem ti111 : isIface Tryd.prog 111 = false := by kernel_rfl
@[simp] theorem tl111 : tleaf Tryd.prog 111 = 2 := by kernel_rfl
@[simp] theorem tu111 : Tryd.prog.underlying 111 = some (.int .u64) := by kernel_rfl
@[simp] theorem tstn111 : isString Tryd.prog 111 = false := by kernel_rfl
@[simp] theorem tbyn111 : isBytes Tryd.prog 111 = false := by kernel_rfl
@[simp] theorem tz111 : tzero Tryd.prog 111 = some (.p (.int .u64 0)) := by kernel_rfl
@[simp] theorem ts115 : tsize Tryd.prog 115 = some (1, false) := by kernel_rfl
@[simp] theorem tk115 : tkind Tryd.prog 115 = 3 := by kernel_rfl
@[simp] theorem ti115 : isIface Tryd.prog 115 = true := by kernel_rfl
@[simp] theorem tstn115 : isString Tryd.prog 115 = false := by kernel_rfl
@[simp] theorem tbyn115 : isBytes Tryd.prog 115 = false := by kernel_rfl
@[simp] theorem tz115 : tzero Tryd.prog 115 = some (.p (.nilIface)) := by kernel_rfl
@[simp] theorem ts116 : tsize Tryd.prog 116 = some (1, false) := by kernel_rfl
@[simp] theorem tk116 : tkind Tryd.prog 116 = 3 := by kernel_rfl
@[simp] theorem ti116 : isIface Tryd.prog 116 = true := by kernel_rfl
@[simp] theorem tstn116 : isString Tryd.prog 116 = false := by kernel_rfl
@[simp] theorem tbyn116 : isBytes Tryd.prog 116 = false := by kernel_rfl
@[simp] theorem tz116 : tzero Tryd.prog 116 = some (.p (.nilIface)) := by kernel_rfl
@[simp] theorem ts119 : tsize Tryd.prog 119 = some (1, false) := by kernel_rfl
@[simp] theorem tk119 : tkind Tryd.prog 119 = 0 := by kernel_rfl
@[simp] theorem ti119 : isIface Tryd.prog 119 = false := by kernel_rfl
@[simp] theorem tl119 : tleaf Tryd.prog 119 = 2 := by kernel_rfl
@[simp] theorem tu119 : Tryd.prog.underlying 119 = some (.int .u64) := by kernel_rfl
@[simp] theorem tstn119 : isString Tryd.prog 119 = false := by kernel_rfl
@[simp] theorem tbyn119 : isBytes Tryd.prog 119 = false := by kernel_rfl
@[simp] theorem tz119 : tzero Tryd.prog 119 = some (.p (.int .u64 0)) := by kernel_rfl
@[simp] theorem ts123 : tsize Tryd.prog 123 = some (1, false) := by kernel_rfl
@[simp] theorem tk123 : tkind Tryd.prog 123 = 2 := by kernel_rfl
@[simp] theorem ti123 : isIface Tryd.prog 123 = false := by kernel_rfl
@[simp] theorem tstn123 : isString Tryd.prog 123 = false := by kernel_rfl
@[simp] theorem tbyn123 : isBytes Tryd.prog 123 = false := by kernel_rfl
@[simp] theorem tz123 : tzero Tryd.prog 123 = some (.p (.pointer none)) := by kernel_rfl
@[simp] theorem ts126 : tsize Tryd.prog 126 = some (1, false) := by kernel_rfl
@[simp] theorem tk126 : tkind Tryd.prog 126 = 2 := by kernel_rfl
@[simp] theorem ti126 : isIface Tryd.prog 126 = false := by kernel_rfl
@[simp] theorem tstn126 : isString Tryd.prog 126 = false := by kernel_rfl
@[simp] theorem tbyn126 : isBytes Tryd.prog 126 = false := by kernel_rfl
@[simp] theorem tz126 : tzero Tryd.prog 126 = some (.p (.pointer none)) := by kernel_rfl
@[simp] theorem ts127 : tsize Tryd.prog 127 = some (1, false) := by kernel_rfl
@[simp] theorem tk127 : tkind Tryd.prog 127 = 2 := by kernel_rfl
@[simp] theorem ti127 : isIface Tryd.prog 127 = false := by kernel_rfl
@[simp] theorem tstn127 : isString Tryd.prog 127 = false := by kernel_rfl
@[simp] theorem tbyn127 : isBytes Tryd.prog 127 = false := by kernel_rfl
@[simp] theorem tz127 : tzero Tryd.prog 127 = some (.p (.pointer none)) := by kernel_rfl
@[simp] theorem ts130 : tsize Tryd.prog 130 = some (24, true) := by kernel_rfl
@[simp] theorem tk130 : tkind Tryd.prog 130 = 0 := by kernel_rfl
@[simp] theorem ti130 : isIface Tryd.prog 130 = false := by kernel_rfl
@[simp] theorem tstn130 : isString Tryd.prog 130 = false := by kernel_rfl
@[simp] theorem tbyn130 : isBytes Tryd.prog 130 = false := by kernel_rfl
@[simp] theorem ta130 : tarr Tryd.prog 130 = some (24, 1, false) := by kernel_rfl
@[simp] theorem tz130 : tzero Tryd.prog 130 = some (.agg [.p (.int .u8 0), .p (.int .u8 0), .p (.int .u8 0), .p (.int .u8 0), .p (.int .u8 0), .p (.int .u8 0), .p (.int .u8 0), .p (.int .u8 0), .p (.int .u8 0), .p (.int .u8 0), .p (.int .u8 0), .p (.int .u8 0), .p (.int .u8 0), .p (.int .u8 0), .p (.int .u8 0), .p (.int .u8 0), .p (.int .u8 0), .p (.int .u8 0), .p (.int .u8 0), .p (.int .u8 0), .p (.int .u8 0), .p (.int .u8 0), .p (.int .u8 0), .p (.int .u8 0)]) := by kernel_rfl
@[simp] theorem ts139 : tsize Tryd.prog 139 = some (20, true) := by kernel_rfl
@[simp] theorem tk139 : tkind Tryd.prog 139 = 0 := by kernel_rfl
@[simp] theorem ti139 : isIface Tryd.prog 139 = false := by kernel_rfl
@[simp] theorem tstn139 : isString Tryd.prog 139 = false := by kernel_rfl
@[simp] theorem tbyn139 : isBytes Tryd.prog 139 = false := by kernel_rfl
@[simp] theorem ta139 : tarr Tryd.prog 139 = some (20, 1, false) := by kernel_rfl
@[simp] theorem tz139 : tzero Tryd.prog 139 = some (.agg [.p (.int .u64 0), .p (.int .u64 0), .p (.int .u64 0), .p (.int .u64 0), .p (.int .u64 0), .p (.int .u64 0), .p (.int .u64 0), .p (.int .u64 0), .p (.int .u64 0), .p (.int .u64 0), .p (.int .u64 0), .p (.int .u64 0), .p (.int .u64 0), .p (.int .u64 0), .p (.int .u64 0), .p (.int .u64 0), .p (.int .u64 0), .p (.int .u64 0), .p (.int .u64 0), .p (.int .u64 0)]) := by kernel_rfl
@[simp] theorem ts140 : tsize Tryd.prog 140 = some (65, true) := by kernel_rfl
@[simp] theorem tk140 : tkind Tryd.prog 140 = 0 := by kernel_rfl
@[simp] theorem ti140 : isIface Tryd.prog 140 = false := by kernel_rfl
@[simp] theorem tstn140 : isString Tryd.prog 140 = false := by kernel_rfl
@[simp] theorem tbyn140 : isBytes Tryd.prog 140 = false := by kernel_rfl
@[simp] theorem ta140 : tarr Tryd.prog 140 = some (65, 1, false) := by kernel_rfl
@[simp] theorem ts141 : tsize Tryd.prog 141 = some (32, true) := by kernel_rfl
@[simp] theorem tk141 : tkind Tryd.prog 141 = 0 := by kernel_rfl
@[simp] theorem ti141 : isIface Tryd.prog 141 = false := by kernel_rfl
@[simp] theorem tstn141 : isString Tryd.prog 141 = false := by kernel_rfl
@[simp] theorem tbyn141 : isBytes Tryd.prog 141 = false := by kernel_rfl
@[simp] theorem ta141 : tarr Tryd.prog 141 = some (32, 1, false) := by kernel_rfl
@[simp] theorem tz141 : tzero Tryd.prog 141 = some (.agg [.p (.int .u8 0), .p (.int .u8 0), .p (.int .u8 0), .p (.int .u8 0), .p (.int .u8 0), .p (.int .u8 0), .p (.int .u8 0), .p (.int .u8 0), .p (.int .u8 0), .p (.int .u8 0), .p (.int .u8 0), .p (.int .u8 0), .p (.int .u8 0), .p (.int .u8 0), .p (.int .u8 0), .p (.int .u8 0), .p (.int .u8 0), .p (.int .u8 0), .p (.int .u8 0), .p (.int .u8 0), .p (.int .u8 0), .p (.int .u8 0), .p (.int .u8 0), .p (.int .u8 0), .p (.int .u8 0), .p (.int .u8 0), .p (.int .u8 0), .p (.int .u8 0), .p (.int .u8 0), .p (.int .u8 0), .p (.int .u8 0), .p (.int .u8 0)]) := by kernel_rfl
@[simp] theorem ts142 : tsize Tryd.prog 142 = some (64, true) := by kernel_rfl
@[simp] theorem tk142 : tkind Tryd.prog 142 = 0 := by kernel_rfl
@[simp] theorem ti142 : isIface Tryd.prog 142 = false := by kernel_rfl
@[simp] theorem tstn142 : isString Tryd.prog 142 = false := by kernel_rfl
@[simp] theorem tbyn142 : isBytes Tryd.prog 142 = false := by kernel_rfl
@[simp] theorem ta142 : tarr Tryd.prog 142 = some (64, 1, false) := by kernel_rfl
attribute [simp] Tryd.results4 Tryd.results5 Tryd.results6 Tryd.results7 Tryd.results10 Tryd.results11 Tryd.results13 Tryd.results14 Tryd.results15 Tryd.results17 Tryd.results18 Tryd.results19 Tryd.results20 Tryd.results21 Tryd.results25 Tryd.results26 Tryd.results27 Tryd.results28 Tryd.results30 Tryd.results31 Tryd.results32 Tryd.results33 Tryd.results34 Tryd.results35 Tryd.results36 Tryd.results39 Tryd.results40 Tryd.results41 Tryd.results42 Tryd.results43 Tryd.results44 Tryd.results45 Tryd.results46 Tryd.results47 Tryd.results50 Tryd.results51 Tryd.results54 Tryd.results56 Tryd.results57 Tryd.results58 Tryd.results59 Tryd.results60 Tryd.results61 Tryd.results62 Tryd.results63 Tryd.results64 Tryd.results71 Tryd.results72 Tryd.results74 Tryd.results75 Tryd.results76 Tryd.results80
end Go.AL
/-! What all contracts use. -/
namespace Go.AL
open Go.Proofs
set_option linter.unusedSimpArgs false
set_option linter.unusedVariables false
attribute [simp] keep frm
theorem draws : Tryd.prog.follows .mixedOrders = true := by kernel_rfl
/-- The number, if so. -/
def z (b : Bool) (n : Int) : Int := if b = true then n else 0
@[simp] theorem z_true (n : Int) : z true n = n := rfl
@[simp] theorem z_false (n : Int) : z false n = 0 := rfl
def In64 (a : Int) : Prop := -9223372036854775808 ≤ a ∧ a ≤ 9223372036854775807
theorem In64.of_wf {a : Int} (h : (Lit.int .i64 a).wf = true) : In64 a := by
  simp only [Lit.wf, IntKind.min, IntKind.max, IntKind.signed, IntKind.bits, Bool.and_eq_true, decide_eq_true_eq, if_true] at h
  unfold In64; omega
end Go.AL
/-! What a value of a type is. -/
namespace Go.AL
open Go.Proofs
set_option linter.unusedVariables false
set_option linter.unusedSimpArgs false
variable {P : Program} {n : Nat} {t : TypeId} {x : AV}
theorem has_int {k : IntKind} (h : hasF P n t x) (hu : P.underlying t = some (.int k)) : ∃ z, x = .p (.int k z) ∧ (Lit.int k z).wf = true := by
  cases n with
  | zero => exact h.elim
  | succ n => unfold hasF at h; rw [hu] at h; exact h
theorem has_str (h : hasF P n t x) (hu : P.underlying t = some .string) : ∃ s : ByteArray, x = .p (.string s) ∧ s.size ≤ 9223372036854775807 := by
  cases n with
  | zero => exact h.elim
  | succ n => unfold hasF at h; rw [hu] at h; exact h
theorem has_struct {fs : Array Field} (h : hasF P n t x) (hu : P.underlying t = some (.struct fs)) : ∃ m cs, n = m + 1 ∧ x = .agg cs ∧ cs.length = P.cellsOf t ∧ ∀ f ∈ fs.toList, ∃ y, hasF P m f.type y ∧ y.cells = (cs.drop f.offset).take (P.cellsOf f.type) := by
  cases n with
  | zero => exact h.elim
  | succ n => unfold hasF at h; rw [hu] at h; obtain ⟨cs, h1, h2, h3⟩ := h; exact ⟨n, cs, rfl, h1, h2, h3⟩
theorem has_slice {e : TypeId} (h : hasF P n t x) (hu : P.underlying t = some (.slice e)) : ∃ m xs, n = m + 1 ∧ x = .vsl xs ∧ xs.length ≤ 9223372036854775807 ∧ ∀ y ∈ xs, hasF P m e y := by
  cases n with
  | zero => exact h.elim
  | succ n => unfold hasF at h; rw [hu] at h; obtain ⟨cs, h1, h2, h3⟩ := h; exact ⟨n, cs, rfl, h1, h2, h3⟩
theorem has_i64 (h : hasF P n t x) (hu : P.underlying t = some (.int .i64)) : ∃ z, x = vi z ∧ In64 z := by
  obtain ⟨z, rfl, hw⟩ := has_int h hu
  exact ⟨z, rfl, .of_wf hw⟩
/-- A list of values that are so. -/
theorem list_of {α : Type} {q : AV → Prop} {f : α → AV} {r : α → Prop} (hf : ∀ y, q y → ∃ a, y = f a ∧ r a) : ∀ xs : List AV, (∀ y ∈ xs, q y) → ∃ l : List α, xs = l.map f ∧ ∀ a ∈ l, r a
  | [], _ => ⟨[], rfl, by simp⟩
  | y :: xs, h => by
    obtain ⟨a, rfl, ha⟩ := hf y (h y List.mem_cons_self)
    obtain ⟨l, rfl, hl⟩ := list_of hf xs fun y hy => h y (List.mem_cons_of_mem _ hy)
    exact ⟨a :: l, rfl, by simpa using ⟨ha, hl⟩⟩
end Go.AL
