/- Parts of the proof of GraphBehind: the logic, contracts, plain laws. -/
import Derived.Test.YtofopejmidlceaaZGraphBehind8
import Derived.ChangeArms
import Derived.WideShapes
import Derived.Deep.Slices
import Derived.Test.YtofopejmidlceaaZGraphBehind5
import Derived.Test.YtofopejmidlceaaProg
import Derived.Test.YtofopejmidlceaaZGraphBehind7
/-! Arguments of any shape: whole numbers, bools, texts, structs, slices, one in another. -/
namespace Go.AL
open Go.RowKit (Below)
open Go.ChangeShapes Go.WideShapes
set_option linter.unusedVariables false
set_option linter.unusedSimpArgs false
variable {P : Program}
/-- A value is of a type, bs deep bs this. -/
def hasF (P : Program) : Nat → TypeId → AV → Prop
  | 0, _, _ => False
  | n + 1, t, x =>
    match P.underlying t with
    | some (.int k) => ∃ z, x = .p (.int k z) ∧ (Lit.int k z).wf = true
    | some .bool => ∃ b, x = .p (.bool b)
    | some .string => ∃ s : ByteArray, x = .p (.string s) ∧ s.size ≤ maxLen
    | some (.struct fs) => ∃ cs, x = .agg cs ∧ cs.length = P.cellsOf t ∧ ∀ f ∈ fs.toList, ∃ y, hasF P n f.type y ∧ y.cells = (cs.drop f.offset).take (P.cellsOf f.type)
    | some (.slice e) => ∃ xs, x = .vsl xs ∧ xs.length ≤ maxLen ∧ ∀ y ∈ xs, hasF P n e y
    | _ => False
def HasT (P : Program) (t : TypeId) (x : AV) : Prop := ∃ n, hasF P n t x
/-- Are these types of such kinds, all of them, and do fields stand one behind the other? -/
def tile (P : Program) : Nat → List Field → Option Nat
  | o, [] => some o
  | o, f :: fs => if f.offset = o then tile P (o + P.cellsOf f.type) fs else none
def kindsB (P : Program) (S : List TypeId) : Bool :=
  S.all fun t => match P.underlying t with
    | some (.int _) => P.cellsOf t == 1
    | some .bool => P.cellsOf t == 1
    | some .string => P.cellsOf t == 1
    | some (.struct fs) => fs.toList.all (fun f => S.contains f.type) && tile P 0 fs.toList == some (P.cellsOf t)
    | some (.slice e) => S.contains e && decide (0 < P.cellsOf e ∧ P.cellsOf t = 1)
    | _ => false
section
variable {H : Type} {enc : TypeId × Value → H} {W : World}
/-- Cells, and what they are. -/
def CRep (W : World) (x : AV) (cs : List Value) : Prop := x.cells.length = cs.length ∧ ∀ (i : Nat) c v, x.cells[i]? = some c → cs[i]? = some v → Rep (G0 W) W c v
theorem rep_rowsG {β o k len cap : Nat} (cs : Nat → List Value) (F : Nat → AV) (hle : len ≤ cap) (hk : ∀ i, i < len → (F i).cells.length = k) (hl : ∀ i, i < len → (cs i).length = k)
    (hc : ∀ i, i < len → ∀ j v, (cs i)[j]? = some v → W.cell? ⟨β, o + (i * k + j), none⟩ = some v) (hr : ∀ i, i < len → ∀ (j : Nat) c v, (F i).cells[j]? = some c → (cs i)[j]? = some v → Rep (G0 W) W c v) :
    Rep (G0 W) W (.vsl ((List.range len).map F)) (.slice (some ⟨β, o, none⟩) len cap) := by
  have at_ : ∀ (i j : Nat) c, rowCell ((List.range len).map F) i j = some c → i < len ∧ (F i).cells[j]? = some c ∧ ∃ v, (cs i)[j]? = some v := by
    intro i j c h
    unfold rowCell at h
    obtain ⟨x, h1, h2⟩ := Option.bind_eq_some_iff.1 h
    rw [List.getElem?_map] at h1
    obtain ⟨i', h3, rfl⟩ := Option.map_eq_some_iff.1 h1
    obtain ⟨hl', he⟩ := List.getElem?_eq_some_iff.1 h3
    simp at hl' he
    subst he
    refine ⟨hl', h2, ?_⟩
    have hj : j < (cs i).length := by rw [hl i hl', ← hk i hl']; exact (List.getElem?_eq_some_iff.1 h2).1
    exact ⟨_, List.getElem?_eq_getElem hj⟩
  have key := Rep.vsl (G := G0 W) (w := W) ((List.range len).map F) β o k cap (fun i j => (cs i).getD j undef) (by simpa using hle)
    (fun i x hx => by
      rw [List.getElem?_map] at hx
      obtain ⟨i', h3, rfl⟩ := Option.map_eq_some_iff.1 hx
      obtain ⟨hl', he⟩ := List.getElem?_eq_some_iff.1 h3
      simp at hl' he
      subst he
      exact hk i hl')
    (fun i j c h => by
      obtain ⟨hi, _, v, hv⟩ := at_ i j c h
      have := hc i hi j v hv
      rw [Nat.add_assoc]
      exact ⟨cell_lt this, by rw [this, List.getD, hv]; rfl⟩)
    (fun i j c h => by
      obtain ⟨hi, hcc, v, hv⟩ := at_ i j c h
      have e : (cs i).getD j undef = v := by rw [List.getD, hv]; rfl
      rw [e]
      exact hr i hi j c v hcc hv)
  simpa using key
theorem tile_ge {P : Program} : ∀ (fs : List Field) (o n : Nat), tile P o fs = some n → o ≤ n ∧ ∀ f ∈ fs, o ≤ f.offset
  | [], o, n, h => by obtain rfl := Option.some.inj h; exact ⟨Nat.le_refl _, by simp⟩
  | f :: fs, o, n, h => by
    unfold tile at h
    split at h
    · rename_i he
      obtain ⟨h1, h2⟩ := tile_ge fs _ n h
      refine ⟨by omega, fun g hg => ?_⟩
      rcases List.mem_cons.1 hg with rfl | hg
      · omega
      · have := h2 g hg; omega
    · cases h
theorem fields_has {P : Program} {n : Nat} {cs : List Value} (S : List TypeId)
    (ih : ∀ t cs, t ∈ S → cs.length = P.cellsOf t → (∃ y, DataW.trod enc P W 0 (fun _ => true) true n t cs = some y) → ∃ x, hasF P n t x ∧ CRep W x cs) :
    ∀ (fs : List Field) (o : Nat), tile P o fs = some cs.length → (∀ f ∈ fs, f.type ∈ S) → (∀ f ∈ fs, ∃ y, DataW.trod enc P W 0 (fun _ => true) true n f.type ((cs.drop f.offset).take (P.cellsOf f.type)) = some y) →
      ∃ bs : List AV, bs.length = cs.length - o ∧ (∀ (i : Nat) c v, bs[i]? = some c → (cs.drop o)[i]? = some v → Rep (G0 W) W c v) ∧ ∀ f ∈ fs, ∃ y, hasF P n f.type y ∧ y.cells = (bs.drop (f.offset - o)).take (P.cellsOf f.type)
  | [], o, h, _, _ => by
    obtain rfl := Option.some.inj h
    exact ⟨[], by simp, by simp, by simp⟩
  | f :: fs, o, h, hS, ht => by
    unfold tile at h
    split at h
    · rename_i he
      obtain ⟨hle, hge⟩ := tile_ge fs _ _ h
      have hlen : ((cs.drop f.offset).take (P.cellsOf f.type)).length = P.cellsOf f.type := by rw [List.length_take, List.length_drop]; omega
      obtain ⟨x, hx, hxl, hxr⟩ := ih f.type _ (hS f List.mem_cons_self) hlen (ht f List.mem_cons_self)
      obtain ⟨bs, h1, h2, h3⟩ := fields_has S ih fs (o + P.cellsOf f.type) h (fun g hg => hS g (List.mem_cons_of_mem _ hg)) (fun g hg => ht g (List.mem_cons_of_mem _ hg))
      rw [hlen] at hxl
      refine ⟨x.cells ++ bs, by rw [List.length_append, hxl, h1]; omega, fun i c v hc hv => ?_, fun g hg => ?_⟩
      · by_cases hi : i < P.cellsOf f.type
        · rw [List.getElem?_append_left (by omega)] at hc
          refine hxr i c v hc ?_
          rw [List.getElem?_take, if_pos hi, he]; exact hv
        · rw [List.getElem?_append_right (by omega), hxl] at hc
          refine h2 _ c v hc ?_
          rw [List.getElem?_drop] at hv ⊢
          rw [show o + P.cellsOf f.type + (i - P.cellsOf f.type) = o + i by omega]; exact hv
      · rcases List.mem_cons.1 hg with rfl | hg
        · refine ⟨x, hx, ?_⟩
          rw [he, Nat.sub_self, List.drop_zero, List.take_append_of_le_length (by omega), List.take_of_length_le (by omega)]
        · obtain ⟨y, hy, hyc⟩ := h3 g hg
          have := hge g hg
          refine ⟨y, hy, ?_⟩
          rw [hyc, List.drop_append, show x.cells.drop (g.offset - o) = [] from List.drop_eq_nil_of_le (by omega), List.nil_append, hxl]
          congr 2
          omega
    · cases h
theorem trod_has {P : Program} {S : List TypeId} (hS : kindsB P S = true) : ∀ (n : Nat) (t : TypeId) (cs : List Value), t ∈ S → cs.length = P.cellsOf t → (∃ y, DataW.trod enc P W 0 (fun _ => true) true n t cs = some y) → ∃ x, hasF P n t x ∧ CRep W x cs := by
  intro n
  induction n with
  | zero => intro t cs _ _ ⟨y, h⟩; simp [DataW.trod] at h
  | succ n ih =>
    intro t cs ht hl ⟨y, h⟩
    have hk := List.all_eq_true.1 hS t ht
    cases hu : P.underlying t with
    | none => rw [hu] at hk; cases hk
    | some d =>
      rw [hu] at hk
      unfold hasF
      rw [hu]
      cases d with
      | int k =>
        obtain ⟨z, rfl, _, hw⟩ := DataW.trod_int hu h
        exact ⟨_, ⟨z, rfl, hw⟩, rfl, fun i c v hc hv => by
          rcases i with _ | i
          · cases hc; cases hv; exact .p _
          · simp at hv⟩
      | bool =>
        obtain ⟨z, rfl, _⟩ := DataW.trod_bool hu h
        exact ⟨_, ⟨z, rfl⟩, rfl, fun i c v hc hv => by
          rcases i with _ | i
          · cases hc; cases hv; exact .p _
          · simp at hv⟩
      | string =>
        obtain ⟨z, rfl, _, hw⟩ := DataW.trod_string hu h
        exact ⟨_, ⟨z, rfl, hw⟩, rfl, fun i c v hc hv => by
          rcases i with _ | i
          · cases hc; cases hv; exact .p _
          · simp at hv⟩
      | struct fs =>
        simp only [Bool.and_eq_true, beq_iff_eq] at hk
        obtain ⟨xs, m, hm, _, _, hxl, hf⟩ := DataW.trod_struct hu h
        obtain rfl : n = m := by omega
        obtain ⟨bs, h1, h2, h3⟩ := fields_has (enc := enc) S ih fs.toList 0 (by rw [hk.2, hl]) (fun f hf => by simpa using List.all_eq_true.1 hk.1 f hf) (fun f hff => by
          obtain ⟨i, hi, rfl⟩ := List.getElem_of_mem hff
          have hi' : i < fs.size := by simpa using hi
          have := hf i fs[i] (Array.getElem?_eq_getElem hi')
          rw [List.getElem?_eq_getElem (by omega)] at this
          exact ⟨_, by simpa using this⟩)
        simp only [Nat.sub_zero, List.drop_zero] at h1 h2 h3
        exact ⟨.agg bs, ⟨bs, rfl, by omega, h3⟩, h1, h2⟩
      | slice e =>
        simp only [Bool.and_eq_true, decide_eq_true_eq] at hk
        have he : e ∈ S := by simpa using hk.1
        rcases DataW.trod_slice hu h with ⟨rfl, _⟩ | ⟨a, len, cap, elems, rest, n', hn', rfl, _, _, hle, hmx, hlen, hel, _, _⟩
        · exact ⟨_, ⟨[], rfl, by simp, by simp⟩, rfl, fun i c v hc hv => by
            rcases i with _ | i
            · cases hc; cases hv; exact .vnil _ _
            · simp at hv⟩
        · obtain rfl : n = n' := by omega
          obtain ⟨V, hV⟩ := Go.Deep.choose_lt (α := AV × List Value) (n := len) (p := fun i q => hasF P n e q.1 ∧ CRep W q.1 q.2 ∧ q.2.length = P.cellsOf e ∧ ∀ j v, q.2[j]? = some v → W.cell? ((a.add (i * P.cellsOf e)).add j) = some v) (fun i hi => by
            have h0 := hel i hi
            rw [List.getElem?_eq_getElem (by omega)] at h0
            obtain ⟨cs', h1, h2⟩ := Option.bind_eq_some_iff.1 h0
            obtain ⟨_, hl', hc⟩ := World.cells?_some h1
            obtain ⟨x, hx, hr⟩ := ih e cs' he hl' ⟨_, h2⟩
            refine ⟨(x, cs'), hx, hr, hl', fun j v hj => ?_⟩
            have hjk : j < P.cellsOf e := by rw [← hl']; exact (List.getElem?_eq_some_iff.1 hj).1
            have := hc j hjk
            rw [hj] at this
            exact this)
          refine ⟨.vsl ((List.range len).map fun i => (V i).1), ⟨_, rfl, by simp; omega, fun y hy => ?_⟩, rfl, fun i c v hc hv => ?_⟩
          · obtain ⟨i, hi, rfl⟩ := List.mem_map.1 hy
            exact (hV i (List.mem_range.1 hi)).1
          · rcases i with _ | i
            · cases hc; cases hv
              rcases Nat.eq_zero_or_pos len with h0 | hpos
              · subst h0; exact .vnil _ _
              · obtain ⟨β, o, spot⟩ := a
                obtain ⟨_, _, h3, h4⟩ := hV 0 hpos
                obtain rfl : spot = none := by
                  have hj : (V 0).2[0]? = some ((V 0).2[0]'(by omega)) := List.getElem?_eq_getElem (by omega)
                  simpa [Addr.add] using World.cell?_spot (h4 0 _ hj)
                refine rep_rowsG (k := P.cellsOf e) (fun i => (V i).2) (fun i => (V i).1) hle (fun i hi => by rw [(hV i hi).2.1.1, (hV i hi).2.2.1]) (fun i hi => (hV i hi).2.2.1) (fun i hi j v hj => ?_) (fun i hi j c v hc hv => (hV i hi).2.1.2 j c v hc hv)
                have := (hV i hi).2.2.2 j v hj
                rw [Addr.add_lit, Addr.add_lit, Nat.add_assoc] at this
                exact this
            · simp at hv
      | _ => cases hk
/-- An argument, whatever its shape. -/
theorem open_has {P : Program} {S : List TypeId} (hS : kindsB P S = true) {t : TypeId} (ht : t ∈ S) {ps : List MemPlace} {d : DataW H} {v : Value} {b0 : Nat} (hv : Value.okWide P W .any b0 t v) (h : DataW.Trod enc P W 0 (fun _ => true) true t v d ps) : ∃ x, HasT P t x ∧ Rep (G0 W) W x v := by
  obtain ⟨n, h⟩ := h
  have hk := List.all_eq_true.1 hS t ht
  cases hu : P.underlying t with
  | none => rw [hu] at hk; cases hk
  | some q =>
    rw [hu] at hk
    have one : ∀ {x : AV}, v.cells.toList = [v] → (∀ cs, x ≠ .agg cs) → CRep W x v.cells.toList → Rep (G0 W) W x v := by
      intro x h1 h2 h3
      rw [h1] at h3
      have : x.cells = [x] := by cases x <;> first | rfl | exact absurd rfl (h2 _)
      exact h3.2 0 x v (by rw [this]; rfl) rfl
    cases q with
    | int k =>
      obtain ⟨z, rfl⟩ := okWide_int hu hv
      obtain ⟨x, hx, hr⟩ := trod_has hS n t _ ht (by simpa [Value.cells] using (by simpa using hk : P.cellsOf t = 1).symm) ⟨_, h⟩
      refine ⟨x, ⟨n, hx⟩, one rfl ?_ hr⟩
      cases n with
      | zero => exact hx.elim
      | succ n => unfold hasF at hx; rw [hu] at hx; obtain ⟨z, rfl, _⟩ := hx; exact fun cs h => by cases h
    | bool =>
      obtain ⟨z, rfl⟩ := okWide_bool hu hv
      obtain ⟨x, hx, hr⟩ := trod_has hS n t _ ht (by simpa [Value.cells] using (by simpa using hk : P.cellsOf t = 1).symm) ⟨_, h⟩
      refine ⟨x, ⟨n, hx⟩, one rfl ?_ hr⟩
      cases n with
      | zero => exact hx.elim
      | succ n => unfold hasF at hx; rw [hu] at hx; obtain ⟨z, rfl⟩ := hx; exact fun cs h => by cases h
    | string =>
      obtain ⟨z, rfl⟩ := okWide_string hu hv
      obtain ⟨x, hx, hr⟩ := trod_has hS n t _ ht (by simpa [Value.cells] using (by simpa using hk : P.cellsOf t = 1).symm) ⟨_, h⟩
      refine ⟨x, ⟨n, hx⟩, one rfl ?_ hr⟩
      cases n with
      | zero => exact hx.elim
      | succ n => unfold hasF at hx; rw [hu] at hx; obtain ⟨z, rfl, _⟩ := hx; exact fun cs h => by cases h
    | slice e =>
      obtain ⟨a, len, cap, rfl⟩ := okWide_slice hu hv
      have hc1 : P.cellsOf t = 1 := by simp only [Bool.and_eq_true, decide_eq_true_eq] at hk; exact hk.2.2
      obtain ⟨x, hx, hr⟩ := trod_has hS n t _ ht (by simpa [Value.cells] using hc1.symm) ⟨_, h⟩
      refine ⟨x, ⟨n, hx⟩, one rfl ?_ hr⟩
      cases n with
      | zero => exact hx.elim
      | succ n => unfold hasF at hx; rw [hu] at hx; obtain ⟨z, rfl, _⟩ := hx; exact fun cs h => by cases h
    | struct fs =>
      obtain ⟨cs, rfl, hsz⟩ := okWide_struct hu hv
      obtain ⟨x, hx, hr⟩ := trod_has hS n t _ ht (by simpa [Value.cells] using hsz) ⟨_, h⟩
      cases n with
      | zero => exact hx.elim
      | succ n =>
        have hx' := hx
        unfold hasF at hx; rw [hu] at hx
        obtain ⟨bs, rfl, _⟩ := hx
        exact ⟨_, ⟨n + 1, hx'⟩, .agg bs cs (by simpa [Value.cells, AV.cells] using hr.1) fun i c v hc hv => hr.2 i c v hc (by simpa [Value.cells] using hv)⟩
    | _ => cases hk
end
end Go.AL
/-! What the logic wants to know of the types. -/
namespace Go.AL
open Go.Proofs
@[simp] theorem ts2 : tsize Try.prog 2 = some (1, false) := by kernel_rfl
@[simp] theorem tk2 : tkind Try.prog 2 = 0 := by kernel_rfl
@[simp] theorem ti2 : isIface Try.prog 2 = false := by kernel_rfl
@[simp] theorem tl2 : tleaf Try.prog 2 = 2 := by kernel_rfl
@[simp] theorem tu2 : Try.prog.underlying 2 = some (.int .i64) := by kernel_rfl
@[simp] theorem tstn2 : isString Try.prog 2 = false := by kernel_rfl
@[simp] theorem tbyn2 : isBytes Try.prog 2 = false := by kernel_rfl
@[simp] theorem tz2 : tzero Try.prog 2 = some (.p (.int .i64 0)) := by kernel_rfl
@[simp] theorem ts3 : tsize Try.prog 3 = some (1, false) := by kernel_rfl
@[simp] theorem tk3 : tkind Try.prog 3 = 0 := by kernel_rfl
@[simp] theorem ti3 : isIface Try.prog 3 = false := by kernel_rfl
@[simp] theorem tl3 : tleaf Try.prog 3 = 2 := by kernel_rfl
@[simp] theorem tu3 : Try.prog.underlying 3 = some (.int .i64) := by kernel_rfl
@[simp] theorem tstn3 : isString Try.prog 3 = false := by kernel_rfl
@[simp] theorem tbyn3 : isBytes Try.prog 3 = false := by kernel_rfl
@[simp] theorem tz3 : tzero Try.prog 3 = some (.p (.int .i64 0)) := by kernel_rfl
@[simp] theorem ts4 : tsize Try.prog 4 = some (1, false) := by kernel_rfl
@[simp] theorem tk4 : tkind Try.prog 4 = 1 := by kernel_rfl
@[simp] theorem ti4 : isIface Try.prog 4 = false := by kernel_rfl
@[simp] theorem tl4 : tleaf Try.prog 4 = 1 := by kernel_rfl
@[simp] theorem tu4 : Try.prog.underlying 4 = some .bool := by kernel_rfl
@[simp] theorem tstn4 : isString Try.prog 4 = false := by kernel_rfl
@[simp] theorem tbyn4 : isBytes Try.prog 4 = false := by kernel_rfl
@[simp] theorem tz4 : tzero Try.prog 4 = some (.p (.bool false)) := by kernel_rfl
@[simp] theorem ts5 : tsize Try.prog 5 = some (1, false) := by kernel_rfl
@[simp] theorem tk5 : tkind Try.prog 5 = 0 := by kernel_rfl
@[simp] theorem ti5 : isIface Try.prog 5 = false := by kernel_rfl
@[simp] theorem tl5 : tleaf Try.prog 5 = 2 := by kernel_rfl
@[simp] theorem tu5 : Try.prog.underlying 5 = some (.int .u8) := by kernel_rfl
@[simp] theorem tstn5 : isString Try.prog 5 = false := by kernel_rfl
@[simp] theorem tbyn5 : isBytes Try.prog 5 = false := by kernel_rfl
@[simp] theorem tz5 : tzero Try.prog 5 = some (.p (.int .u8 0)) := by kernel_rfl
@[simp] theorem ts9 : tsize Try.prog 9 = some (1, false) := by kernel_rfl
@[simp] theorem tk9 : tkind Try.prog 9 = 0 := by kernel_rfl
@[simp] theorem ti9 : isIface Try.prog 9 = false := by kernel_rfl
@[simp] theorem tl9 : tleaf Try.prog 9 = 3 := by kernel_rfl
@[simp] theorem tstr9 : isString Try.prog 9 = true := by kernel_rfl
@[simp] theorem tu9 : Try.prog.underlying 9 = some .string := by kernel_rfl
@[simp] theorem tbyn9 : isBytes Try.prog 9 = false := by kernel_rfl
@[simp] theorem tz9 : tzero Try.prog 9 = some (.p (.string ⟨#[]⟩)) := by kernel_rfl
@[simp] theorem ts12 : tsize Try.prog 12 = some (1, false) := by kernel_rfl
@[simp] theorem tk12 : tkind Try.prog 12 = 0 := by kernel_rfl
@[simp] theorem ti12 : isIface Try.prog 12 = false := by kernel_rfl
@[simp] theorem tl12 : tleaf Try.prog 12 = 2 := by kernel_rfl
@[simp] theorem tu12 : Try.prog.underlying 12 = some (.int .u64) := by kernel_rfl
@[simp] theorem tstn12 : isString Try.prog 12 = false := by kernel_rfl
@[simp] theorem tbyn12 : isBytes Try.prog 12 = false := by kernel_rfl
@[simp] theorem tz12 : tzero Try.prog 12 = some (.p (.int .u64 0)) := by kernel_rfl
@[simp] theorem ts13 : tsize Try.prog 13 = some (2, true) := by kernel_rfl
@[simp] theorem tk13 : tkind Try.prog 13 = 0 := by kernel_rfl
@[simp] theorem ti13 : isIface Try.prog 13 = false := by kernel_rfl
@[simp] theorem tstn13 : isString Try.prog 13 = false := by kernel_rfl
@[simp] theorem tbyn13 : isBytes Try.prog 13 = false := by kernel_rfl
@[simp] theorem tf13_0 : tfield Try.prog 13 0 = some (0, 1, false) := by kernel_rfl
@[simp] theorem tf13_1 : tfield Try.prog 13 1 = some (1, 1, false) := by kernel_rfl
@[simp] theorem tp13 : tplaces Try.prog 13 = some [(0, 1), (1, 1)] := by kernel_rfl
@[simp] theorem tz13 : tzero Try.prog 13 = some (.agg [.p (.string ⟨#[]⟩), .p (.int .u64 0)]) := by kernel_rfl
@[simp] theorem ts20 : tsize Try.prog 20 = some (1, false) := by kernel_rfl
@[simp] theorem tk20 : tkind Try.prog 20 = 3 := by kernel_rfl
@[simp] theorem ti20 : isIface Try.prog 20 = true := by kernel_rfl
@[simp] theorem tstn20 : isString Try.prog 20 = false := by kernel_rfl
@[simp] theorem tbyn20 : isBytes Try.prog 20 = false := by kernel_rfl
@[simp] theorem tz20 : tzero Try.prog 20 = some (.p (.nilIface)) := by kernel_rfl
@[simp] theorem ts21 : tsize Try.prog 21 = some (1, false) := by kernel_rfl
@[simp] theorem tk21 : tkind Try.prog 21 = 0 := by kernel_rfl
@[simp] theorem ti21 : isIface Try.prog 21 = false := by kernel_rfl
@[simp] theorem tl21 : tleaf Try.prog 21 = 2 := by kernel_rfl
@[simp] theorem tu21 : Try.prog.underlying 21 = some (.int .i32) := by kernel_rfl
@[simp] theorem tstn21 : isString Try.prog 21 = false := by kernel_rfl
@[simp] theorem tbyn21 : isBytes Try.prog 21 = false := by kernel_rfl
@[simp] theorem tz21 : tzero Try.prog 21 = some (.p (.int .i32 0)) := by kernel_rfl
@[simp] theorem ts22 : tsize Try.prog 22 = some (1, false) := by kernel_rfl
@[simp] theorem tk22 : tkind Try.prog 22 = 4 := by kernel_rfl
@[simp] theorem ti22 : isIface Try.prog 22 = false := by kernel_rfl
@[simp] theorem tby22 : isBytes Try.prog 22 = false := by kernel_rfl
@[simp] theorem tstn22 : isString Try.prog 22 = false := by kernel_rfl
@[simp] theorem tsl22 : isSlice Try.prog 22 = true := by kernel_rfl
@[simp] theorem te22 : telem Try.prog 22 = some (2, true, 32) := by kernel_rfl
@[simp] theorem tet22 : telemT Try.prog 22 = some 41 := by kernel_rfl
@[simp] theorem tz22 : tzero Try.prog 22 = some (.p (.slice none 0 0)) := by kernel_rfl
@[simp] theorem ts23 : tsize Try.prog 23 = some (1, false) := by kernel_rfl
@[simp] theorem tk23 : tkind Try.prog 23 = 4 := by kernel_rfl
@[simp] theorem ti23 : isIface Try.prog 23 = false := by kernel_rfl
@[simp] theorem tby23 : isBytes Try.prog 23 = false := by kernel_rfl
@[simp] theorem tstn23 : isString Try.prog 23 = false := by kernel_rfl
@[simp] theorem tsl23 : isSlice Try.prog 23 = true := by kernel_rfl
@[simp] theorem te23 : telem Try.prog 23 = some (1, false, 8) := by kernel_rfl
@[simp] theorem tet23 : telemT Try.prog 23 = some 3 := by kernel_rfl
@[simp] theorem tz23 : tzero Try.prog 23 = some (.p (.slice none 0 0)) := by kernel_rfl
@[simp] theorem ts26 : tsize Try.prog 26 = some (1, false) := by kernel_rfl
@[simp] theorem tk26 : tkind Try.prog 26 = 2 := by kernel_rfl
@[simp] theorem ti26 : isIface Try.prog 26 = false := by kernel_rfl
@[simp] theorem tstn26 : isString Try.prog 26 = false := by kernel_rfl
@[simp] theorem tbyn26 : isBytes Try.prog 26 = false := by kernel_rfl
@[simp] theorem tz26 : tzero Try.prog 26 = some (.p (.pointer none)) := by kernel_rfl
@[simp] theorem ts27 : tsize Try.prog 27 = some (1, false) := by kernel_rfl
@[simp] theorem tk27 : tkind Try.prog 27 = 0 := by kernel_rfl
@[simp] theorem ti27 : isIface Try.prog 27 = false := by kernel_rfl
@[simp] theorem tl27 : tleaf Try.prog 27 = 2 := by kernel_rfl
@[simp] theorem tu27 : Try.prog.underlying 27 = some (.int .i64) := by kernel_rfl
@[simp] theorem tstn27 : isString Try.prog 27 = false := by kernel_rfl
@[simp] theorem tbyn27 : isBytes Try.prog 27 = false := by kernel_rfl
@[simp] theorem tz27 : tzero Try.prog 27 = some (.p (.int .i64 0)) := by kernel_rfl
@[simp] theorem ts30 : tsize Try.prog 30 = some (1, false) := by kernel_rfl
@[simp] theorem tk30 : tkind Try.prog 30 = 4 := by kernel_rfl
@[simp] theorem ti30 : isIface Try.prog 30 = false := by kernel_rfl
@[simp] theorem tby30 : isBytes Try.prog 30 = false := by kernel_rfl
@[simp] theorem tstn30 : isString Try.prog 30 = false := by kernel_rfl
@[simp] theorem tsl30 : isSlice Try.prog 30 = true := by kernel_rfl
@[simp] theorem te30 : telem Try.prog 30 = some (2, true, 32) := by kernel_rfl
@[simp] theorem tet30 : telemT Try.prog 30 = some 55 := by kernel_rfl
@[simp] theorem tz30 : tzero Try.prog 30 = some (.p (.slice none 0 0)) := by kernel_rfl
@[simp] theorem ts39 : tsize Try.prog 39 = some (1, false) := by kernel_rfl
@[simp] theorem tk39 : tkind Try.prog 39 = 0 := by kernel_rfl
@[simp] theorem ti39 : isIface Try.prog 39 = false := by kernel_rfl
@[simp] theorem tl39 : tleaf Try.prog 39 = 2 := by kernel_rfl
@[simp] theorem tu39 : Try.prog.underlying 39 = some (.int .u16) := by kernel_rfl
@[simp] theorem tstn39 : isString Try.prog 39 = false := by kernel_rfl
@[simp] theorem tbyn39 : isBytes Try.prog 39 = false := by kernel_rfl
@[simp] theorem tz39 : tzero Try.prog 39 = some (.p (.int .u16 0)) := by kernel_rfl
@[simp] theorem ts40 : tsize Try.prog 40 = some (2, true) := by kernel_rfl
@[simp] theorem tk40 : tkind Try.prog 40 = 0 := by kernel_rfl
@[simp] theorem ti40 : isIface Try.prog 40 = false := by kernel_rfl
@[simp] theorem tstn40 : isString Try.prog 40 = false := by kernel_rfl
@[simp] theorem tbyn40 : isBytes Try.prog 40 = false := by kernel_rfl
@[simp] theorem tf40_0 : tfield Try.prog 40 0 = some (0, 1, false) := by kernel_rfl
@[simp] theorem tf40_1 : tfield Try.prog 40 1 = some (1, 1, false) := by kernel_rfl
@[simp] theorem tp40 : tplaces Try.prog 40 = some [(0, 1), (1, 1)] := by kernel_rfl
@[simp] theorem tz40 : tzero Try.prog 40 = some (.agg [.p (.int .i64 0), .p (.slice none 0 0)]) := by kernel_rfl
@[simp] theorem ts41 : tsize Try.prog 41 = some (2, true) := by kernel_rfl
@[simp] theorem tk41 : tkind Try.prog 41 = 0 := by kernel_rfl
@[simp] theorem ti41 : isIface Try.prog 41 = false := by kernel_rfl
@[simp] theorem tstn41 : isString Try.prog 41 = false := by kernel_rfl
@[simp] theorem tbyn41 : isBytes Try.prog 41 = false := by kernel_rfl
@[simp] theorem tf41_0 : tfield Try.prog 41 0 = some (0, 1, false) := by kernel_rfl
@[simp] theorem tf41_1 : tfield Try.prog 41 1 = some (1, 1, false) := by kernel_rfl
@[simp] theorem tp41 : tplaces Try.prog 41 = some [(0, 1), (1, 1)] := by kernel_rfl
@[simp] theorem tz41 : tzero Try.prog 41 = some (.agg [.p (.int .i64 0), .p (.slice none 0 0)]) := by kernel_rfl
@[simp] theorem ts44 : tsize Try.prog 44 = some (1, false) := by kernel_rfl
@[simp] theorem tk44 : tkind Try.prog 44 = 5 := by kernel_rfl
@[simp] theorem ti44 : isIface Try.prog 44 = false := by kernel_rfl
@[simp] theorem tstn44 : isString Try.prog 44 = false := by kernel_rfl
@[simp] theorem tbyn44 : isBytes Try.prog 44 = false := by kernel_rfl
@[simp] theorem tmap44 : isMapT Try.prog 44 = true := by kernel_rfl
@[simp] theorem tz44 : tzero Try.prog 44 = some (.p (.map none)) := by kernel_rfl
@[simp] theorem ts45 : tsize Try.prog 45 = some (2, true) := by kernel_rfl
@[simp] theorem tk45 : tkind Try.prog 45 = 0 := by kernel_rfl
@[simp] theorem ti45 : isIface Try.prog 45 = false := by kernel_rfl
@[simp] theorem tstn45 : isString Try.prog 45 = false := by kernel_rfl
@[simp] theorem tbyn45 : isBytes Try.prog 45 = false := by kernel_rfl
@[simp] theorem tf45_0 : tfield Try.prog 45 0 = some (0, 1, false) := by kernel_rfl
@[simp] theorem tf45_1 : tfield Try.prog 45 1 = some (1, 1, false) := by kernel_rfl
@[simp] theorem tp45 : tplaces Try.prog 45 = some [(0, 1), (1, 1)] := by kernel_rfl
@[simp] theorem tz45 : tzero Try.prog 45 = some (.agg [.p (.map none), .p (.map none)]) := by kernel_rfl
@[simp] theorem ts46 : tsize Try.prog 46 = some (2, true) := by kernel_rfl
@[simp] theorem tk46 : tkind Try.prog 46 = 0 := by kernel_rfl
@[simp] theorem ti46 : isIface Try.prog 46 = false := by kernel_rfl
@[simp] theorem tstn46 : isString Try.prog 46 = false := by kernel_rfl
@[simp] theorem tbyn46 : isBytes Try.prog 46 = false := by kernel_rfl
@[simp] theorem tf46_0 : tfield Try.prog 46 0 = some (0, 1, false) := by kernel_rfl
@[simp] theorem tf46_1 : tfield Try.prog 46 1 = some (1, 1, false) := by kernel_rfl
@[simp] theorem tp46 : tplaces Try.prog 46 = some [(0, 1), (1, 1)] := by kernel_rfl
@[simp] theorem tz46 : tzero Try.prog 46 = some (.agg [.p (.map none), .p (.map none)]) := by kernel_rfl
@[simp] theorem ts55 : tsize Try.prog 55 = some (2, true) := by kernel_rfl
@[simp] theorem tk55 : tkind Try.prog 55 = 0 := by kernel_rfl
@[simp] theorem ti55 : isIface Try.prog 55 = false := by kernel_rfl
@[simp] theorem tstn55 : isString Try.prog 55 = false := by kernel_rfl
@[simp] theorem tbyn55 : isBytes Try.prog 55 = false := by kernel_rfl
@[simp] theorem tf55_0 : tfield Try.prog 55 0 = some (0, 1, false) := by kernel_rfl
@[simp] theorem tf55_1 : tfield Try.prog 55 1 = some (1, 1, false) := by kernel_rfl
@[simp] theorem tp55 : tplaces Try.prog 55 = some [(0, 1), (1, 1)] := by kernel_rfl
@[simp] theorem tz55 : tzero Try.prog 55 = some (.agg [.p (.int .i64 0), .p (.slice none 0 0)]) := by kernel_rfl
@[simp] theorem ts61 : tsize Try.prog 61 = some (1, false) := by kernel_rfl
@[simp] theorem tk61 : tkind Try.prog 61 = 5 := by kernel_rfl
@[simp] theorem ti61 : isIface Try.prog 61 = false := by kernel_rfl
@[simp] theorem tstn61 : isString Try.prog 61 = false := by kernel_rfl
@[simp] theorem tbyn61 : isBytes Try.prog 61 = false := by kernel_rfl
@[simp] theorem tmap61 : isMapT Try.prog 61 = true := by kernel_rfl
@[simp] theorem tz61 : tzero Try.prog 61 = some (.p (.map none)) := by kernel_rfl
@[simp] theorem ts74 : tsize Try.prog 74 = some (1, false) := by kernel_rfl
@[simp] theorem tk74 : tkind Try.prog 74 = 0 := by kernel_rfl
@[simp] theorem ti74 : isIface Try.prog 74 = false := by kernel_rfl
@[simp] theorem tl74 : tleaf Try.prog 74 = 2 := by kernel_rfl
@[simp] theorem tu74 : Try.prog.underlying 74 = some (.int .u64) := by kernel_rfl
@[simp] theorem tstn74 : isString Try.prog 74 = false := by kernel_rfl
@[simp] theorem tbyn74 : isBytes Try.prog 74 = false := by kernel_rfl
@[simp] theorem tz74 : tzero Try.prog 74 = some (.p (.int .u64 0)) := by kernel_rfl
@[simp] theorem ts78 : tsize Try.prog 78 = some (1, false) := by kernel_rfl
@[simp] theorem tk78 : tkind Try.prog 78 = 0 := by kernel_rfl
@[simp] theorem ti78 : isIface Try.prog 78 = false := by kernel_rfl
@[simp] theorem tl78 : tleaf Try.prog 78 = 2 := by kernel_rfl
@[simp] theorem tu78 : Try.prog.underlying 78 = some (.int .i64) := by kernel_rfl
@[simp] theorem tstn78 : isString Try.prog 78 = false := by kernel_rfl
@[simp] theorem tbyn78 : isBytes Try.prog 78 = false := by kernel_rfl
@[simp] theorem tz78 : tzero Try.prog 78 = some (.p (.int .i64 0)) := by kernel_rfl
@[simp] theorem ts85 : tsize Try.prog 85 = some (1, false) := by kernel_rfl
@[simp] theorem tk85 : tkind Try.prog 85 = 0 := by kernel_rfl
@[simp] theorem ti85 : isIface Try.prog 85 = false := by kernel_rfl
@[simp] theorem tl85 : tleaf Try.prog 85 = 2 := by kernel_rfl
@[simp] theorem tu85 : Try.prog.underlying 85 = some (.int .u32) := by kernel_rfl
@[simp] theorem tstn85 : isString Try.prog 85 = false := by kernel_rfl
@[simp] theorem tbyn85 : isBytes Try.prog 85 = false := by kernel_rfl
@[simp] theorem tz85 : tzero Try.prog 85 = some (.p (.int .u32 0)) := by kernel_rfl
@[simp] theorem ts87 : tsize Try.prog 87 = some (1, false) := by kernel_rfl
@[simp] theorem tk87 : tkind Try.prog 87 = 0 := by kernel_rfl
@[simp] theorem ti87 : isIface Try.prog 87 = false := by kernel_rfl
@[simp] theorem tl87 : tleaf Try.prog 87 = 2 := by kernel_rfl
@[simp] theorem tu87 : Try.prog.underlying 87 = some (.int .u64) := by kernel_rfl
@[simp] theorem tstn87 : isString Try.prog 87 = false := by kernel_rfl
@[simp] theorem tbyn87 : isBytes Try.prog 87 = false := by kernel_rfl
@[simp] theorem tz87 : tzero Try.prog 87 = some (.p (.int .u64 0)) := by kernel_rfl
@[simp] theorem ts88 : tsize Try.prog 88 = some (1, false) := by kernel_rfl
@[simp] theorem tk88 : tkind Try.prog 88 = 0 := by kernel_rfl
@[simp] theorem ti88 : isIface Try.prog 88 = false := by kernel_rfl
@[simp] theorem tl88 : tleaf Try.prog 88 = 2 := by kernel_rfl
@[simp] theorem tu88 : Try.prog.underlying 88 = some (.int .u64) := by kernel_rfl
@[simp] theorem tstn88 : isString Try.prog 88 = false := by kernel_rfl
@[simp] theorem tbyn88 : isBytes Try.prog 88 = false := by kernel_rfl
@[simp] theorem tz88 : tzero Try.prog 88 = some (.p (.int .u64 0)) := by kernel_rfl
@[simp] theorem ts92 : tsize Try.prog 92 = some (1, false) := by kernel_rfl
@[simp] theorem tk92 : tkind Try.prog 92 = 2 := by kernel_rfl
@[simp] theorem ti92 : isIface Try.prog 92 = false := by kernel_rfl
@[simp] theorem tstn92 : isString Try.prog 92 = false := by kernel_rfl
@[simp] theorem tbyn92 : isBytes Try.prog 92 = false := by kernel_rfl
@[simp] theorem tz92 : tzero Try.prog 92 = some (.p (.pointer none)) := by kernel_rfl
@[simp] theorem ts94 : tsize Try.prog 94 = some (1, false) := by kernel_rfl
@[simp] theorem tk94 : tkind Try.prog 94 = 2 := by kernel_rfl
@[simp] theorem ti94 : isIface Try.prog 94 = false := by kernel_rfl
@[simp] theorem tstn94 : isString Try.prog 94 = false := by kernel_rfl
@[simp] theorem tbyn94 : isBytes Try.prog 94 = false := by kernel_rfl
@[simp] theorem tz94 : tzero Try.prog 94 = some (.p (.pointer none)) := by kernel_rfl
@[simp] theorem ts107 : tsize Try.prog 107 = some (1, false) := by kernel_rfl
@[simp] theorem tk107 : tkind Try.prog 107 = 2 := by kernel_rfl
@[simp] theorem ti107 : isIface Try.prog 107 = false := by kernel_rfl
@[simp] theorem tstn107 : isString Try.prog 107 = false := by kernel_rfl
@[simp] theorem tbyn107 : isBytes Try.prog 107 = false := by kernel_rfl
@[simp] theorem tz107 : tzero Try.prog 107 = some (.p (.pointer none)) := by kernel_rfl
attribute [simp] Try.results4 Try.results5 Try.results6 Try.results7 Try.results10 Try.results11 Try.results13 Try.results15 Try.results17 Try.results19 Try.results20 Try.results21 Try.results22 Try.results23 Try.results24 Try.results25 Try.results26 Try.results28 Try.results29 Try.results30 Try.results32 Try.results33 Try.results34 Try.results36 Try.results37 Try.results39 Try.results40 Try.results41 Try.results42 Try.results43 Try.results44 Try.results45 Try.results46 Try.results47 Try.results48 Try.results49 Try.results52 Try.results53 Try.results54 Try.results55 Try.results56 Try.results57 Try.results58 Try.results59 Try.results60 Try.results61 Try.results62 Try.results66 Try.results67 Try.results68 Try.results70 Try.results71 Try.results72 Try.results73
end Go.AL
/-! What all contracts use. -/
namespace Go.AL
open Go.Proofs
set_option linter.unusedSimpArgs false
set_option linter.unusedVariables false
attribute [simp] keep frm
theorem draws : Try.prog.follows .mixedOrders = true := by kernel_rfl
/-- The number, if so. -/
def z (b : Bool) (n : Int) : Int := if b = true then n else 0
@[simp] theorem z_true (n : Int) : z true n = n := rfl
@[simp] theorem z_false (n : Int) : z false n = 0 := rfl
theorem uwrap_id {n : Int} (h1 : 0 ≤ n) (h2 : n < 18446744073709551616) : IntKind.u64.wrap n = n := by
  have e1 : (2 : Int) ^ IntKind.u64.bits = 18446744073709551616 := by decide
  have e3 : IntKind.u64.signed = false := rfl
  unfold IntKind.wrap
  simp only [e1, e3, Bool.false_and]
  simp only [Bool.false_eq_true, if_false]
  omega
def In64 (a : Int) : Prop := -9223372036854775808 ≤ a ∧ a ≤ 9223372036854775807
theorem In64.of_wf {a : Int} (h : (Lit.int .i64 a).wf = true) : In64 a := by
  simp only [Lit.wf, IntKind.min, IntKind.max, IntKind.signed, IntKind.bits, Bool.and_eq_true, decide_eq_true_eq, if_true] at h
  unfold In64; omega
end Go.AL
/-! What a value of a type is. -/
namespace Go.AL
open Go.Proofs
set_option linter.unusedVariables false
set_option linter.unusedSimpArgs false
variable {P : Program} {n : Nat} {t : TypeId} {x : AV}
theorem has_int {k : IntKind} (h : hasF P n t x) (hu : P.underlying t = some (.int k)) : ∃ z, x = .p (.int k z) ∧ (Lit.int k z).wf = true := by
  cases n with
  | zero => exact h.elim
  | succ n => unfold hasF at h; rw [hu] at h; exact h
theorem has_struct {fs : Array Field} (h : hasF P n t x) (hu : P.underlying t = some (.struct fs)) : ∃ m cs, n = m + 1 ∧ x = .agg cs ∧ cs.length = P.cellsOf t ∧ ∀ f ∈ fs.toList, ∃ y, hasF P m f.type y ∧ y.cells = (cs.drop f.offset).take (P.cellsOf f.type) := by
  cases n with
  | zero => exact h.elim
  | succ n => unfold hasF at h; rw [hu] at h; obtain ⟨cs, h1, h2, h3⟩ := h; exact ⟨n, cs, rfl, h1, h2, h3⟩
theorem has_slice {e : TypeId} (h : hasF P n t x) (hu : P.underlying t = some (.slice e)) : ∃ m xs, n = m + 1 ∧ x = .vsl xs ∧ xs.length ≤ 9223372036854775807 ∧ ∀ y ∈ xs, hasF P m e y := by
  cases n with
  | zero => exact h.elim
  | succ n => unfold hasF at h; rw [hu] at h; obtain ⟨cs, h1, h2, h3⟩ := h; exact ⟨n, cs, rfl, h1, h2, h3⟩
theorem has_i64 (h : hasF P n t x) (hu : P.underlying t = some (.int .i64)) : ∃ z, x = vi z ∧ In64 z := by
  obtain ⟨z, rfl, hw⟩ := has_int h hu
  exact ⟨z, rfl, .of_wf hw⟩
/-- A list of values that are so. -/
theorem list_of {α : Type} {q : AV → Prop} {f : α → AV} {r : α → Prop} (hf : ∀ y, q y → ∃ a, y = f a ∧ r a) : ∀ xs : List AV, (∀ y ∈ xs, q y) → ∃ l : List α, xs = l.map f ∧ ∀ a ∈ l, r a
  | [], _ => ⟨[], rfl, by simp⟩
  | y :: xs, h => by
    obtain ⟨a, rfl, ha⟩ := hf y (h y List.mem_cons_self)
    obtain ⟨l, rfl, hl⟩ := list_of hf xs fun y hy => h y (List.mem_cons_of_mem _ hy)
    exact ⟨a :: l, rfl, by simpa using ⟨ha, hl⟩⟩
end Go.AL
/-! A call that works on some of what is known, under other numbers: the rest stays as it is. -/
namespace Go.AL
open Go.RowKit (Below)
set_option linter.unusedVariables false
set_option linter.unusedSimpArgs false
variable {P : Program} {σ : ASt}
mutual
/-- The same, by other numbers. -/
def ren (ρ : Nat → Nat) : AV → AV
  | .p x => .p x
  | .agg cs => .agg (rens ρ cs)
  | .tup cs => .tup (rens ρ cs)
  | .ptr b off => .ptr (ρ b) off
  | .vsl xs => .vsl (rens ρ xs)
  | .vel xs i off => .vel (rens ρ xs) i off
  | .hsl b off len => .hsl (ρ b) off len
  | .hel b i off => .hel (ρ b) i off
  | .map m => .map (ρ m)
  | .it m => .it (ρ m)
  | .yld m => .yld (ρ m)
  | .vmp ks vs => .vmp (rens ρ ks) (rens ρ vs)
  | .ob o => .ob o
  | .fn f aa bs => .fn f (rens ρ aa) (rens ρ bs)
  | .ifc t v => .ifc t (ren ρ v)
  | .opt b v => .opt b (ren ρ v)
  | .any => .any
def rens (ρ : Nat → Nat) : List AV → List AV
  | [] => []
  | x :: xs => ren ρ x :: rens ρ xs
end
theorem rens_map (ρ : Nat → Nat) : ∀ l, rens ρ l = l.map (ren ρ)
  | [] => rfl
  | x :: xs => by rw [rens, rens_map ρ xs]; rfl
theorem rens_get (ρ : Nat → Nat) (l : List AV) (i : Nat) : (rens ρ l)[i]? = (l[i]?).map (ren ρ) := by rw [rens_map, List.getElem?_map]
theorem ren_cells (ρ : Nat → Nat) (x : AV) : (ren ρ x).cells = rens ρ x.cells := by
  cases x <;> simp [ren, AV.cells, rens]
theorem ren_rowCell (ρ : Nat → Nat) (xs : List AV) (i j : Nat) : rowCell (rens ρ xs) i j = (rowCell xs i j).map (ren ρ) := by
  unfold rowCell
  rw [rens_get]
  cases xs[i]? with
  | none => rfl
  | some x => simp only [Option.map_some, Option.bind_some, ren_cells, rens_get]
theorem rens_len (ρ : Nat → Nat) (l : List AV) : (rens ρ l).length = l.length := by rw [rens_map, List.length_map]
theorem ren_closed (ρ : Nat → Nat) : ∀ {x : AV}, Cl x → ren ρ x = x := by
  have key : ∀ l : List AV, (∀ c ∈ l, Cl c → ren ρ c = c) → (∀ c ∈ l, Cl c) → rens ρ l = l := fun l h1 h2 => by
    rw [rens_map]; conv => rhs; rw [← List.map_id l]
    exact List.map_congr_left fun c hc => h1 c hc (h2 c hc)
  intro x h
  induction h with
  | p x => rfl
  | agg cs h ih => simp only [ren]; rw [key cs (fun c hc _ => ih c hc) h]
  | tup cs h ih => simp only [ren]; rw [key cs (fun c hc _ => ih c hc) h]
  | vsl cs h ih => simp only [ren]; rw [key cs (fun c hc _ => ih c hc) h]
  | vel cs i off h ih => simp only [ren]; rw [key cs (fun c hc _ => ih c hc) h]
  | fn f aa bs h1 h2 ih1 ih2 => simp only [ren]; rw [key aa (fun c hc _ => ih1 c hc) h1, key bs (fun c hc _ => ih2 c hc) h2]
  | ifc t v h ih => simp only [ren]; rw [ih]
  | opt b v h ih => simp only [ren]; rw [ih]
  | any => rfl
  | ob o => rfl
  | vmp ks vs h1 h2 ih1 ih2 => simp only [ren]; rw [key ks (fun c hc _ => ih1 c hc) h1, key vs (fun c hc _ => ih2 c hc) h2]
/-- What is so by one ghost is so by another that has the same things under other numbers. -/
theorem Rep.ren_to {G G' : Ghost} {w : World} {ρ : Nat → Nat} (hb : ∀ i β, G.bx i = some β → G'.bx (ρ i) = some β) (hm : ∀ i β, G.mp i = some β → G'.mp (ρ i) = some β) (hs : ∀ i r, G.sl i = some r → G'.sl (ρ i) = some r)
    (hst : ∀ β o, G.st β o → (∃ v, w.cell? ⟨β, o, none⟩ = some v) ∨ o = 0 → G'.st β o) {x : AV} {v : Value} (h : Rep G w x v) : Rep G' w (ren ρ x) v := by
  induction h with
  | p x => exact .p x
  | agg cs vs hsz _ ih =>
    exact .agg _ vs (by rw [rens_len]; exact hsz) fun i c v hc hv => by
      rw [rens_get] at hc; obtain ⟨c', hc', rfl⟩ := Option.map_eq_some_iff.1 hc; exact ih i c' v hc' hv
  | tup cs vs hsz _ ih =>
    exact .tup _ vs (by rw [rens_len]; exact hsz) fun i c v hc hv => by
      rw [rens_get] at hc; obtain ⟨c', hc', rfl⟩ := Option.map_eq_some_iff.1 hc; exact ih i c' v hc' hv
  | ptr b off β h => exact .ptr _ off β (hb _ _ h)
  | vnil a cap => exact .vnil a cap
  | vsl xs β o s cap val hcap hsz h _ ih =>
    have := Rep.vsl (G := G') (w := w) (rens ρ xs) β o s cap val (by rw [rens_len]; exact hcap) (fun i x hx => by
      rw [rens_get] at hx; obtain ⟨c', hc', rfl⟩ := Option.map_eq_some_iff.1 hx; rw [ren_cells, rens_len]; exact hsz i c' hc') (fun i j c hc => by
      rw [ren_rowCell] at hc; obtain ⟨c', hc', rfl⟩ := Option.map_eq_some_iff.1 hc
      exact ⟨hst _ _ (h i j c' hc').1 (.inl ⟨_, (h i j c' hc').2⟩), (h i j c' hc').2⟩) (fun i j c hc => by
      rw [ren_rowCell] at hc; obtain ⟨c', hc', rfl⟩ := Option.map_eq_some_iff.1 hc
      exact ih i j c' hc')
    rw [rens_len] at this
    exact this
  | vel xs i off β o s val hsz h _ ih =>
    exact Rep.vel (G := G') (w := w) (rens ρ xs) i off β o s val (fun i x hx => by
      rw [rens_get] at hx; obtain ⟨c', hc', rfl⟩ := Option.map_eq_some_iff.1 hx; rw [ren_cells, rens_len]; exact hsz i c' hc') (fun i j c hc => by
      rw [ren_rowCell] at hc; obtain ⟨c', hc', rfl⟩ := Option.map_eq_some_iff.1 hc
      exact ⟨hst _ _ (h i j c' hc').1 (.inl ⟨_, (h i j c' hc').2⟩), (h i j c' hc').2⟩) (fun i j c hc => by
      rw [ren_rowCell] at hc; obtain ⟨c', hc', rfl⟩ := Option.map_eq_some_iff.1 hc
      exact ih i j c' hc')
  | hsl b off len β o s cap h hle => exact .hsl _ off len β o s cap (hs _ _ h) hle
  | hend b off a β o s cap h hle => exact .hend _ off a β o s cap (hs _ _ h) hle
  | hnil b a h => exact .hnil _ a (hs _ _ h)
  | hel b i off β o s cap h => exact .hel _ i off β o s cap (hs _ _ h)
  | map m μ h => exact .map _ μ (hm _ _ h)
  | it m μ h => exact .it _ μ (hm _ _ h)
  | yld m μ h => exact .yld _ μ (hm _ _ h)
  | vmp ks vs μ clock ents h1 h2 h3 h4 _ _ h7 h8 ih5 ih6 =>
    exact .vmp _ _ μ clock ents (hst _ _ h1 (.inr rfl)) h2 (by rw [rens_len]; exact h3) (by rw [rens_len]; exact h4) (fun i c e hc he => by
      rw [rens_get] at hc; obtain ⟨c', hc', rfl⟩ := Option.map_eq_some_iff.1 hc; exact ih5 i c' e hc' he) (fun i c e hc he => by
      rw [rens_get] at hc; obtain ⟨c', hc', rfl⟩ := Option.map_eq_some_iff.1 hc; exact ih6 i c' e hc' he) h7 h8
  | fn f aa bs us vs h1 h2 _ _ ih3 ih4 =>
    exact .fn f _ _ us vs (by rw [rens_len]; exact h1) (by rw [rens_len]; exact h2) (fun i c v hc hv => by
      rw [rens_get] at hc; obtain ⟨c', hc', rfl⟩ := Option.map_eq_some_iff.1 hc; exact ih3 i c' v hc' hv) (fun i c v hc hv => by
      rw [rens_get] at hc; obtain ⟨c', hc', rfl⟩ := Option.map_eq_some_iff.1 hc; exact ih4 i c' v hc' hv)
  | ifc t c v _ ih => exact .ifc t _ v ih
  | opt b c v _ h0 ih => exact .opt b _ v ih h0
  | any v => exact .any v
/-- And back. -/
theorem Rep.ren_of {G G' : Ghost} {w : World} {ρ : Nat → Nat} (hb : ∀ i, G.bx i = G'.bx (ρ i)) (hm : ∀ i, G.mp i = G'.mp (ρ i)) (hs : ∀ i, G.sl i = G'.sl (ρ i)) (hst : ∀ β o, G'.st β o → G.st β o) :
    ∀ (n : Nat) (x : AV), SizeOf.sizeOf x ≤ n → ∀ v, Rep G' w (ren ρ x) v → Rep G w x v := by
  intro n
  induction n with
  | zero => intro x hx; cases x <;> simp at hx
  | succ n ih =>
    intro x hx v h
    have mem : ∀ {l : List AV} {i : Nat} {c : AV}, l[i]? = some c → SizeOf.sizeOf c < SizeOf.sizeOf l := fun {l i c} hc => List.sizeOf_lt_of_mem (List.mem_of_getElem? hc)
    have memc : ∀ {l : List AV} {i j : Nat} {c : AV}, rowCell l i j = some c → SizeOf.sizeOf c ≤ SizeOf.sizeOf l := fun {l i j c} hc => by
      unfold rowCell at hc
      obtain ⟨y, h1, h2⟩ := Option.bind_eq_some_iff.1 hc
      have h3 := mem h1
      cases y <;> simp only [AV.cells] at h2 <;> first
        | (have h4 := mem h2; simp at h3 h4; omega)
        | (rcases j with _ | j
           · cases h2; omega
           · simp at h2)
    cases x with
    | p y => exact (by cases h; exact .p _)
    | agg cs =>
      simp only [ren] at h
      simp at hx
      cases h with
      | agg _ vs hsz hr => exact .agg cs vs (by rw [rens_len] at hsz; exact hsz) fun i c u hc hu => ih c (by have := mem hc; omega) u (hr i (ren ρ c) u (by rw [rens_get, hc]; rfl) hu)
    | tup cs =>
      simp only [ren] at h
      simp at hx
      cases h with
      | tup _ vs hsz hr => exact .tup cs vs (by rw [rens_len] at hsz; exact hsz) fun i c u hc hu => ih c (by have := mem hc; omega) u (hr i (ren ρ c) u (by rw [rens_get, hc]; rfl) hu)
    | ptr b off => cases h with | ptr _ _ β e => exact .ptr b off β (by rw [hb]; exact e)
    | vsl xs =>
      simp only [ren] at h
      simp at hx
      generalize hy : rens ρ xs = ys at h
      cases h with
      | vnil a cap =>
        have : xs = [] := by cases xs with | nil => rfl | cons => simp [rens] at hy
        subst this; exact .vnil a cap
      | vsl _ β o s cap val hcap hsz hc hr =>
        subst hy
        rw [rens_len] at hcap ⊢
        exact .vsl xs β o s cap val hcap (fun i x hx => by
          have := hsz i (ren ρ x) (by rw [rens_get, hx]; rfl)
          rw [ren_cells, rens_len] at this; exact this) (fun i j c e => by
          have := hc i j (ren ρ c) (by rw [ren_rowCell, e]; rfl)
          exact ⟨hst _ _ this.1, this.2⟩) (fun i j c e => ih c (by have := memc e; omega) _ (hr i j (ren ρ c) (by rw [ren_rowCell, e]; rfl)))
    | vel xs i off =>
      simp only [ren] at h
      simp at hx
      cases h with
      | vel _ _ _ β o s val hsz hc hr =>
        exact .vel xs i off β o s val (fun i x hx => by
          have := hsz i (ren ρ x) (by rw [rens_get, hx]; rfl)
          rw [ren_cells, rens_len] at this; exact this) (fun i j c e => by
          have := hc i j (ren ρ c) (by rw [ren_rowCell, e]; rfl)
          exact ⟨hst _ _ this.1, this.2⟩) (fun i j c e => ih c (by have := memc e; omega) _ (hr i j (ren ρ c) (by rw [ren_rowCell, e]; rfl)))
    | hsl b off len =>
      simp only [ren] at h
      cases h with
      | hsl _ _ _ β o s cap e hle => exact .hsl b off len β o s cap (by rw [hs]; exact e) hle
      | hend _ _ a β o s cap e hle => exact .hend b off a β o s cap (by rw [hs]; exact e) hle
      | hnil _ a e => exact .hnil b a (by rw [hs]; exact e)
    | hel b i off => cases h with | hel _ _ _ β o s cap e => exact .hel b i off β o s cap (by rw [hs]; exact e)
    | map m => cases h with | map _ μ e => exact .map m μ (by rw [hm]; exact e)
    | it m => cases h with | it _ μ e => exact .it m μ (by rw [hm]; exact e)
    | yld m => cases h with | yld _ μ e => exact .yld m μ (by rw [hm]; exact e)
    | ob o => cases h
    | vmp ks vs =>
      simp only [ren] at h
      simp at hx
      cases h with
      | vmp _ _ μ clock ents h1 h2 h3 h4 h5 h6 h7 h8 =>
        exact .vmp ks vs μ clock ents (hst _ _ h1) h2 (by rw [rens_len] at h3; exact h3) (by rw [rens_len] at h4; exact h4) (fun i c e hc he => ih c (by have := mem hc; omega) _ (h5 i (ren ρ c) e (by rw [rens_get, hc]; rfl) he)) (fun i c e hc he => ih c (by have := mem hc; omega) _ (h6 i (ren ρ c) e (by rw [rens_get, hc]; rfl) he)) h7 h8
    | fn f aa bs =>
      simp only [ren] at h
      simp at hx
      cases h with
      | fn _ _ _ us vs h1 h2 h3 h4 =>
        exact .fn f aa bs us vs (by rw [rens_len] at h1; exact h1) (by rw [rens_len] at h2; exact h2) (fun i c u hc hu => ih c (by have := mem hc; omega) u (h3 i (ren ρ c) u (by rw [rens_get, hc]; rfl) hu))
          (fun i c u hc hu => ih c (by have := mem hc; omega) u (h4 i (ren ρ c) u (by rw [rens_get, hc]; rfl) hu))
    | ifc t c =>
      simp only [ren] at h
      simp at hx
      cases h with | ifc _ _ u e => exact .ifc t c u (ih c (by omega) u e)
    | opt b c =>
      simp only [ren] at h
      simp at hx
      cases h with | opt _ _ u e e0 => exact .opt b c v (fun hb => ih c (by omega) v (e hb)) e0
    | any => exact .any v
end Go.AL
