/- Parts of the proof of MonoHolds: the logic, contracts, plain laws. -/
import Derived.Test.YtjldlcakinmajaaZMonoHolds8
import Derived.ChangeArms
import Derived.WideShapes
import Derived.Deep.Slices
/-! Arguments of any shape: whole numbers, bools, texts, structs, slices, one in another. -/
namespace Go.AL
open Go.RowKit (Below)
open Go.ChangeShapes Go.WideShapes
set_option linter.unusedVariables false
set_option linter.unusedSimpArgs false
variable {P : Program}
/-- A value is of a type, bs deep bs this. -/
def hasF (P : Program) : Nat → TypeId → AV → Prop
  | 0, _, _ => False
  | n + 1, t, x =>
    match P.underlying t with
    | some (.int k) => ∃ z, x = .p (.int k z) ∧ (Lit.int k z).wf = true
    | some .bool => ∃ b, x = .p (.bool b)
    | some .string => ∃ s : ByteArray, x = .p (.string s) ∧ s.size ≤ maxLen
    | some (.struct fs) => ∃ cs, x = .agg cs ∧ cs.length = P.cellsOf t ∧ ∀ f ∈ fs.toList, ∃ y, hasF P n f.type y ∧ y.cells = (cs.drop f.offset).take (P.cellsOf f.type)
    | some (.slice e) => ∃ xs, x = .vsl xs ∧ xs.length ≤ maxLen ∧ ∀ y ∈ xs, hasF P n e y
    | _ => False
def HasT (P : Program) (t : TypeId) (x : AV) : Prop := ∃ n, hasF P n t x
/-- Are these types of such kinds, all of them, and do fields stand one behind the other? -/
def tile (P : Program) : Nat → List Field → Option Nat
  | o, [] => some o
  | o, f :: fs => if f.offset = o then tile P (o + P.cellsOf f.type) fs else none
def kindsB (P : Program) (S : List TypeId) : Bool :=
  S.all fun t => match P.underlying t with
    | some (.int _) => P.cellsOf t == 1
    | some .bool => P.cellsOf t == 1
    | some .string => P.cellsOf t == 1
    | some (.struct fs) => fs.toList.all (fun f => S.contains f.type) && tile P 0 fs.toList == some (P.cellsOf t)
    | some (.slice e) => S.contains e && decide (0 < P.cellsOf e ∧ P.cellsOf t = 1)
    | _ => false
section
variable {H : Type} {enc : TypeId × Value → H} {W : World}
/-- Cells, and what they are. -/
def CRep (W : World) (x : AV) (cs : List Value) : Prop := x.cells.length = cs.length ∧ ∀ (i : Nat) c v, x.cells[i]? = some c → cs[i]? = some v → Rep (G0 W) W c v
theorem rep_rowsG {β o k len cap : Nat} (cs : Nat → List Value) (F : Nat → AV) (hle : len ≤ cap) (hk : ∀ i, i < len → (F i).cells.length = k) (hl : ∀ i, i < len → (cs i).length = k)
    (hc : ∀ i, i < len → ∀ j v, (cs i)[j]? = some v → W.cell? ⟨β, o + (i * k + j), none⟩ = some v) (hr : ∀ i, i < len → ∀ (j : Nat) c v, (F i).cells[j]? = some c → (cs i)[j]? = some v → Rep (G0 W) W c v) :
    Rep (G0 W) W (.vsl ((List.range len).map F)) (.slice (some ⟨β, o, none⟩) len cap) := by
  have at_ : ∀ (i j : Nat) c, rowCell ((List.range len).map F) i j = some c → i < len ∧ (F i).cells[j]? = some c ∧ ∃ v, (cs i)[j]? = some v := by
    intro i j c h
    unfold rowCell at h
    obtain ⟨x, h1, h2⟩ := Option.bind_eq_some_iff.1 h
    rw [List.getElem?_map] at h1
    obtain ⟨i', h3, rfl⟩ := Option.map_eq_some_iff.1 h1
    obtain ⟨hl', he⟩ := List.getElem?_eq_some_iff.1 h3
    simp at hl' he
    subst he
    refine ⟨hl', h2, ?_⟩
    have hj : j < (cs i).length := by rw [hl i hl', ← hk i hl']; exact (List.getElem?_eq_some_iff.1 h2).1
    exact ⟨_, List.getElem?_eq_getElem hj⟩
  have key := Rep.vsl (G := G0 W) (w := W) ((List.range len).map F) β o k cap (fun i j => (cs i).getD j undef) (by simpa using hle)
    (fun i x hx => by
      rw [List.getElem?_map] at hx
      obtain ⟨i', h3, rfl⟩ := Option.map_eq_some_iff.1 hx
      obtain ⟨hl', he⟩ := List.getElem?_eq_some_iff.1 h3
      simp at hl' he
      subst he
      exact hk i hl')
    (fun i j c h => by
      obtain ⟨hi, _, v, hv⟩ := at_ i j c h
      have := hc i hi j v hv
      rw [Nat.add_assoc]
      exact ⟨cell_lt this, by rw [this, List.getD, hv]; rfl⟩)
    (fun i j c h => by
      obtain ⟨hi, hcc, v, hv⟩ := at_ i j c h
      have e : (cs i).getD j undef = v := by rw [List.getD, hv]; rfl
      rw [e]
      exact hr i hi j c v hcc hv)
  simpa using key
theorem tile_ge {P : Program} : ∀ (fs : List Field) (o n : Nat), tile P o fs = some n → o ≤ n ∧ ∀ f ∈ fs, o ≤ f.offset
  | [], o, n, h => by obtain rfl := Option.some.inj h; exact ⟨Nat.le_refl _, by simp⟩
  | f :: fs, o, n, h => by
    unfold tile at h
    split at h
    · rename_i he
      obtain ⟨h1, h2⟩ := tile_ge fs _ n h
      refine ⟨by omega, fun g hg => ?_⟩
      rcases List.mem_cons.1 hg with rfl | hg
      · omega
      · have := h2 g hg; omega
    · cases h
theorem fields_has {P : Program} {n : Nat} {cs : List Value} (S : List TypeId)
    (ih : ∀ t cs, t ∈ S → cs.length = P.cellsOf t → (∃ y, DataW.trod enc P W 0 (fun _ => true) true n t cs = some y) → ∃ x, hasF P n t x ∧ CRep W x cs) :
    ∀ (fs : List Field) (o : Nat), tile P o fs = some cs.length → (∀ f ∈ fs, f.type ∈ S) → (∀ f ∈ fs, ∃ y, DataW.trod enc P W 0 (fun _ => true) true n f.type ((cs.drop f.offset).take (P.cellsOf f.type)) = some y) →
      ∃ bs : List AV, bs.length = cs.length - o ∧ (∀ (i : Nat) c v, bs[i]? = some c → (cs.drop o)[i]? = some v → Rep (G0 W) W c v) ∧ ∀ f ∈ fs, ∃ y, hasF P n f.type y ∧ y.cells = (bs.drop (f.offset - o)).take (P.cellsOf f.type)
  | [], o, h, _, _ => by
    obtain rfl := Option.some.inj h
    exact ⟨[], by simp, by simp, by simp⟩
  | f :: fs, o, h, hS, ht => by
    unfold tile at h
    split at h
    · rename_i he
      obtain ⟨hle, hge⟩ := tile_ge fs _ _ h
      have hlen : ((cs.drop f.offset).take (P.cellsOf f.type)).length = P.cellsOf f.type := by rw [List.length_take, List.length_drop]; omega
      obtain ⟨x, hx, hxl, hxr⟩ := ih f.type _ (hS f List.mem_cons_self) hlen (ht f List.mem_cons_self)
      obtain ⟨bs, h1, h2, h3⟩ := fields_has S ih fs (o + P.cellsOf f.type) h (fun g hg => hS g (List.mem_cons_of_mem _ hg)) (fun g hg => ht g (List.mem_cons_of_mem _ hg))
      rw [hlen] at hxl
      refine ⟨x.cells ++ bs, by rw [List.length_append, hxl, h1]; omega, fun i c v hc hv => ?_, fun g hg => ?_⟩
      · by_cases hi : i < P.cellsOf f.type
        · rw [List.getElem?_append_left (by omega)] at hc
          refine hxr i c v hc ?_
          rw [List.getElem?_take, if_pos hi, he]; exact hv
        · rw [List.getElem?_append_right (by omega), hxl] at hc
          refine h2 _ c v hc ?_
          rw [List.getElem?_drop] at hv ⊢
          rw [show o + P.cellsOf f.type + (i - P.cellsOf f.type) = o + i by omega]; exact hv
      · rcases List.mem_cons.1 hg with rfl | hg
        · refine ⟨x, hx, ?_⟩
          rw [he, Nat.sub_self, List.drop_zero, List.take_append_of_le_length (by omega), List.take_of_length_le (by omega)]
        · obtain ⟨y, hy, hyc⟩ := h3 g hg
          have := hge g hg
          refine ⟨y, hy, ?_⟩
          rw [hyc, List.drop_append, show x.cells.drop (g.offset - o) = [] from List.drop_eq_nil_of_le (by omega), List.nil_append, hxl]
          congr 2
          omega
    · cases h
theorem trod_has {P : Program} {S : List TypeId} (hS : kindsB P S = true) : ∀ (n : Nat) (t : TypeId) (cs : List Value), t ∈ S → cs.length = P.cellsOf t → (∃ y, DataW.trod enc P W 0 (fun _ => true) true n t cs = some y) → ∃ x, hasF P n t x ∧ CRep W x cs := by
  intro n
  induction n with
  | zero => intro t cs _ _ ⟨y, h⟩; simp [DataW.trod] at h
  | succ n ih =>
    intro t cs ht hl ⟨y, h⟩
    have hk := List.all_eq_true.1 hS t ht
    cases hu : P.underlying t with
    | none => rw [hu] at hk; cases hk
    | some d =>
      rw [hu] at hk
      unfold hasF
      rw [hu]
      cases d with
      | int k =>
        obtain ⟨z, rfl, _, hw⟩ := DataW.trod_int hu h
        exact ⟨_, ⟨z, rfl, hw⟩, rfl, fun i c v hc hv => by
          rcases i with _ | i
          · cases hc; cases hv; exact .p _
          · simp at hv⟩
      | bool =>
        obtain ⟨z, rfl, _⟩ := DataW.trod_bool hu h
        exact ⟨_, ⟨z, rfl⟩, rfl, fun i c v hc hv => by
          rcases i with _ | i
          · cases hc; cases hv; exact .p _
          · simp at hv⟩
      | string =>
        obtain ⟨z, rfl, _, hw⟩ := DataW.trod_string hu h
        exact ⟨_, ⟨z, rfl, hw⟩, rfl, fun i c v hc hv => by
          rcases i with _ | i
          · cases hc; cases hv; exact .p _
          · simp at hv⟩
      | struct fs =>
        simp only [Bool.and_eq_true, beq_iff_eq] at hk
        obtain ⟨xs, m, hm, _, _, hxl, hf⟩ := DataW.trod_struct hu h
        obtain rfl : n = m := by omega
        obtain ⟨bs, h1, h2, h3⟩ := fields_has (enc := enc) S ih fs.toList 0 (by rw [hk.2, hl]) (fun f hf => by simpa using List.all_eq_true.1 hk.1 f hf) (fun f hff => by
          obtain ⟨i, hi, rfl⟩ := List.getElem_of_mem hff
          have hi' : i < fs.size := by simpa using hi
          have := hf i fs[i] (Array.getElem?_eq_getElem hi')
          rw [List.getElem?_eq_getElem (by omega)] at this
          exact ⟨_, by simpa using this⟩)
        simp only [Nat.sub_zero, List.drop_zero] at h1 h2 h3
        exact ⟨.agg bs, ⟨bs, rfl, by omega, h3⟩, h1, h2⟩
      | slice e =>
        simp only [Bool.and_eq_true, decide_eq_true_eq] at hk
        have he : e ∈ S := by simpa using hk.1
        rcases DataW.trod_slice hu h with ⟨rfl, _⟩ | ⟨a, len, cap, elems, rest, n', hn', rfl, _, _, hle, hmx, hlen, hel, _, _⟩
        · exact ⟨_, ⟨[], rfl, by simp, by simp⟩, rfl, fun i c v hc hv => by
            rcases i with _ | i
            · cases hc; cases hv; exact .vnil _ _
            · simp at hv⟩
        · obtain rfl : n = n' := by omega
          obtain ⟨V, hV⟩ := Go.Deep.choose_lt (α := AV × List Value) (n := len) (p := fun i q => hasF P n e q.1 ∧ CRep W q.1 q.2 ∧ q.2.length = P.cellsOf e ∧ ∀ j v, q.2[j]? = some v → W.cell? ((a.add (i * P.cellsOf e)).add j) = some v) (fun i hi => by
            have h0 := hel i hi
            rw [List.getElem?_eq_getElem (by omega)] at h0
            obtain ⟨cs', h1, h2⟩ := Option.bind_eq_some_iff.1 h0
            obtain ⟨_, hl', hc⟩ := World.cells?_some h1
            obtain ⟨x, hx, hr⟩ := ih e cs' he hl' ⟨_, h2⟩
            refine ⟨(x, cs'), hx, hr, hl', fun j v hj => ?_⟩
            have hjk : j < P.cellsOf e := by rw [← hl']; exact (List.getElem?_eq_some_iff.1 hj).1
            have := hc j hjk
            rw [hj] at this
            exact this)
          refine ⟨.vsl ((List.range len).map fun i => (V i).1), ⟨_, rfl, by simp; omega, fun y hy => ?_⟩, rfl, fun i c v hc hv => ?_⟩
          · obtain ⟨i, hi, rfl⟩ := List.mem_map.1 hy
            exact (hV i (List.mem_range.1 hi)).1
          · rcases i with _ | i
            · cases hc; cases hv
              rcases Nat.eq_zero_or_pos len with h0 | hpos
              · subst h0; exact .vnil _ _
              · obtain ⟨β, o, spot⟩ := a
                obtain ⟨_, _, h3, h4⟩ := hV 0 hpos
                obtain rfl : spot = none := by
                  have hj : (V 0).2[0]? = some ((V 0).2[0]'(by omega)) := List.getElem?_eq_getElem (by omega)
                  simpa [Addr.add] using World.cell?_spot (h4 0 _ hj)
                refine rep_rowsG (k := P.cellsOf e) (fun i => (V i).2) (fun i => (V i).1) hle (fun i hi => by rw [(hV i hi).2.1.1, (hV i hi).2.2.1]) (fun i hi => (hV i hi).2.2.1) (fun i hi j v hj => ?_) (fun i hi j c v hc hv => (hV i hi).2.1.2 j c v hc hv)
                have := (hV i hi).2.2.2 j v hj
                rw [Addr.add_lit, Addr.add_lit, Nat.add_assoc] at this
                exact this
            · simp at hv
      | _ => cases hk
/-- An argument, whatever its shape. -/
theorem open_has {P : Program} {S : List TypeId} (hS : kindsB P S = true) {t : TypeId} (ht : t ∈ S) {ps : List MemPlace} {d : DataW H} {v : Value} {b0 : Nat} (hv : Value.okWide P W .any b0 t v) (h : DataW.Trod enc P W 0 (fun _ => true) true t v d ps) : ∃ x, HasT P t x ∧ Rep (G0 W) W x v := by
  obtain ⟨n, h⟩ := h
  have hk := List.all_eq_true.1 hS t ht
  cases hu : P.underlying t with
  | none => rw [hu] at hk; cases hk
  | some q =>
    rw [hu] at hk
    have one : ∀ {x : AV}, v.cells.toList = [v] → (∀ cs, x ≠ .agg cs) → CRep W x v.cells.toList → Rep (G0 W) W x v := by
      intro x h1 h2 h3
      rw [h1] at h3
      have : x.cells = [x] := by cases x <;> first | rfl | exact absurd rfl (h2 _)
      exact h3.2 0 x v (by rw [this]; rfl) rfl
    cases q with
    | int k =>
      obtain ⟨z, rfl⟩ := okWide_int hu hv
      obtain ⟨x, hx, hr⟩ := trod_has hS n t _ ht (by simpa [Value.cells] using (by simpa using hk : P.cellsOf t = 1).symm) ⟨_, h⟩
      refine ⟨x, ⟨n, hx⟩, one rfl ?_ hr⟩
      cases n with
      | zero => exact hx.elim
      | succ n => unfold hasF at hx; rw [hu] at hx; obtain ⟨z, rfl, _⟩ := hx; exact fun cs h => by cases h
    | bool =>
      obtain ⟨z, rfl⟩ := okWide_bool hu hv
      obtain ⟨x, hx, hr⟩ := trod_has hS n t _ ht (by simpa [Value.cells] using (by simpa using hk : P.cellsOf t = 1).symm) ⟨_, h⟩
      refine ⟨x, ⟨n, hx⟩, one rfl ?_ hr⟩
      cases n with
      | zero => exact hx.elim
      | succ n => unfold hasF at hx; rw [hu] at hx; obtain ⟨z, rfl⟩ := hx; exact fun cs h => by cases h
    | string =>
      obtain ⟨z, rfl⟩ := okWide_string hu hv
      obtain ⟨x, hx, hr⟩ := trod_has hS n t _ ht (by simpa [Value.cells] using (by simpa using hk : P.cellsOf t = 1).symm) ⟨_, h⟩
      refine ⟨x, ⟨n, hx⟩, one rfl ?_ hr⟩
      cases n with
      | zero => exact hx.elim
      | succ n => unfold hasF at hx; rw [hu] at hx; obtain ⟨z, rfl, _⟩ := hx; exact fun cs h => by cases h
    | slice e =>
      obtain ⟨a, len, cap, rfl⟩ := okWide_slice hu hv
      have hc1 : P.cellsOf t = 1 := by simp only [Bool.and_eq_true, decide_eq_true_eq] at hk; exact hk.2.2
      obtain ⟨x, hx, hr⟩ := trod_has hS n t _ ht (by simpa [Value.cells] using hc1.symm) ⟨_, h⟩
      refine ⟨x, ⟨n, hx⟩, one rfl ?_ hr⟩
      cases n with
      | zero => exact hx.elim
      | succ n => unfold hasF at hx; rw [hu] at hx; obtain ⟨z, rfl, _⟩ := hx; exact fun cs h => by cases h
    | struct fs =>
      obtain ⟨cs, rfl, hsz⟩ := okWide_struct hu hv
      obtain ⟨x, hx, hr⟩ := trod_has hS n t _ ht (by simpa [Value.cells] using hsz) ⟨_, h⟩
      cases n with
      | zero => exact hx.elim
      | succ n =>
        have hx' := hx
        unfold hasF at hx; rw [hu] at hx
        obtain ⟨bs, rfl, _⟩ := hx
        exact ⟨_, ⟨n + 1, hx'⟩, .agg bs cs (by simpa [Value.cells, AV.cells] using hr.1) fun i c v hc hv => hr.2 i c v hc (by simpa [Value.cells] using hv)⟩
    | _ => cases hk
end
end Go.AL
