/- Parts of the proof of EvalTells: the logic, contracts, plain laws. -/
import Derived.Test.YtjldlcakinmajaaGreatZEvalTells8
import Derived.ChangeArms
import Derived.WideShapes
import Derived.Deep.Slices
import Derived.Test.YtjldlcakinmajaaGreatZEvalTells5
import Derived.Test.YtjldlcakinmajaaGreatProg
import Derived.Test.YtjldlcakinmajaaGreatZEvalTells7
/-! Arguments of any shape: whole numbers, bools, texts, structs, slices, one in another. -/
namespace Go.AL
open Go.RowKit (Below)
open Go.ChangeShapes Go.WideShapes
set_option linter.unusedVariables false
set_option linter.unusedSimpArgs false
variable {P : Program}
/-- A value is of a type, bs deep bs this. -/
def hasF (P : Program) : Nat → TypeId → AV → Prop
  | 0, _, _ => False
  | n + 1, t, x =>
    match P.underlying t with
    | some (.int k) => ∃ z, x = .p (.int k z) ∧ (Lit.int k z).wf = true
    | some .bool => ∃ b, x = .p (.bool b)
    | some .string => ∃ s : ByteArray, x = .p (.string s) ∧ s.size ≤ maxLen
    | some (.struct fs) => ∃ cs, x = .agg cs ∧ cs.length = P.cellsOf t ∧ ∀ f ∈ fs.toList, ∃ y, hasF P n f.type y ∧ y.cells = (cs.drop f.offset).take (P.cellsOf f.type)
    | some (.slice e) => ∃ xs, x = .vsl xs ∧ xs.length ≤ maxLen ∧ ∀ y ∈ xs, hasF P n e y
    | _ => False
def HasT (P : Program) (t : TypeId) (x : AV) : Prop := ∃ n, hasF P n t x
/-- Are these types of such kinds, all of them, and do fields stand one behind the other? -/
def tile (P : Program) : Nat → List Field → Option Nat
  | o, [] => some o
  | o, f :: fs => if f.offset = o then tile P (o + P.cellsOf f.type) fs else none
def kindsB (P : Program) (S : List TypeId) : Bool :=
  S.all fun t => match P.underlying t with
    | some (.int _) => P.cellsOf t == 1
    | some .bool => P.cellsOf t == 1
    | some .string => P.cellsOf t == 1
    | some (.struct fs) => fs.toList.all (fun f => S.contains f.type) && tile P 0 fs.toList == some (P.cellsOf t)
    | some (.slice e) => S.contains e && decide (0 < P.cellsOf e ∧ P.cellsOf t = 1)
    | _ => false
section
variable {H : Type} {enc : TypeId × Value → H} {W : World}
/-- Cells, and what they are. -/
def CRep (W : World) (x : AV) (cs : List Value) : Prop := x.cells.length = cs.length ∧ ∀ (i : Nat) c v, x.cells[i]? = some c → cs[i]? = some v → Rep (G0 W) W c v
theorem rep_rowsG {β o k len cap : Nat} (cs : Nat → List Value) (F : Nat → AV) (hle : len ≤ cap) (hk : ∀ i, i < len → (F i).cells.length = k) (hl : ∀ i, i < len → (cs i).length = k)
    (hc : ∀ i, i < len → ∀ j v, (cs i)[j]? = some v → W.cell? ⟨β, o + (i * k + j), none⟩ = some v) (hr : ∀ i, i < len → ∀ (j : Nat) c v, (F i).cells[j]? = some c → (cs i)[j]? = some v → Rep (G0 W) W c v) :
    Rep (G0 W) W (.vsl ((List.range len).map F)) (.slice (some ⟨β, o, none⟩) len cap) := by
  have at_ : ∀ (i j : Nat) c, rowCell ((List.range len).map F) i j = some c → i < len ∧ (F i).cells[j]? = some c ∧ ∃ v, (cs i)[j]? = some v := by
    intro i j c h
    unfold rowCell at h
    obtain ⟨x, h1, h2⟩ := Option.bind_eq_some_iff.1 h
    rw [List.getElem?_map] at h1
    obtain ⟨i', h3, rfl⟩ := Option.map_eq_some_iff.1 h1
    obtain ⟨hl', he⟩ := List.getElem?_eq_some_iff.1 h3
    simp at hl' he
    subst he
    refine ⟨hl', h2, ?_⟩
    have hj : j < (cs i).length := by rw [hl i hl', ← hk i hl']; exact (List.getElem?_eq_some_iff.1 h2).1
    exact ⟨_, List.getElem?_eq_getElem hj⟩
  have key := Rep.vsl (G := G0 W) (w := W) ((List.range len).map F) β o k cap (fun i j => (cs i).getD j undef) (by simpa using hle)
    (fun i x hx => by
      rw [List.getElem?_map] at hx
      obtain ⟨i', h3, rfl⟩ := Option.map_eq_some_iff.1 hx
      obtain ⟨hl', he⟩ := List.getElem?_eq_some_iff.1 h3
      simp at hl' he
      subst he
      exact hk i hl')
    (fun i j c h => by
      obtain ⟨hi, _, v, hv⟩ := at_ i j c h
      have := hc i hi j v hv
      rw [Nat.add_assoc]
      exact ⟨cell_lt this, by rw [this, List.getD, hv]; rfl⟩)
    (fun i j c h => by
      obtain ⟨hi, hcc, v, hv⟩ := at_ i j c h
      have e : (cs i).getD j undef = v := by rw [List.getD, hv]; rfl
      rw [e]
      exact hr i hi j c v hcc hv)
  simpa using key
theorem tile_ge {P : Program} : ∀ (fs : List Field) (o n : Nat), tile P o fs = some n → o ≤ n ∧ ∀ f ∈ fs, o ≤ f.offset
  | [], o, n, h => by obtain rfl := Option.some.inj h; exact ⟨Nat.le_refl _, by simp⟩
  | f :: fs, o, n, h => by
    unfold tile at h
    split at h
    · rename_i he
      obtain ⟨h1, h2⟩ := tile_ge fs _ n h
      refine ⟨by omega, fun g hg => ?_⟩
      rcases List.mem_cons.1 hg with rfl | hg
      · omega
      · have := h2 g hg; omega
    · cases h
theorem fields_has {P : Program} {n : Nat} {cs : List Value} (S : List TypeId)
    (ih : ∀ t cs, t ∈ S → cs.length = P.cellsOf t → (∃ y, DataW.trod enc P W 0 (fun _ => true) true n t cs = some y) → ∃ x, hasF P n t x ∧ CRep W x cs) :
    ∀ (fs : List Field) (o : Nat), tile P o fs = some cs.length → (∀ f ∈ fs, f.type ∈ S) → (∀ f ∈ fs, ∃ y, DataW.trod enc P W 0 (fun _ => true) true n f.type ((cs.drop f.offset).take (P.cellsOf f.type)) = some y) →
      ∃ bs : List AV, bs.length = cs.length - o ∧ (∀ (i : Nat) c v, bs[i]? = some c → (cs.drop o)[i]? = some v → Rep (G0 W) W c v) ∧ ∀ f ∈ fs, ∃ y, hasF P n f.type y ∧ y.cells = (bs.drop (f.offset - o)).take (P.cellsOf f.type)
  | [], o, h, _, _ => by
    obtain rfl := Option.some.inj h
    exact ⟨[], by simp, by simp, by simp⟩
  | f :: fs, o, h, hS, ht => by
    unfold tile at h
    split at h
    · rename_i he
      obtain ⟨hle, hge⟩ := tile_ge fs _ _ h
      have hlen : ((cs.drop f.offset).take (P.cellsOf f.type)).length = P.cellsOf f.type := by rw [List.length_take, List.length_drop]; omega
      obtain ⟨x, hx, hxl, hxr⟩ := ih f.type _ (hS f List.mem_cons_self) hlen (ht f List.mem_cons_self)
      obtain ⟨bs, h1, h2, h3⟩ := fields_has S ih fs (o + P.cellsOf f.type) h (fun g hg => hS g (List.mem_cons_of_mem _ hg)) (fun g hg => ht g (List.mem_cons_of_mem _ hg))
      rw [hlen] at hxl
      refine ⟨x.cells ++ bs, by rw [List.length_append, hxl, h1]; omega, fun i c v hc hv => ?_, fun g hg => ?_⟩
      · by_cases hi : i < P.cellsOf f.type
        · rw [List.getElem?_append_left (by omega)] at hc
          refine hxr i c v hc ?_
          rw [List.getElem?_take, if_pos hi, he]; exact hv
        · rw [List.getElem?_append_right (by omega), hxl] at hc
          refine h2 _ c v hc ?_
          rw [List.getElem?_drop] at hv ⊢
          rw [show o + P.cellsOf f.type + (i - P.cellsOf f.type) = o + i by omega]; exact hv
      · rcases List.mem_cons.1 hg with rfl | hg
        · refine ⟨x, hx, ?_⟩
          rw [he, Nat.sub_self, List.drop_zero, List.take_append_of_le_length (by omega), List.take_of_length_le (by omega)]
        · obtain ⟨y, hy, hyc⟩ := h3 g hg
          have := hge g hg
          refine ⟨y, hy, ?_⟩
          rw [hyc, List.drop_append, show x.cells.drop (g.offset - o) = [] from List.drop_eq_nil_of_le (by omega), List.nil_append, hxl]
          congr 2
          omega
    · cases h
theorem trod_has {P : Program} {S : List TypeId} (hS : kindsB P S = true) : ∀ (n : Nat) (t : TypeId) (cs : List Value), t ∈ S → cs.length = P.cellsOf t → (∃ y, DataW.trod enc P W 0 (fun _ => true) true n t cs = some y) → ∃ x, hasF P n t x ∧ CRep W x cs := by
  intro n
  induction n with
  | zero => intro t cs _ _ ⟨y, h⟩; simp [DataW.trod] at h
  | succ n ih =>
    intro t cs ht hl ⟨y, h⟩
    have hk := List.all_eq_true.1 hS t ht
    cases hu : P.underlying t with
    | none => rw [hu] at hk; cases hk
    | some d =>
      rw [hu] at hk
      unfold hasF
      rw [hu]
      cases d with
      | int k =>
        obtain ⟨z, rfl, _, hw⟩ := DataW.trod_int hu h
        exact ⟨_, ⟨z, rfl, hw⟩, rfl, fun i c v hc hv => by
          rcases i with _ | i
          · cases hc; cases hv; exact .p _
          · simp at hv⟩
      | bool =>
        obtain ⟨z, rfl, _⟩ := DataW.trod_bool hu h
        exact ⟨_, ⟨z, rfl⟩, rfl, fun i c v hc hv => by
          rcases i with _ | i
          · cases hc; cases hv; exact .p _
          · simp at hv⟩
      | string =>
        obtain ⟨z, rfl, _, hw⟩ := DataW.trod_string hu h
        exact ⟨_, ⟨z, rfl, hw⟩, rfl, fun i c v hc hv => by
          rcases i with _ | i
          · cases hc; cases hv; exact .p _
          · simp at hv⟩
      | struct fs =>
        simp only [Bool.and_eq_true, beq_iff_eq] at hk
        obtain ⟨xs, m, hm, _, _, hxl, hf⟩ := DataW.trod_struct hu h
        obtain rfl : n = m := by omega
        obtain ⟨bs, h1, h2, h3⟩ := fields_has (enc := enc) S ih fs.toList 0 (by rw [hk.2, hl]) (fun f hf => by simpa using List.all_eq_true.1 hk.1 f hf) (fun f hff => by
          obtain ⟨i, hi, rfl⟩ := List.getElem_of_mem hff
          have hi' : i < fs.size := by simpa using hi
          have := hf i fs[i] (Array.getElem?_eq_getElem hi')
          rw [List.getElem?_eq_getElem (by omega)] at this
          exact ⟨_, by simpa using this⟩)
        simp only [Nat.sub_zero, List.drop_zero] at h1 h2 h3
        exact ⟨.agg bs, ⟨bs, rfl, by omega, h3⟩, h1, h2⟩
      | slice e =>
        simp only [Bool.and_eq_true, decide_eq_true_eq] at hk
        have he : e ∈ S := by simpa using hk.1
        rcases DataW.trod_slice hu h with ⟨rfl, _⟩ | ⟨a, len, cap, elems, rest, n', hn', rfl, _, _, hle, hmx, hlen, hel, _, _⟩
        · exact ⟨_, ⟨[], rfl, by simp, by simp⟩, rfl, fun i c v hc hv => by
            rcases i with _ | i
            · cases hc; cases hv; exact .vnil _ _
            · simp at hv⟩
        · obtain rfl : n = n' := by omega
          obtain ⟨V, hV⟩ := Go.Deep.choose_lt (α := AV × List Value) (n := len) (p := fun i q => hasF P n e q.1 ∧ CRep W q.1 q.2 ∧ q.2.length = P.cellsOf e ∧ ∀ j v, q.2[j]? = some v → W.cell? ((a.add (i * P.cellsOf e)).add j) = some v) (fun i hi => by
            have h0 := hel i hi
            rw [List.getElem?_eq_getElem (by omega)] at h0
            obtain ⟨cs', h1, h2⟩ := Option.bind_eq_some_iff.1 h0
            obtain ⟨_, hl', hc⟩ := World.cells?_some h1
            obtain ⟨x, hx, hr⟩ := ih e cs' he hl' ⟨_, h2⟩
            refine ⟨(x, cs'), hx, hr, hl', fun j v hj => ?_⟩
            have hjk : j < P.cellsOf e := by rw [← hl']; exact (List.getElem?_eq_some_iff.1 hj).1
            have := hc j hjk
            rw [hj] at this
            exact this)
          refine ⟨.vsl ((List.range len).map fun i => (V i).1), ⟨_, rfl, by simp; omega, fun y hy => ?_⟩, rfl, fun i c v hc hv => ?_⟩
          · obtain ⟨i, hi, rfl⟩ := List.mem_map.1 hy
            exact (hV i (List.mem_range.1 hi)).1
          · rcases i with _ | i
            · cases hc; cases hv
              rcases Nat.eq_zero_or_pos len with h0 | hpos
              · subst h0; exact .vnil _ _
              · obtain ⟨β, o, spot⟩ := a
                obtain ⟨_, _, h3, h4⟩ := hV 0 hpos
                obtain rfl : spot = none := by
                  have hj : (V 0).2[0]? = some ((V 0).2[0]'(by omega)) := List.getElem?_eq_getElem (by omega)
                  simpa [Addr.add] using World.cell?_spot (h4 0 _ hj)
                refine rep_rowsG (k := P.cellsOf e) (fun i => (V i).2) (fun i => (V i).1) hle (fun i hi => by rw [(hV i hi).2.1.1, (hV i hi).2.2.1]) (fun i hi => (hV i hi).2.2.1) (fun i hi j v hj => ?_) (fun i hi j c v hc hv => (hV i hi).2.1.2 j c v hc hv)
                have := (hV i hi).2.2.2 j v hj
                rw [Addr.add_lit, Addr.add_lit, Nat.add_assoc] at this
                exact this
            · simp at hv
      | _ => cases hk
/-- An argument, whatever its shape. -/
theorem open_has {P : Program} {S : List TypeId} (hS : kindsB P S = true) {t : TypeId} (ht : t ∈ S) {ps : List MemPlace} {d : DataW H} {v : Value} {b0 : Nat} (hv : Value.okWide P W .any b0 t v) (h : DataW.Trod enc P W 0 (fun _ => true) true t v d ps) : ∃ x, HasT P t x ∧ Rep (G0 W) W x v := by
  obtain ⟨n, h⟩ := h
  have hk := List.all_eq_true.1 hS t ht
  cases hu : P.underlying t with
  | none => rw [hu] at hk; cases hk
  | some q =>
    rw [hu] at hk
    have one : ∀ {x : AV}, v.cells.toList = [v] → (∀ cs, x ≠ .agg cs) → CRep W x v.cells.toList → Rep (G0 W) W x v := by
      intro x h1 h2 h3
      rw [h1] at h3
      have : x.cells = [x] := by cases x <;> first | rfl | exact absurd rfl (h2 _)
      exact h3.2 0 x v (by rw [this]; rfl) rfl
    cases q with
    | int k =>
      obtain ⟨z, rfl⟩ := okWide_int hu hv
      obtain ⟨x, hx, hr⟩ := trod_has hS n t _ ht (by simpa [Value.cells] using (by simpa using hk : P.cellsOf t = 1).symm) ⟨_, h⟩
      refine ⟨x, ⟨n, hx⟩, one rfl ?_ hr⟩
      cases n with
      | zero => exact hx.elim
      | succ n => unfold hasF at hx; rw [hu] at hx; obtain ⟨z, rfl, _⟩ := hx; exact fun cs h => by cases h
    | bool =>
      obtain ⟨z, rfl⟩ := okWide_bool hu hv
      obtain ⟨x, hx, hr⟩ := trod_has hS n t _ ht (by simpa [Value.cells] using (by simpa using hk : P.cellsOf t = 1).symm) ⟨_, h⟩
      refine ⟨x, ⟨n, hx⟩, one rfl ?_ hr⟩
      cases n with
      | zero => exact hx.elim
      | succ n => unfold hasF at hx; rw [hu] at hx; obtain ⟨z, rfl⟩ := hx; exact fun cs h => by cases h
    | string =>
      obtain ⟨z, rfl⟩ := okWide_string hu hv
      obtain ⟨x, hx, hr⟩ := trod_has hS n t _ ht (by simpa [Value.cells] using (by simpa using hk : P.cellsOf t = 1).symm) ⟨_, h⟩
      refine ⟨x, ⟨n, hx⟩, one rfl ?_ hr⟩
      cases n with
      | zero => exact hx.elim
      | succ n => unfold hasF at hx; rw [hu] at hx; obtain ⟨z, rfl, _⟩ := hx; exact fun cs h => by cases h
    | slice e =>
      obtain ⟨a, len, cap, rfl⟩ := okWide_slice hu hv
      have hc1 : P.cellsOf t = 1 := by simp only [Bool.and_eq_true, decide_eq_true_eq] at hk; exact hk.2.2
      obtain ⟨x, hx, hr⟩ := trod_has hS n t _ ht (by simpa [Value.cells] using hc1.symm) ⟨_, h⟩
      refine ⟨x, ⟨n, hx⟩, one rfl ?_ hr⟩
      cases n with
      | zero => exact hx.elim
      | succ n => unfold hasF at hx; rw [hu] at hx; obtain ⟨z, rfl, _⟩ := hx; exact fun cs h => by cases h
    | struct fs =>
      obtain ⟨cs, rfl, hsz⟩ := okWide_struct hu hv
      obtain ⟨x, hx, hr⟩ := trod_has hS n t _ ht (by simpa [Value.cells] using hsz) ⟨_, h⟩
      cases n with
      | zero => exact hx.elim
      | succ n =>
        have hx' := hx
        unfold hasF at hx; rw [hu] at hx
        obtain ⟨bs, rfl, _⟩ := hx
        exact ⟨_, ⟨n + 1, hx'⟩, .agg bs cs (by simpa [Value.cells, AV.cells] using hr.1) fun i c v hc hv => hr.2 i c v hc (by simpa [Value.cells] using hv)⟩
    | _ => cases hk
end
end Go.AL
/-! What the logic wants to know of the types. -/
namespace Go.AL
open Go.Proofs
@[simp] theorem ts2 : tsize Tryz.prog 2 = some (1, false) := by kernel_rfl
@[simp] theorem tk2 : tkind Tryz.prog 2 = 0 := by kernel_rfl
@[simp] theorem ti2 : isIface Tryz.prog 2 = false := by kernel_rfl
@[simp] theorem tl2 : tleaf Tryz.prog 2 = 2 := by kernel_rfl
@[simp] theorem tu2 : Tryz.prog.underlying 2 = some (.int .i64) := by kernel_rfl
@[simp] theorem tstn2 : isString Tryz.prog 2 = false := by kernel_rfl
@[simp] theorem tbyn2 : isBytes Tryz.prog 2 = false := by kernel_rfl
@[simp] theorem tz2 : tzero Tryz.prog 2 = some (.p (.int .i64 0)) := by kernel_rfl
@[simp] theorem ts3 : tsize Tryz.prog 3 = some (1, false) := by kernel_rfl
@[simp] theorem tk3 : tkind Tryz.prog 3 = 0 := by kernel_rfl
@[simp] theorem ti3 : isIface Tryz.prog 3 = false := by kernel_rfl
@[simp] theorem tl3 : tleaf Tryz.prog 3 = 2 := by kernel_rfl
@[simp] theorem tu3 : Tryz.prog.underlying 3 = some (.int .i64) := by kernel_rfl
@[simp] theorem tstn3 : isString Tryz.prog 3 = false := by kernel_rfl
@[simp] theorem tbyn3 : isBytes Tryz.prog 3 = false := by kernel_rfl
@[simp] theorem tz3 : tzero Tryz.prog 3 = some (.p (.int .i64 0)) := by kernel_rfl
@[simp] theorem ts4 : tsize Tryz.prog 4 = some (1, false) := by kernel_rfl
@[simp] theorem tk4 : tkind Tryz.prog 4 = 1 := by kernel_rfl
@[simp] theorem ti4 : isIface Tryz.prog 4 = false := by kernel_rfl
@[simp] theorem tl4 : tleaf Tryz.prog 4 = 1 := by kernel_rfl
@[simp] theorem tu4 : Tryz.prog.underlying 4 = some .bool := by kernel_rfl
@[simp] theorem tstn4 : isString Tryz.prog 4 = false := by kernel_rfl
@[simp] theorem tbyn4 : isBytes Tryz.prog 4 = false := by kernel_rfl
@[simp] theorem tz4 : tzero Tryz.prog 4 = some (.p (.bool false)) := by kernel_rfl
@[simp] theorem ts5 : tsize Tryz.prog 5 = some (1, false) := by kernel_rfl
@[simp] theorem tk5 : tkind Tryz.prog 5 = 0 := by kernel_rfl
@[simp] theorem ti5 : isIface Tryz.prog 5 = false := by kernel_rfl
@[simp] theorem tl5 : tleaf Tryz.prog 5 = 2 := by kernel_rfl
@[simp] theorem tu5 : Tryz.prog.underlying 5 = some (.int .u8) := by kernel_rfl
@[simp] theorem tstn5 : isString Tryz.prog 5 = false := by kernel_rfl
@[simp] theorem tbyn5 : isBytes Tryz.prog 5 = false := by kernel_rfl
@[simp] theorem tz5 : tzero Tryz.prog 5 = some (.p (.int .u8 0)) := by kernel_rfl
@[simp] theorem ts9 : tsize Tryz.prog 9 = some (1, false) := by kernel_rfl
@[simp] theorem tk9 : tkind Tryz.prog 9 = 0 := by kernel_rfl
@[simp] theorem ti9 : isIface Tryz.prog 9 = false := by kernel_rfl
@[simp] theorem tl9 : tleaf Tryz.prog 9 = 3 := by kernel_rfl
@[simp] theorem tstr9 : isString Tryz.prog 9 = true := by kernel_rfl
@[simp] theorem tu9 : Tryz.prog.underlying 9 = some .string := by kernel_rfl
@[simp] theorem tbyn9 : isBytes Tryz.prog 9 = false := by kernel_rfl
@[simp] theorem tz9 : tzero Tryz.prog 9 = some (.p (.string ⟨#[]⟩)) := by kernel_rfl
@[simp] theorem ts12 : tsize Tryz.prog 12 = some (1, false) := by kernel_rfl
@[simp] theorem tk12 : tkind Tryz.prog 12 = 0 := by kernel_rfl
@[simp] theorem ti12 : isIface Tryz.prog 12 = false := by kernel_rfl
@[simp] theorem tl12 : tleaf Tryz.prog 12 = 2 := by kernel_rfl
@[simp] theorem tu12 : Tryz.prog.underlying 12 = some (.int .u64) := by kernel_rfl
@[simp] theorem tstn12 : isString Tryz.prog 12 = false := by kernel_rfl
@[simp] theorem tbyn12 : isBytes Tryz.prog 12 = false := by kernel_rfl
@[simp] theorem tz12 : tzero Tryz.prog 12 = some (.p (.int .u64 0)) := by kernel_rfl
@[simp] theorem ts13 : tsize Tryz.prog 13 = some (2, true) := by kernel_rfl
@[simp] theorem tk13 : tkind Tryz.prog 13 = 0 := by kernel_rfl
@[simp] theorem ti13 : isIface Tryz.prog 13 = false := by kernel_rfl
@[simp] theorem tstn13 : isString Tryz.prog 13 = false := by kernel_rfl
@[simp] theorem tbyn13 : isBytes Tryz.prog 13 = false := by kernel_rfl
@[simp] theorem tf13_0 : tfield Tryz.prog 13 0 = some (0, 1, false) := by kernel_rfl
@[simp] theorem tf13_1 : tfield Tryz.prog 13 1 = some (1, 1, false) := by kernel_rfl
@[simp] theorem tp13 : tplaces Tryz.prog 13 = some [(0, 1), (1, 1)] := by kernel_rfl
@[simp] theorem tz13 : tzero Tryz.prog 13 = some (.agg [.p (.string ⟨#[]⟩), .p (.int .u64 0)]) := by kernel_rfl
@[simp] theorem ts20 : tsize Tryz.prog 20 = some (1, false) := by kernel_rfl
@[simp] theorem tk20 : tkind Tryz.prog 20 = 3 := by kernel_rfl
@[simp] theorem ti20 : isIface Tryz.prog 20 = true := by kernel_rfl
@[simp] theorem tstn20 : isString Tryz.prog 20 = false := by kernel_rfl
@[simp] theorem tbyn20 : isBytes Tryz.prog 20 = false := by kernel_rfl
@[simp] theorem tz20 : tzero Tryz.prog 20 = some (.p (.nilIface)) := by kernel_rfl
@[simp] theorem ts21 : tsize Tryz.prog 21 = some (1, false) := by kernel_rfl
@[simp] theorem tk21 : tkind Tryz.prog 21 = 0 := by kernel_rfl
@[simp] theorem ti21 : isIface Tryz.prog 21 = false := by kernel_rfl
@[simp] theorem tl21 : tleaf Tryz.prog 21 = 2 := by kernel_rfl
@[simp] theorem tu21 : Tryz.prog.underlying 21 = some (.int .i32) := by kernel_rfl
@[simp] theorem tstn21 : isString Tryz.prog 21 = false := by kernel_rfl
@[simp] theorem tbyn21 : isBytes Tryz.prog 21 = false := by kernel_rfl
@[simp] theorem tz21 : tzero Tryz.prog 21 = some (.p (.int .i32 0)) := by kernel_rfl
@[simp] theorem ts22 : tsize Tryz.prog 22 = some (1, false) := by kernel_rfl
@[simp] theorem tk22 : tkind Tryz.prog 22 = 0 := by kernel_rfl
@[simp] theorem ti22 : isIface Tryz.prog 22 = false := by kernel_rfl
@[simp] theorem tl22 : tleaf Tryz.prog 22 = 2 := by kernel_rfl
@[simp] theorem tu22 : Tryz.prog.underlying 22 = some (.int .i64) := by kernel_rfl
@[simp] theorem tstn22 : isString Tryz.prog 22 = false := by kernel_rfl
@[simp] theorem tbyn22 : isBytes Tryz.prog 22 = false := by kernel_rfl
@[simp] theorem tz22 : tzero Tryz.prog 22 = some (.p (.int .i64 0)) := by kernel_rfl
@[simp] theorem ts23 : tsize Tryz.prog 23 = some (2, true) := by kernel_rfl
@[simp] theorem tk23 : tkind Tryz.prog 23 = 0 := by kernel_rfl
@[simp] theorem ti23 : isIface Tryz.prog 23 = false := by kernel_rfl
@[simp] theorem tq23 : teqok Tryz.prog 23 = true := by kernel_rfl
@[simp] theorem tg23 : tflds Tryz.prog 23 = some [(3, 0), (3, 1)] := by kernel_rfl
@[simp] theorem tstn23 : isString Tryz.prog 23 = false := by kernel_rfl
@[simp] theorem tbyn23 : isBytes Tryz.prog 23 = false := by kernel_rfl
@[simp] theorem tf23_0 : tfield Tryz.prog 23 0 = some (0, 1, false) := by kernel_rfl
@[simp] theorem tf23_1 : tfield Tryz.prog 23 1 = some (1, 1, false) := by kernel_rfl
@[simp] theorem tp23 : tplaces Tryz.prog 23 = some [(0, 1), (1, 1)] := by kernel_rfl
@[simp] theorem tz23 : tzero Tryz.prog 23 = some (.agg [.p (.int .i64 0), .p (.int .i64 0)]) := by kernel_rfl
@[simp] theorem ts24 : tsize Tryz.prog 24 = some (2, true) := by kernel_rfl
@[simp] theorem tk24 : tkind Tryz.prog 24 = 0 := by kernel_rfl
@[simp] theorem ti24 : isIface Tryz.prog 24 = false := by kernel_rfl
@[simp] theorem tq24 : teqok Tryz.prog 24 = true := by kernel_rfl
@[simp] theorem tg24 : tflds Tryz.prog 24 = some [(3, 0), (3, 1)] := by kernel_rfl
@[simp] theorem tstn24 : isString Tryz.prog 24 = false := by kernel_rfl
@[simp] theorem tbyn24 : isBytes Tryz.prog 24 = false := by kernel_rfl
@[simp] theorem tf24_0 : tfield Tryz.prog 24 0 = some (0, 1, false) := by kernel_rfl
@[simp] theorem tf24_1 : tfield Tryz.prog 24 1 = some (1, 1, false) := by kernel_rfl
@[simp] theorem tp24 : tplaces Tryz.prog 24 = some [(0, 1), (1, 1)] := by kernel_rfl
@[simp] theorem tz24 : tzero Tryz.prog 24 = some (.agg [.p (.int .i64 0), .p (.int .i64 0)]) := by kernel_rfl
@[simp] theorem ts25 : tsize Tryz.prog 25 = some (4, true) := by kernel_rfl
@[simp] theorem tk25 : tkind Tryz.prog 25 = 0 := by kernel_rfl
@[simp] theorem ti25 : isIface Tryz.prog 25 = false := by kernel_rfl
@[simp] theorem tq25 : teqok Tryz.prog 25 = true := by kernel_rfl
@[simp] theorem tg25 : tflds Tryz.prog 25 = some [(24, 0), (24, 2)] := by kernel_rfl
@[simp] theorem tstn25 : isString Tryz.prog 25 = false := by kernel_rfl
@[simp] theorem tbyn25 : isBytes Tryz.prog 25 = false := by kernel_rfl
@[simp] theorem tf25_0 : tfield Tryz.prog 25 0 = some (0, 2, true) := by kernel_rfl
@[simp] theorem tf25_1 : tfield Tryz.prog 25 1 = some (2, 2, true) := by kernel_rfl
@[simp] theorem tp25 : tplaces Tryz.prog 25 = some [(0, 2), (2, 2)] := by kernel_rfl
@[simp] theorem tz25 : tzero Tryz.prog 25 = some (.agg [.p (.int .i64 0), .p (.int .i64 0), .p (.int .i64 0), .p (.int .i64 0)]) := by kernel_rfl
@[simp] theorem ts26 : tsize Tryz.prog 26 = some (4, true) := by kernel_rfl
@[simp] theorem tk26 : tkind Tryz.prog 26 = 0 := by kernel_rfl
@[simp] theorem ti26 : isIface Tryz.prog 26 = false := by kernel_rfl
@[simp] theorem tq26 : teqok Tryz.prog 26 = true := by kernel_rfl
@[simp] theorem tg26 : tflds Tryz.prog 26 = some [(24, 0), (24, 2)] := by kernel_rfl
@[simp] theorem tstn26 : isString Tryz.prog 26 = false := by kernel_rfl
@[simp] theorem tbyn26 : isBytes Tryz.prog 26 = false := by kernel_rfl
@[simp] theorem tf26_0 : tfield Tryz.prog 26 0 = some (0, 2, true) := by kernel_rfl
@[simp] theorem tf26_1 : tfield Tryz.prog 26 1 = some (2, 2, true) := by kernel_rfl
@[simp] theorem tp26 : tplaces Tryz.prog 26 = some [(0, 2), (2, 2)] := by kernel_rfl
@[simp] theorem tz26 : tzero Tryz.prog 26 = some (.agg [.p (.int .i64 0), .p (.int .i64 0), .p (.int .i64 0), .p (.int .i64 0)]) := by kernel_rfl
@[simp] theorem ts27 : tsize Tryz.prog 27 = some (1, false) := by kernel_rfl
@[simp] theorem tk27 : tkind Tryz.prog 27 = 4 := by kernel_rfl
@[simp] theorem ti27 : isIface Tryz.prog 27 = false := by kernel_rfl
@[simp] theorem tby27 : isBytes Tryz.prog 27 = false := by kernel_rfl
@[simp] theorem tstn27 : isString Tryz.prog 27 = false := by kernel_rfl
@[simp] theorem tsl27 : isSlice Tryz.prog 27 = true := by kernel_rfl
@[simp] theorem te27 : telem Tryz.prog 27 = some (8, true, 88) := by kernel_rfl
@[simp] theorem tet27 : telemT Tryz.prog 27 = some 29 := by kernel_rfl
@[simp] theorem tz27 : tzero Tryz.prog 27 = some (.p (.slice none 0 0)) := by kernel_rfl
@[simp] theorem ts28 : tsize Tryz.prog 28 = some (8, true) := by kernel_rfl
@[simp] theorem tk28 : tkind Tryz.prog 28 = 0 := by kernel_rfl
@[simp] theorem ti28 : isIface Tryz.prog 28 = false := by kernel_rfl
@[simp] theorem tstn28 : isString Tryz.prog 28 = false := by kernel_rfl
@[simp] theorem tbyn28 : isBytes Tryz.prog 28 = false := by kernel_rfl
@[simp] theorem tf28_0 : tfield Tryz.prog 28 0 = some (0, 1, false) := by kernel_rfl
@[simp] theorem tf28_1 : tfield Tryz.prog 28 1 = some (1, 1, false) := by kernel_rfl
@[simp] theorem tf28_2 : tfield Tryz.prog 28 2 = some (2, 4, true) := by kernel_rfl
@[simp] theorem tf28_3 : tfield Tryz.prog 28 3 = some (6, 1, false) := by kernel_rfl
@[simp] theorem tf28_4 : tfield Tryz.prog 28 4 = some (7, 1, false) := by kernel_rfl
@[simp] theorem tp28 : tplaces Tryz.prog 28 = some [(0, 1), (1, 1), (2, 4), (6, 1), (7, 1)] := by kernel_rfl
@[simp] theorem tz28 : tzero Tryz.prog 28 = some (.agg [.p (.int .i64 0), .p (.int .i64 0), .p (.int .i64 0), .p (.int .i64 0), .p (.int .i64 0), .p (.int .i64 0), .p (.string ⟨#[]⟩), .p (.slice none 0 0)]) := by kernel_rfl
@[simp] theorem ts29 : tsize Tryz.prog 29 = some (8, true) := by kernel_rfl
@[simp] theorem tk29 : tkind Tryz.prog 29 = 0 := by kernel_rfl
@[simp] theorem ti29 : isIface Tryz.prog 29 = false := by kernel_rfl
@[simp] theorem tstn29 : isString Tryz.prog 29 = false := by kernel_rfl
@[simp] theorem tbyn29 : isBytes Tryz.prog 29 = false := by kernel_rfl
@[simp] theorem tf29_0 : tfield Tryz.prog 29 0 = some (0, 1, false) := by kernel_rfl
@[simp] theorem tf29_1 : tfield Tryz.prog 29 1 = some (1, 1, false) := by kernel_rfl
@[simp] theorem tf29_2 : tfield Tryz.prog 29 2 = some (2, 4, true) := by kernel_rfl
@[simp] theorem tf29_3 : tfield Tryz.prog 29 3 = some (6, 1, false) := by kernel_rfl
@[simp] theorem tf29_4 : tfield Tryz.prog 29 4 = some (7, 1, false) := by kernel_rfl
@[simp] theorem tp29 : tplaces Tryz.prog 29 = some [(0, 1), (1, 1), (2, 4), (6, 1), (7, 1)] := by kernel_rfl
@[simp] theorem tz29 : tzero Tryz.prog 29 = some (.agg [.p (.int .i64 0), .p (.int .i64 0), .p (.int .i64 0), .p (.int .i64 0), .p (.int .i64 0), .p (.int .i64 0), .p (.string ⟨#[]⟩), .p (.slice none 0 0)]) := by kernel_rfl
@[simp] theorem ts30 : tsize Tryz.prog 30 = some (1, false) := by kernel_rfl
@[simp] theorem tk30 : tkind Tryz.prog 30 = 4 := by kernel_rfl
@[simp] theorem ti30 : isIface Tryz.prog 30 = false := by kernel_rfl
@[simp] theorem tby30 : isBytes Tryz.prog 30 = false := by kernel_rfl
@[simp] theorem tstn30 : isString Tryz.prog 30 = false := by kernel_rfl
@[simp] theorem tsl30 : isSlice Tryz.prog 30 = true := by kernel_rfl
@[simp] theorem te30 : telem Tryz.prog 30 = some (4, true, 32) := by kernel_rfl
@[simp] theorem tet30 : telemT Tryz.prog 30 = some 45 := by kernel_rfl
@[simp] theorem tz30 : tzero Tryz.prog 30 = some (.p (.slice none 0 0)) := by kernel_rfl
@[simp] theorem ts33 : tsize Tryz.prog 33 = some (1, false) := by kernel_rfl
@[simp] theorem tk33 : tkind Tryz.prog 33 = 0 := by kernel_rfl
@[simp] theorem ti33 : isIface Tryz.prog 33 = false := by kernel_rfl
@[simp] theorem tl33 : tleaf Tryz.prog 33 = 2 := by kernel_rfl
@[simp] theorem tu33 : Tryz.prog.underlying 33 = some (.int .i64) := by kernel_rfl
@[simp] theorem tstn33 : isString Tryz.prog 33 = false := by kernel_rfl
@[simp] theorem tbyn33 : isBytes Tryz.prog 33 = false := by kernel_rfl
@[simp] theorem tz33 : tzero Tryz.prog 33 = some (.p (.int .i64 0)) := by kernel_rfl
@[simp] theorem ts34 : tsize Tryz.prog 34 = some (2, true) := by kernel_rfl
@[simp] theorem tk34 : tkind Tryz.prog 34 = 0 := by kernel_rfl
@[simp] theorem ti34 : isIface Tryz.prog 34 = false := by kernel_rfl
@[simp] theorem tq34 : teqok Tryz.prog 34 = true := by kernel_rfl
@[simp] theorem tg34 : tflds Tryz.prog 34 = some [(3, 0), (33, 1)] := by kernel_rfl
@[simp] theorem tstn34 : isString Tryz.prog 34 = false := by kernel_rfl
@[simp] theorem tbyn34 : isBytes Tryz.prog 34 = false := by kernel_rfl
@[simp] theorem tf34_0 : tfield Tryz.prog 34 0 = some (0, 1, false) := by kernel_rfl
@[simp] theorem tf34_1 : tfield Tryz.prog 34 1 = some (1, 1, false) := by kernel_rfl
@[simp] theorem tp34 : tplaces Tryz.prog 34 = some [(0, 1), (1, 1)] := by kernel_rfl
@[simp] theorem tz34 : tzero Tryz.prog 34 = some (.agg [.p (.int .i64 0), .p (.int .i64 0)]) := by kernel_rfl
@[simp] theorem ts35 : tsize Tryz.prog 35 = some (2, true) := by kernel_rfl
@[simp] theorem tk35 : tkind Tryz.prog 35 = 0 := by kernel_rfl
@[simp] theorem ti35 : isIface Tryz.prog 35 = false := by kernel_rfl
@[simp] theorem tq35 : teqok Tryz.prog 35 = true := by kernel_rfl
@[simp] theorem tg35 : tflds Tryz.prog 35 = some [(3, 0), (33, 1)] := by kernel_rfl
@[simp] theorem tstn35 : isString Tryz.prog 35 = false := by kernel_rfl
@[simp] theorem tbyn35 : isBytes Tryz.prog 35 = false := by kernel_rfl
@[simp] theorem tf35_0 : tfield Tryz.prog 35 0 = some (0, 1, false) := by kernel_rfl
@[simp] theorem tf35_1 : tfield Tryz.prog 35 1 = some (1, 1, false) := by kernel_rfl
@[simp] theorem tp35 : tplaces Tryz.prog 35 = some [(0, 1), (1, 1)] := by kernel_rfl
@[simp] theorem tz35 : tzero Tryz.prog 35 = some (.agg [.p (.int .i64 0), .p (.int .i64 0)]) := by kernel_rfl
@[simp] theorem ts41 : tsize Tryz.prog 41 = some (1, false) := by kernel_rfl
@[simp] theorem tk41 : tkind Tryz.prog 41 = 0 := by kernel_rfl
@[simp] theorem ti41 : isIface Tryz.prog 41 = false := by kernel_rfl
@[simp] theorem tl41 : tleaf Tryz.prog 41 = 2 := by kernel_rfl
@[simp] theorem tu41 : Tryz.prog.underlying 41 = some (.int .i64) := by kernel_rfl
@[simp] theorem tstn41 : isString Tryz.prog 41 = false := by kernel_rfl
@[simp] theorem tbyn41 : isBytes Tryz.prog 41 = false := by kernel_rfl
@[simp] theorem tz41 : tzero Tryz.prog 41 = some (.p (.int .i64 0)) := by kernel_rfl
@[simp] theorem ts44 : tsize Tryz.prog 44 = some (4, true) := by kernel_rfl
@[simp] theorem tk44 : tkind Tryz.prog 44 = 0 := by kernel_rfl
@[simp] theorem ti44 : isIface Tryz.prog 44 = false := by kernel_rfl
@[simp] theorem tq44 : teqok Tryz.prog 44 = true := by kernel_rfl
@[simp] theorem tg44 : tflds Tryz.prog 44 = some [(24, 0), (35, 2)] := by kernel_rfl
@[simp] theorem tstn44 : isString Tryz.prog 44 = false := by kernel_rfl
@[simp] theorem tbyn44 : isBytes Tryz.prog 44 = false := by kernel_rfl
@[simp] theorem tf44_0 : tfield Tryz.prog 44 0 = some (0, 2, true) := by kernel_rfl
@[simp] theorem tf44_1 : tfield Tryz.prog 44 1 = some (2, 2, true) := by kernel_rfl
@[simp] theorem tp44 : tplaces Tryz.prog 44 = some [(0, 2), (2, 2)] := by kernel_rfl
@[simp] theorem tz44 : tzero Tryz.prog 44 = some (.agg [.p (.int .i64 0), .p (.int .i64 0), .p (.int .i64 0), .p (.int .i64 0)]) := by kernel_rfl
@[simp] theorem ts45 : tsize Tryz.prog 45 = some (4, true) := by kernel_rfl
@[simp] theorem tk45 : tkind Tryz.prog 45 = 0 := by kernel_rfl
@[simp] theorem ti45 : isIface Tryz.prog 45 = false := by kernel_rfl
@[simp] theorem tq45 : teqok Tryz.prog 45 = true := by kernel_rfl
@[simp] theorem tg45 : tflds Tryz.prog 45 = some [(24, 0), (35, 2)] := by kernel_rfl
@[simp] theorem tstn45 : isString Tryz.prog 45 = false := by kernel_rfl
@[simp] theorem tbyn45 : isBytes Tryz.prog 45 = false := by kernel_rfl
@[simp] theorem tf45_0 : tfield Tryz.prog 45 0 = some (0, 2, true) := by kernel_rfl
@[simp] theorem tf45_1 : tfield Tryz.prog 45 1 = some (2, 2, true) := by kernel_rfl
@[simp] theorem tp45 : tplaces Tryz.prog 45 = some [(0, 2), (2, 2)] := by kernel_rfl
@[simp] theorem tz45 : tzero Tryz.prog 45 = some (.agg [.p (.int .i64 0), .p (.int .i64 0), .p (.int .i64 0), .p (.int .i64 0)]) := by kernel_rfl
@[simp] theorem ts47 : tsize Tryz.prog 47 = some (1, false) := by kernel_rfl
@[simp] theorem tk47 : tkind Tryz.prog 47 = 5 := by kernel_rfl
@[simp] theorem ti47 : isIface Tryz.prog 47 = false := by kernel_rfl
@[simp] theorem tstn47 : isString Tryz.prog 47 = false := by kernel_rfl
@[simp] theorem tbyn47 : isBytes Tryz.prog 47 = false := by kernel_rfl
@[simp] theorem tmap47 : isMapT Tryz.prog 47 = true := by kernel_rfl
@[simp] theorem tz47 : tzero Tryz.prog 47 = some (.p (.map none)) := by kernel_rfl
@[simp] theorem ts48 : tsize Tryz.prog 48 = some (1, false) := by kernel_rfl
@[simp] theorem tk48 : tkind Tryz.prog 48 = 5 := by kernel_rfl
@[simp] theorem ti48 : isIface Tryz.prog 48 = false := by kernel_rfl
@[simp] theorem tstn48 : isString Tryz.prog 48 = false := by kernel_rfl
@[simp] theorem tbyn48 : isBytes Tryz.prog 48 = false := by kernel_rfl
@[simp] theorem tmap48 : isMapT Tryz.prog 48 = true := by kernel_rfl
@[simp] theorem tz48 : tzero Tryz.prog 48 = some (.p (.map none)) := by kernel_rfl
@[simp] theorem ts51 : tsize Tryz.prog 51 = some (1, false) := by kernel_rfl
@[simp] theorem tk51 : tkind Tryz.prog 51 = 4 := by kernel_rfl
@[simp] theorem ti51 : isIface Tryz.prog 51 = false := by kernel_rfl
@[simp] theorem tby51 : isBytes Tryz.prog 51 = false := by kernel_rfl
@[simp] theorem tstn51 : isString Tryz.prog 51 = false := by kernel_rfl
@[simp] theorem tsl51 : isSlice Tryz.prog 51 = true := by kernel_rfl
@[simp] theorem te51 : telem Tryz.prog 51 = some (6, true, 56) := by kernel_rfl
@[simp] theorem tet51 : telemT Tryz.prog 51 = some 66 := by kernel_rfl
@[simp] theorem tz51 : tzero Tryz.prog 51 = some (.p (.slice none 0 0)) := by kernel_rfl
@[simp] theorem ts54 : tsize Tryz.prog 54 = some (1, false) := by kernel_rfl
@[simp] theorem tk54 : tkind Tryz.prog 54 = 2 := by kernel_rfl
@[simp] theorem ti54 : isIface Tryz.prog 54 = false := by kernel_rfl
@[simp] theorem tstn54 : isString Tryz.prog 54 = false := by kernel_rfl
@[simp] theorem tbyn54 : isBytes Tryz.prog 54 = false := by kernel_rfl
@[simp] theorem tz54 : tzero Tryz.prog 54 = some (.p (.pointer none)) := by kernel_rfl
@[simp] theorem ts55 : tsize Tryz.prog 55 = some (5, true) := by kernel_rfl
@[simp] theorem tk55 : tkind Tryz.prog 55 = 0 := by kernel_rfl
@[simp] theorem ti55 : isIface Tryz.prog 55 = false := by kernel_rfl
@[simp] theorem tstn55 : isString Tryz.prog 55 = false := by kernel_rfl
@[simp] theorem tbyn55 : isBytes Tryz.prog 55 = false := by kernel_rfl
@[simp] theorem tf55_0 : tfield Tryz.prog 55 0 = some (0, 1, false) := by kernel_rfl
@[simp] theorem tf55_1 : tfield Tryz.prog 55 1 = some (1, 1, false) := by kernel_rfl
@[simp] theorem tf55_2 : tfield Tryz.prog 55 2 = some (2, 1, false) := by kernel_rfl
@[simp] theorem tf55_3 : tfield Tryz.prog 55 3 = some (3, 1, false) := by kernel_rfl
@[simp] theorem tf55_4 : tfield Tryz.prog 55 4 = some (4, 1, false) := by kernel_rfl
@[simp] theorem tp55 : tplaces Tryz.prog 55 = some [(0, 1), (1, 1), (2, 1), (3, 1), (4, 1)] := by kernel_rfl
@[simp] theorem tz55 : tzero Tryz.prog 55 = some (.agg [.p (.slice none 0 0), .p (.int .i64 0), .p (.int .i64 0), .p (.bool false), .p (.int .i64 0)]) := by kernel_rfl
@[simp] theorem ts56 : tsize Tryz.prog 56 = some (5, true) := by kernel_rfl
@[simp] theorem tk56 : tkind Tryz.prog 56 = 0 := by kernel_rfl
@[simp] theorem ti56 : isIface Tryz.prog 56 = false := by kernel_rfl
@[simp] theorem tstn56 : isString Tryz.prog 56 = false := by kernel_rfl
@[simp] theorem tbyn56 : isBytes Tryz.prog 56 = false := by kernel_rfl
@[simp] theorem tf56_0 : tfield Tryz.prog 56 0 = some (0, 1, false) := by kernel_rfl
@[simp] theorem tf56_1 : tfield Tryz.prog 56 1 = some (1, 1, false) := by kernel_rfl
@[simp] theorem tf56_2 : tfield Tryz.prog 56 2 = some (2, 1, false) := by kernel_rfl
@[simp] theorem tf56_3 : tfield Tryz.prog 56 3 = some (3, 1, false) := by kernel_rfl
@[simp] theorem tf56_4 : tfield Tryz.prog 56 4 = some (4, 1, false) := by kernel_rfl
@[simp] theorem tp56 : tplaces Tryz.prog 56 = some [(0, 1), (1, 1), (2, 1), (3, 1), (4, 1)] := by kernel_rfl
@[simp] theorem tz56 : tzero Tryz.prog 56 = some (.agg [.p (.slice none 0 0), .p (.int .i64 0), .p (.int .i64 0), .p (.bool false), .p (.int .i64 0)]) := by kernel_rfl
@[simp] theorem ts62 : tsize Tryz.prog 62 = some (1, false) := by kernel_rfl
@[simp] theorem tk62 : tkind Tryz.prog 62 = 5 := by kernel_rfl
@[simp] theorem ti62 : isIface Tryz.prog 62 = false := by kernel_rfl
@[simp] theorem tstn62 : isString Tryz.prog 62 = false := by kernel_rfl
@[simp] theorem tbyn62 : isBytes Tryz.prog 62 = false := by kernel_rfl
@[simp] theorem tmap62 : isMapT Tryz.prog 62 = true := by kernel_rfl
@[simp] theorem tz62 : tzero Tryz.prog 62 = some (.p (.map none)) := by kernel_rfl
@[simp] theorem ts65 : tsize Tryz.prog 65 = some (6, true) := by kernel_rfl
@[simp] theorem tk65 : tkind Tryz.prog 65 = 0 := by kernel_rfl
@[simp] theorem ti65 : isIface Tryz.prog 65 = false := by kernel_rfl
@[simp] theorem tq65 : teqok Tryz.prog 65 = true := by kernel_rfl
@[simp] theorem tg65 : tflds Tryz.prog 65 = some [(3, 0), (3, 1), (24, 2), (9, 4), (3, 5)] := by kernel_rfl
@[simp] theorem tstn65 : isString Tryz.prog 65 = false := by kernel_rfl
@[simp] theorem tbyn65 : isBytes Tryz.prog 65 = false := by kernel_rfl
@[simp] theorem tf65_0 : tfield Tryz.prog 65 0 = some (0, 1, false) := by kernel_rfl
@[simp] theorem tf65_1 : tfield Tryz.prog 65 1 = some (1, 1, false) := by kernel_rfl
@[simp] theorem tf65_2 : tfield Tryz.prog 65 2 = some (2, 2, true) := by kernel_rfl
@[simp] theorem tf65_3 : tfield Tryz.prog 65 3 = some (4, 1, false) := by kernel_rfl
@[simp] theorem tf65_4 : tfield Tryz.prog 65 4 = some (5, 1, false) := by kernel_rfl
@[simp] theorem tp65 : tplaces Tryz.prog 65 = some [(0, 1), (1, 1), (2, 2), (4, 1), (5, 1)] := by kernel_rfl
@[simp] theorem tz65 : tzero Tryz.prog 65 = some (.agg [.p (.int .i64 0), .p (.int .i64 0), .p (.int .i64 0), .p (.int .i64 0), .p (.string ⟨#[]⟩), .p (.int .i64 0)]) := by kernel_rfl
@[simp] theorem ts66 : tsize Tryz.prog 66 = some (6, true) := by kernel_rfl
@[simp] theorem tk66 : tkind Tryz.prog 66 = 0 := by kernel_rfl
@[simp] theorem ti66 : isIface Tryz.prog 66 = false := by kernel_rfl
@[simp] theorem tq66 : teqok Tryz.prog 66 = true := by kernel_rfl
@[simp] theorem tg66 : tflds Tryz.prog 66 = some [(3, 0), (3, 1), (24, 2), (9, 4), (3, 5)] := by kernel_rfl
@[simp] theorem tstn66 : isString Tryz.prog 66 = false := by kernel_rfl
@[simp] theorem tbyn66 : isBytes Tryz.prog 66 = false := by kernel_rfl
@[simp] theorem tf66_0 : tfield Tryz.prog 66 0 = some (0, 1, false) := by kernel_rfl
@[simp] theorem tf66_1 : tfield Tryz.prog 66 1 = some (1, 1, false) := by kernel_rfl
@[simp] theorem tf66_2 : tfield Tryz.prog 66 2 = some (2, 2, true) := by kernel_rfl
@[simp] theorem tf66_3 : tfield Tryz.prog 66 3 = some (4, 1, false) := by kernel_rfl
@[simp] theorem tf66_4 : tfield Tryz.prog 66 4 = some (5, 1, false) := by kernel_rfl
@[simp] theorem tp66 : tplaces Tryz.prog 66 = some [(0, 1), (1, 1), (2, 2), (4, 1), (5, 1)] := by kernel_rfl
@[simp] theorem tz66 : tzero Tryz.prog 66 = some (.agg [.p (.int .i64 0), .p (.int .i64 0), .p (.int .i64 0), .p (.int .i64 0), .p (.string ⟨#[]⟩), .p (.int .i64 0)]) := by kernel_rfl
@[simp] theorem ts78 : tsize Tryz.prog 78 = some (1, false) := by kernel_rfl
@[simp] theorem tk78 : tkind Tryz.prog 78 = 5 := by kernel_rfl
@[simp] theorem ti78 : isIface Tryz.prog 78 = false := by kernel_rfl
@[simp] theorem tstn78 : isString Tryz.prog 78 = false := by kernel_rfl
@[simp] theorem tbyn78 : isBytes Tryz.prog 78 = false := by kernel_rfl
@[simp] theorem tmap78 : isMapT Tryz.prog 78 = true := by kernel_rfl
@[simp] theorem tz78 : tzero Tryz.prog 78 = some (.p (.map none)) := by kernel_rfl
@[simp] theorem ts81 : tsize Tryz.prog 81 = some (1, false) := by kernel_rfl
@[simp] theorem ts87 : tsize Tryz.prog 87 = some (1, false) := by kernel_rfl
@[simp] theorem tk87 : tkind Tryz.prog 87 = 4 := by kernel_rfl
@[simp] theorem ti87 : isIface Tryz.prog 87 = false := by kernel_rfl
@[simp] theorem tby87 : isBytes Tryz.prog 87 = false := by kernel_rfl
@[simp] theorem tstn87 : isString Tryz.prog 87 = false := by kernel_rfl
@[simp] theorem tsl87 : isSlice Tryz.prog 87 = true := by kernel_rfl
@[simp] theorem te87 : telem Tryz.prog 87 = some (2, true, 16) := by kernel_rfl
@[simp] theorem tet87 : telemT Tryz.prog 87 = some 35 := by kernel_rfl
@[simp] theorem tz87 : tzero Tryz.prog 87 = some (.p (.slice none 0 0)) := by kernel_rfl
@[simp] theorem ts99 : tsize Tryz.prog 99 = some (1, false) := by kernel_rfl
@[simp] theorem ts102 : tsize Tryz.prog 102 = some (1, false) := by kernel_rfl
@[simp] theorem ts107 : tsize Tryz.prog 107 = some (1, false) := by kernel_rfl
@[simp] theorem tk107 : tkind Tryz.prog 107 = 4 := by kernel_rfl
@[simp] theorem ti107 : isIface Tryz.prog 107 = false := by kernel_rfl
@[simp] theorem tby107 : isBytes Tryz.prog 107 = false := by kernel_rfl
@[simp] theorem tstn107 : isString Tryz.prog 107 = false := by kernel_rfl
@[simp] theorem tsl107 : isSlice Tryz.prog 107 = true := by kernel_rfl
@[simp] theorem te107 : telem Tryz.prog 107 = some (2, true, 16) := by kernel_rfl
@[simp] theorem tet107 : telemT Tryz.prog 107 = some 24 := by kernel_rfl
@[simp] theorem tz107 : tzero Tryz.prog 107 = some (.p (.slice none 0 0)) := by kernel_rfl
@[simp] theorem ts115 : tsize Tryz.prog 115 = some (1, false) := by kernel_rfl
@[simp] theorem tk115 : tkind Tryz.prog 115 = 4 := by kernel_rfl
@[simp] theorem ti115 : isIface Tryz.prog 115 = false := by kernel_rfl
@[simp] theorem tby115 : isBytes Tryz.prog 115 = false := by kernel_rfl
@[simp] theorem tstn115 : isString Tryz.prog 115 = false := by kernel_rfl
@[simp] theorem tsl115 : isSlice Tryz.prog 115 = true := by kernel_rfl
@[simp] theorem te115 : telem Tryz.prog 115 = some (1, false, 16) := by kernel_rfl
@[simp] theorem tet115 : telemT Tryz.prog 115 = some 9 := by kernel_rfl
@[simp] theorem tz115 : tzero Tryz.prog 115 = some (.p (.slice none 0 0)) := by kernel_rfl
@[simp] theorem ts116 : tsize Tryz.prog 116 = some (3, true) := by kernel_rfl
@[simp] theorem tk116 : tkind Tryz.prog 116 = 0 := by kernel_rfl
@[simp] theorem ti116 : isIface Tryz.prog 116 = false := by kernel_rfl
@[simp] theorem tstn116 : isString Tryz.prog 116 = false := by kernel_rfl
@[simp] theorem tbyn116 : isBytes Tryz.prog 116 = false := by kernel_rfl
@[simp] theorem tp116 : tplaces Tryz.prog 116 = some [(0, 1), (1, 1), (2, 1)] := by kernel_rfl
@[simp] theorem ta116 : tarr Tryz.prog 116 = some (3, 1, false) := by kernel_rfl
@[simp] theorem tz116 : tzero Tryz.prog 116 = some (.agg [.p (.slice none 0 0), .p (.slice none 0 0), .p (.slice none 0 0)]) := by kernel_rfl
@[simp] theorem ts120 : tsize Tryz.prog 120 = some (1, false) := by kernel_rfl
@[simp] theorem tk120 : tkind Tryz.prog 120 = 0 := by kernel_rfl
@[simp] theorem ti120 : isIface Tryz.prog 120 = false := by kernel_rfl
@[simp] theorem tl120 : tleaf Tryz.prog 120 = 2 := by kernel_rfl
@[simp] theorem tu120 : Tryz.prog.underlying 120 = some (.int .u64) := by kernel_rfl
@[simp] theorem tstn120 : isString Tryz.prog 120 = false := by kernel_rfl
@[simp] theorem tbyn120 : isBytes Tryz.prog 120 = false := by kernel_rfl
@[simp] theorem tz120 : tzero Tryz.prog 120 = some (.p (.int .u64 0)) := by kernel_rfl
@[simp] theorem ts129 : tsize Tryz.prog 129 = some (1, false) := by kernel_rfl
@[simp] theorem tk129 : tkind Tryz.prog 129 = 4 := by kernel_rfl
@[simp] theorem ti129 : isIface Tryz.prog 129 = false := by kernel_rfl
@[simp] theorem tby129 : isBytes Tryz.prog 129 = false := by kernel_rfl
@[simp] theorem tstn129 : isString Tryz.prog 129 = false := by kernel_rfl
@[simp] theorem tsl129 : isSlice Tryz.prog 129 = true := by kernel_rfl
@[simp] theorem te129 : telem Tryz.prog 129 = some (1, false, 1) := by kernel_rfl
@[simp] theorem tet129 : telemT Tryz.prog 129 = some 4 := by kernel_rfl
@[simp] theorem tz129 : tzero Tryz.prog 129 = some (.p (.slice none 0 0)) := by kernel_rfl
@[simp] theorem ts132 : tsize Tryz.prog 132 = some (1, false) := by kernel_rfl
@[simp] theorem tk132 : tkind Tryz.prog 132 = 4 := by kernel_rfl
@[simp] theorem ti132 : isIface Tryz.prog 132 = false := by kernel_rfl
@[simp] theorem tby132 : isBytes Tryz.prog 132 = true := by kernel_rfl
@[simp] theorem tstn132 : isString Tryz.prog 132 = false := by kernel_rfl
@[simp] theorem tsl132 : isSlice Tryz.prog 132 = true := by kernel_rfl
@[simp] theorem te132 : telem Tryz.prog 132 = some (1, false, 1) := by kernel_rfl
@[simp] theorem tet132 : telemT Tryz.prog 132 = some 5 := by kernel_rfl
@[simp] theorem tz132 : tzero Tryz.prog 132 = some (.p (.slice none 0 0)) := by kernel_rfl
@[simp] theorem ts139 : tsize Tryz.prog 139 = some (1, false) := by kernel_rfl
@[simp] theorem tk139 : tkind Tryz.prog 139 = 0 := by kernel_rfl
@[simp] theorem ti139 : isIface Tryz.prog 139 = false := by kernel_rfl
@[simp] theorem tl139 : tleaf Tryz.prog 139 = 2 := by kernel_rfl
@[simp] theorem tu139 : Tryz.prog.underlying 139 = some (.int .u32) := by kernel_rfl
@[simp] theorem tstn139 : isString Tryz.prog 139 = false := by kernel_rfl
@[simp] theorem tbyn139 : isBytes Tryz.prog 139 = false := by kernel_rfl
@[simp] theorem tz139 : tzero Tryz.prog 139 = some (.p (.int .u32 0)) := by kernel_rfl
@[simp] theorem ts143 : tsize Tryz.prog 143 = some (1, false) := by kernel_rfl
@[simp] theorem tk143 : tkind Tryz.prog 143 = 2 := by kernel_rfl
@[simp] theorem ti143 : isIface Tryz.prog 143 = false := by kernel_rfl
@[simp] theorem tstn143 : isString Tryz.prog 143 = false := by kernel_rfl
@[simp] theorem tbyn143 : isBytes Tryz.prog 143 = false := by kernel_rfl
@[simp] theorem tz143 : tzero Tryz.prog 143 = some (.p (.pointer none)) := by kernel_rfl
attribute [simp] Tryz.results3 Tryz.results4 Tryz.results5 Tryz.results6 Tryz.results7 Tryz.results8 Tryz.results9 Tryz.results10 Tryz.results11 Tryz.results12 Tryz.results13 Tryz.results14 Tryz.results15 Tryz.results16 Tryz.results17 Tryz.results18 Tryz.results19 Tryz.results20 Tryz.results21 Tryz.results22 Tryz.results23 Tryz.results24 Tryz.results25 Tryz.results26 Tryz.results27 Tryz.results28 Tryz.results29 Tryz.results30 Tryz.results31 Tryz.results32 Tryz.results33 Tryz.results34 Tryz.results35 Tryz.results36 Tryz.results37 Tryz.results38 Tryz.results39 Tryz.results40 Tryz.results41 Tryz.results42 Tryz.results43 Tryz.results44 Tryz.results45 Tryz.results46 Tryz.results47 Tryz.results48 Tryz.results49 Tryz.results50 Tryz.results51 Tryz.results52 Tryz.results53 Tryz.results54 Tryz.results55 Tryz.results56 Tryz.results57 Tryz.results58 Tryz.results59 Tryz.results60 Tryz.results61 Tryz.results62 Tryz.results63 Tryz.results64 Tryz.results65 Tryz.results66 Tryz.results67 Tryz.results68 Tryz.results69 Tryz.results70 Tryz.results71 Tryz.results72 Tryz.results73 Tryz.results74 Tryz.results75 Tryz.results76 Tryz.results77 Tryz.results78 Tryz.results79 Tryz.results80 Tryz.results81 Tryz.results82 Tryz.results83 Tryz.results84 Tryz.results85 Tryz.results86 Tryz.results87 Tryz.results88 Tryz.results89 Tryz.results90 Tryz.results91 Tryz.results92 Tryz.results93 Tryz.results94 Tryz.results95 Tryz.results96 Tryz.results97 Tryz.results98 Tryz.results99 Tryz.results100 Tryz.results101 Tryz.results102 Tryz.results103 Tryz.results104 Tryz.results105 Tryz.results106 Tryz.results107 Tryz.results108 Tryz.results109 Tryz.results110 Tryz.results111 Tryz.results112 Tryz.results113
end Go.AL
/-! What all contracts use. -/
namespace Go.AL
open Go.Proofs
set_option linter.unusedSimpArgs false
set_option linter.unusedVariables false
attribute [simp] keep frm
theorem draws : Tryz.prog.follows .mixedOrders = true := by kernel_rfl
/-- The number, if so. -/
def z (b : Bool) (n : Int) : Int := if b = true then n else 0
@[simp] theorem z_true (n : Int) : z true n = n := rfl
@[simp] theorem z_false (n : Int) : z false n = 0 := rfl
abbrev vu (n : Int) : AV := .p (.int .u64 n)
theorem uwrap_id {n : Int} (h1 : 0 ≤ n) (h2 : n < 18446744073709551616) : IntKind.u64.wrap n = n := by
  have e1 : (2 : Int) ^ IntKind.u64.bits = 18446744073709551616 := by decide
  have e3 : IntKind.u64.signed = false := rfl
  unfold IntKind.wrap
  simp only [e1, e3, Bool.false_and]
  simp only [Bool.false_eq_true, if_false]
  omega
theorem bwrap_id {n : Int} (h1 : 0 ≤ n) (h2 : n < 256) : IntKind.u8.wrap n = n := by
  have e1 : (2 : Int) ^ IntKind.u8.bits = 256 := by decide
  have e3 : IntKind.u8.signed = false := rfl
  unfold IntKind.wrap
  simp only [e1, e3, Bool.false_and]
  simp only [Bool.false_eq_true, if_false]
  omega
def In64 (a : Int) : Prop := -9223372036854775808 ≤ a ∧ a ≤ 9223372036854775807
theorem In64.of_wf {a : Int} (h : (Lit.int .i64 a).wf = true) : In64 a := by
  simp only [Lit.wf, IntKind.min, IntKind.max, IntKind.signed, IntKind.bits, Bool.and_eq_true, decide_eq_true_eq, if_true] at h
  unfold In64; omega
end Go.AL
/-! What a value of a type is. -/
namespace Go.AL
open Go.Proofs
set_option linter.unusedVariables false
set_option linter.unusedSimpArgs false
variable {P : Program} {n : Nat} {t : TypeId} {x : AV}
theorem has_int {k : IntKind} (h : hasF P n t x) (hu : P.underlying t = some (.int k)) : ∃ z, x = .p (.int k z) ∧ (Lit.int k z).wf = true := by
  cases n with
  | zero => exact h.elim
  | succ n => unfold hasF at h; rw [hu] at h; exact h
theorem has_str (h : hasF P n t x) (hu : P.underlying t = some .string) : ∃ s : ByteArray, x = .p (.string s) ∧ s.size ≤ 9223372036854775807 := by
  cases n with
  | zero => exact h.elim
  | succ n => unfold hasF at h; rw [hu] at h; exact h
theorem has_struct {fs : Array Field} (h : hasF P n t x) (hu : P.underlying t = some (.struct fs)) : ∃ m cs, n = m + 1 ∧ x = .agg cs ∧ cs.length = P.cellsOf t ∧ ∀ f ∈ fs.toList, ∃ y, hasF P m f.type y ∧ y.cells = (cs.drop f.offset).take (P.cellsOf f.type) := by
  cases n with
  | zero => exact h.elim
  | succ n => unfold hasF at h; rw [hu] at h; obtain ⟨cs, h1, h2, h3⟩ := h; exact ⟨n, cs, rfl, h1, h2, h3⟩
theorem has_slice {e : TypeId} (h : hasF P n t x) (hu : P.underlying t = some (.slice e)) : ∃ m xs, n = m + 1 ∧ x = .vsl xs ∧ xs.length ≤ 9223372036854775807 ∧ ∀ y ∈ xs, hasF P m e y := by
  cases n with
  | zero => exact h.elim
  | succ n => unfold hasF at h; rw [hu] at h; obtain ⟨cs, h1, h2, h3⟩ := h; exact ⟨n, cs, rfl, h1, h2, h3⟩
theorem has_i64 (h : hasF P n t x) (hu : P.underlying t = some (.int .i64)) : ∃ z, x = vi z ∧ In64 z := by
  obtain ⟨z, rfl, hw⟩ := has_int h hu
  exact ⟨z, rfl, .of_wf hw⟩
/-- A list of values that are so. -/
theorem list_of {α : Type} {q : AV → Prop} {f : α → AV} {r : α → Prop} (hf : ∀ y, q y → ∃ a, y = f a ∧ r a) : ∀ xs : List AV, (∀ y ∈ xs, q y) → ∃ l : List α, xs = l.map f ∧ ∀ a ∈ l, r a
  | [], _ => ⟨[], rfl, by simp⟩
  | y :: xs, h => by
    obtain ⟨a, rfl, ha⟩ := hf y (h y List.mem_cons_self)
    obtain ⟨l, rfl, hl⟩ := list_of hf xs fun y hy => h y (List.mem_cons_of_mem _ hy)
    exact ⟨a :: l, rfl, by simpa using ⟨ha, hl⟩⟩
end Go.AL
