import Derived.Test.YtfpjojjgoelckaaDoorA2
import Derived.Laws.Cells
import Derived.Laws.Rows
import Derived.Deep.MidRow
/-! Operations, first part: what needs no memory of its own. -/
namespace Go.AL
open Go.RowKit (Below)
set_option linter.unusedVariables false
set_option linter.unusedSimpArgs false

variable {P : Program}

/-! ### types -/
def isRowD : TypeDesc → Bool
  | .struct _ | .array _ _ => true
  | _ => false
/-- How many cells a type has, and whether it is a struct, or an array. -/
def tsize (P : Program) (t : TypeId) : Option (Nat × Bool) :=
  match P.info? t, P.underlying t with
  | some i, some d => some (i.size, isRowD d)
  | _, _ => none
/-- Where a field stands, how many cells it has. -/
def tfield (P : Program) (s : TypeId) (f : Nat) : Option (Nat × Nat × Bool) :=
  match P.underlying s with
  | some (.struct fs) => match fs[f]? with
    | some fd => match tsize P fd.type with
      | some (n, g) => if n = 0 then none else some (fd.offset, n, g)
      | none => none
    | none => none
  | _ => none
/-- What a slice's elements have: cells, a struct?, bytes. -/
def telem (P : Program) (t : TypeId) : Option (Nat × Bool × Nat) :=
  match P.underlying t with
  | some (.slice e) => match P.info? e, tsize P e with
    | some i, some (n, g) => some (n, g, i.bytes)
    | _, _ => none
  | _ => none
def tarr (P : Program) (t : TypeId) : Option (Nat × Nat × Bool) :=
  match P.underlying t with
  | some (.array len e) => match tsize P e with
    | some (n, g) => some (len, n, g)
    | none => none
  | _ => none
def tzero (P : Program) (t : TypeId) : Option AV := ((P.info? t).bind (·.zero)).map ofV
def isSlice (P : Program) (t : TypeId) : Bool := match P.underlying t with | some (.slice _) => true | _ => false
def isString (P : Program) (t : TypeId) : Bool := match P.underlying t with | some .string => true | _ => false
def isMapT (P : Program) (t : TypeId) : Bool := match P.underlying t with | some (.map _ _) => true | _ => false
def isIface (P : Program) (t : TypeId) : Bool := match P.underlying t with | some (.interface _) => true | none => true | _ => false
def isStruct (P : Program) (t : TypeId) : Bool := match P.underlying t with | some (.struct _) => true | _ => false
def intOfT (P : Program) (t : TypeId) : Option IntKind := match P.underlying t with | some (.int k) => some k | _ => none

theorem run_underlying' {t : TypeId} {d : TypeDesc} (h : P.underlying t = some d) (w : World) : (underlying t).run P w = .ok d w := by
  simp [underlying, h]
theorem run_typeInfo' {t : TypeId} {i : TypeInfo} (h : P.info? t = some i) (w : World) : (typeInfo t).run P w = .ok i w := by
  simp [typeInfo, h]
theorem tsize_spec {t n g} (h : tsize P t = some (n, g)) : ∃ i d, P.info? t = some i ∧ P.underlying t = some d ∧ i.size = n ∧ isRowD d = g := by
  unfold tsize at h
  split at h
  · rename_i i d hi hd
    simp only [Option.some.injEq, Prod.mk.injEq] at h
    exact ⟨i, d, hi, hd, h.1, h.2⟩
  · cases h
theorem run_sizeOf' {t n g} (h : tsize P t = some (n, g)) (w : World) : (sizeOf t).run P w = .ok n w := by
  obtain ⟨i, d, hi, hd, rfl, _⟩ := tsize_spec h
  simp [sizeOf, run_typeInfo' hi]
theorem run_isAgg' {t n g} (h : tsize P t = some (n, g)) (w : World) : (isAgg t).run P w = .ok g w := by
  obtain ⟨i, d, hi, hd, _, rfl⟩ := tsize_spec h
  simp only [isAgg, Sem.run_bind, run_underlying' hd, Result.andThen_ok]
  cases d <;> rfl
theorem tfield_spec {s f o n g} (h : tfield P s f = some (o, n, g)) : ∃ fs fd, P.underlying s = some (.struct fs) ∧ fs[f]? = some fd ∧ fd.offset = o ∧ tsize P fd.type = some (n, g) ∧ n ≠ 0 := by
  unfold tfield at h
  split at h
  · rename_i fs hfs
    split at h
    · rename_i fd hfd
      split at h
      · rename_i n' g' hn
        split at h
        · cases h
        · rename_i h0
          simp only [Option.some.injEq, Prod.mk.injEq] at h
          obtain ⟨rfl, rfl, rfl⟩ := h
          exact ⟨fs, fd, hfs, hfd, rfl, hn, h0⟩
      · cases h
    · cases h
  · cases h

theorem addr_add (β o j : Nat) : (⟨β, o, none⟩ : Addr).add j = ⟨β, o + j, none⟩ := by unfold Addr.add; split <;> simp_all

/-! ### one value, memory as it was -/
theorem opq_val {o : Oper} {ρ : Operand → AV} {σ : ASt} {R : AV → ASt → Prop} (r : AV) (hr : R r σ)
    (h : ∀ G (e : Operand → Value) w, (∀ x, Rep G w (ρ x) (e x)) → SimW G σ w → ∃ v, (execOp e o).run P w = .ok (.value v) w ∧ Rep G w r v) : OpQ P o ρ σ R := by
  intro G e w he hw
  obtain ⟨v, h1, h2⟩ := h G e w he hw
  rw [h1]
  exact ⟨r, G, σ, Le.refl _ _, hw, h2, hr⟩
/-- The same, by a step of the semantics that yields a value. -/
theorem opq_v {o : Oper} {ρ : Operand → AV} {σ : ASt} {R : AV → ASt → Prop} {s : (Operand → Value) → Sem Value} (hs : ∀ e, execOp e o = (do pure (.value (← s e)))) (r : AV) (hr : R r σ)
    (h : ∀ G (e : Operand → Value) w, (∀ x, Rep G w (ρ x) (e x)) → SimW G σ w → ∃ v, (s e).run P w = .ok v w ∧ Rep G w r v) : OpQ P o ρ σ R := by
  refine opq_val r hr fun G e w he hw => ?_
  obtain ⟨v, h1, h2⟩ := h G e w he hw
  exact ⟨v, by rw [hs]; simp [h1], h2⟩

/-! ### reading cells -/
def aloadC (cs : List AV) (off n : Nat) (g : Bool) : Option AV := if g = true then (if off + n ≤ cs.length then some (.agg ((cs.drop off).take n)) else none) else cs[off]?
/-- The value of a variable of so many cells, of which it is known what they hold. -/
theorem run_loadVar_of {t n g} (ht : tsize P t = some (n, g)) {G : Ghost} {w : World} {β o : Nat} {cs : List AV} {r : AV} {off : Nat} (hr : aloadC cs off n g = some r)
    (hc : ∀ j c, cs[j]? = some c → ∃ v, w.cell? ⟨β, o + j, none⟩ = some v ∧ Rep G w c v) : ∃ v, (loadVar t ⟨β, o + off, none⟩).run P w = .ok v w ∧ Rep G w r v := by
  unfold aloadC at hr
  unfold loadVar
  simp only [Sem.run_bind, run_isAgg' ht, Result.andThen_ok]
  cases g with
  | false =>
    simp only [Bool.false_eq_true, if_false] at hr ⊢
    obtain ⟨v, h1, h2⟩ := hc off r hr
    exact ⟨v, by simp [h1], h2⟩
  | true =>
    simp only [if_true] at hr ⊢
    split at hr
    · rename_i hle
      obtain rfl := Option.some.inj hr
      have hv : ∀ j, j < n → ∃ v, w.cell? ⟨β, o + off + j, none⟩ = some v ∧ ∃ c, cs[off + j]? = some c ∧ Rep G w c v := by
        intro j hj
        have hlt : off + j < cs.length := by omega
        obtain ⟨v, h1, h2⟩ := hc (off + j) _ (List.getElem?_eq_getElem hlt)
        exact ⟨v, by rw [Nat.add_assoc]; exact h1, _, List.getElem?_eq_getElem hlt, h2⟩
      let f : Nat → Value := fun j => (w.cell? ⟨β, o + off + j, none⟩).getD undef
      have hf : ∀ j, j < n → w.cell? ((⟨β, o + off, none⟩ : Addr).add j) = some (f j) := by
        intro j hj
        obtain ⟨v, h1, _⟩ := hv j hj
        rw [addr_add]
        simp only [f, h1, Option.getD_some]
      refine ⟨_, by simp only [Sem.run_bind, run_sizeOf' ht, Result.andThen_ok, run_loadCells w _ n f hf, Sem.run_pure]; rfl, .agg _ _ (by simp; omega) fun i c v hc1 hv1 => ?_⟩
      have hi : i < n := by
        have := (List.getElem?_eq_some_iff.1 hc1).1
        simp at this; omega
      obtain ⟨u, h1, c', h2, h3⟩ := hv i hi
      rw [List.getElem?_take, if_pos hi, List.getElem?_drop, h2] at hc1
      obtain rfl := Option.some.inj hc1
      simp [hi, f, h1] at hv1
      subst hv1
      exact h3
    · cases hr

/-- Where an address lies, what the cells are there. -/
def acells (σ : ASt) : AV → Option (List AV × Nat)
  | .ptr b off => (σ.bx b).map fun cs => (cs, off)
  | .vel xs i off => (xs[i]?).map fun x => (x.cells, off)
  | .hel b i off => (σ.sl b).bind fun xs => (xs[i]?).map fun x => (x.cells, off)
  | _ => none
theorem cell_of_heap {w : World} {β : Nat} {arr : Array Value} {el : TypeId} {fz : Nat × Nat} (h : w.heap[β]? = some (.cells arr el fz)) (o : Nat) : w.cell? ⟨β, o, none⟩ = arr[o]? := by
  unfold World.cell?; simp [h]
theorem acells_spec {σ : ASt} {x : AV} {cs : List AV} {off : Nat} (h : acells σ x = some (cs, off)) {G w v} (hw : SimW G σ w) (hx : Rep G w x v) :
    ∃ β o, v = .pointer (some ⟨β, o + off, none⟩) ∧ ∀ j c, cs[j]? = some c → ∃ v, w.cell? ⟨β, o + j, none⟩ = some v ∧ Rep G w c v := by
  cases hx with
  | ptr b off' β g =>
    simp only [acells, Option.map_eq_some_iff, Prod.mk.injEq] at h
    obtain ⟨cs', hb, rfl, rfl⟩ := h
    obtain ⟨β', arr, el, h1, h2, h3, h4⟩ := hw.bx b cs' hb
    obtain rfl := Option.some.inj (g.symm.trans h1)
    refine ⟨β, 0, by simp, fun j c hc => ?_⟩
    have hj : j < arr.size := by rw [h3]; exact (List.getElem?_eq_some_iff.1 hc).1
    exact ⟨arr[j], by rw [cell_of_heap h2, Nat.zero_add]; exact Array.getElem?_eq_getElem hj, h4 j c _ hc (Array.getElem?_eq_getElem hj)⟩
  | vel xs i off' β o s val hs h1 hr =>
    simp only [acells, Option.map_eq_some_iff, Prod.mk.injEq] at h
    obtain ⟨x, hx, rfl, rfl⟩ := h
    refine ⟨β, o + i * s, rfl, fun j c hc => ⟨val i j, (h1 i j c (by simp [rowCell, hx, hc])).2, hr i j c (by simp [rowCell, hx, hc])⟩⟩
  | hel b i off' β o s cap g =>
    simp only [acells, Option.bind_eq_some_iff, Option.map_eq_some_iff, Prod.mk.injEq] at h
    obtain ⟨xs, hb, x, hx, rfl, rfl⟩ := h
    rcases hw.sl b xs hb with ⟨h1, _⟩ | ⟨β', o', s', cap', arr, el, h1, h2, h3, h4, h5, h6⟩
    · rw [g] at h1; cases h1
    · obtain ⟨rfl, rfl, rfl, rfl⟩ : β = β' ∧ o = o' ∧ s = s' ∧ cap = cap' := by rw [g] at h1; simpa using h1
      refine ⟨β, o + i * s, rfl, fun j c hc => ?_⟩
      have hi := (List.getElem?_eq_some_iff.1 hx).1
      have hjs : j < s := by rw [← h5 i x hx]; exact (List.getElem?_eq_some_iff.1 hc).1
      have hlt : o + i * s + j < arr.size := by
        have : (i + 1) * s ≤ cap * s := Nat.mul_le_mul_right _ (by omega)
        rw [Nat.add_mul] at this; omega
      exact ⟨arr[o + i * s + j], by rw [cell_of_heap h2]; exact Array.getElem?_eq_getElem hlt, h6 i j c _ (by simp [rowCell, hx, hc]) (Array.getElem?_eq_getElem hlt)⟩
  | _ => simp [acells] at h

def aload (P : Program) (σ : ASt) (t : TypeId) (x : AV) : Option AV :=
  (tsize P t).bind fun ng => (acells σ x).bind fun co => aloadC co.1 co.2 ng.1 ng.2
theorem opq_load {o : Oper} {ρ : Operand → AV} {σ : ASt} {R : AV → ASt → Prop} {t : TypeId} {x : Operand} (ho : o.op = .load t x) {r : AV} (h : aload P σ t (ρ x) = some r) (hr : R r σ) : OpQ P o ρ σ R := by
  refine opq_v (s := fun e => Instr.loadAt t (e x)) (fun e => by simp only [execOp, ho]) r hr fun G e w he hw => ?_
  simp only [aload, Option.bind_eq_some_iff] at h
  obtain ⟨⟨n, g⟩, hn, ⟨cs, off⟩, hc, hl⟩ := h
  obtain ⟨β, o, hv, hcs⟩ := acells_spec hc hw (he x)
  obtain ⟨v, h1, h2⟩ := run_loadVar_of hn hl hcs
  refine ⟨v, ?_, h2⟩
  simp [hv, Instr.loadAt, Instr.sureAddr, h1]

/-! ### fields -/
def apart (cs : List AV) (o n : Nat) (g : Bool) : Option AV := aloadC cs o n g
theorem run_part_of {t n g} (ht : tsize P t = some (n, g)) {G : Ghost} {w : World} {cs : List AV} {vs : Array Value} {r : AV} {off : Nat} (hr : aloadC cs off n g = some r)
    (hs : cs.length = vs.size) (hc : ∀ (i : Nat) c v, cs[i]? = some c → vs[i]? = some v → Rep G w c v) : ∃ v, (part t vs off).run P w = .ok v w ∧ Rep G w r v := by
  unfold aloadC at hr
  unfold part
  simp only [Sem.run_bind, run_isAgg' ht, Result.andThen_ok]
  cases g with
  | false =>
    simp only [Bool.false_eq_true, if_false] at hr ⊢
    have hlt : off < vs.size := by rw [← hs]; exact (List.getElem?_eq_some_iff.1 hr).1
    exact ⟨vs[off], by simp [hlt], hc off r _ hr (Array.getElem?_eq_getElem hlt)⟩
  | true =>
    simp only [if_true] at hr ⊢
    split at hr
    · rename_i hle
      obtain rfl := Option.some.inj hr
      refine ⟨_, by simp only [Sem.run_bind, run_sizeOf' ht, Result.andThen_ok, Sem.run_pure]; rfl, .agg _ _ (by simp; omega) fun i c v hc1 hv1 => ?_⟩
      have hi : i < n := by
        have := (List.getElem?_eq_some_iff.1 hc1).1
        simp at this; omega
      rw [List.getElem?_take, if_pos hi, List.getElem?_drop] at hc1
      rw [Array.getElem?_extract] at hv1
      split at hv1
      · exact hc (off + i) c v hc1 hv1
      · cases hv1
    · cases hr
def afield (P : Program) (s : TypeId) (f : Nat) : AV → Option AV
  | .agg cs => (tfield P s f).bind fun q => aloadC cs q.1 q.2.1 q.2.2
  | _ => none
theorem opq_field {o : Oper} {ρ : Operand → AV} {σ : ASt} {R : AV → ASt → Prop} {s : TypeId} {x : Operand} {f : Nat} (ho : o.op = .field s x f) {r : AV} (h : afield P s f (ρ x) = some r) (hr : R r σ) : OpQ P o ρ σ R := by
  refine opq_v (s := fun e => Instr.field s (e x) f) (fun e => by simp only [execOp, ho]) r hr fun G e w he hw => ?_
  have hx := he x
  generalize ρ x = c at h hx
  generalize e x = v at hx
  cases hx with
  | agg cs vs hs hc =>
    simp only [afield, Option.bind_eq_some_iff] at h
    obtain ⟨⟨off, n, g⟩, hf, hl⟩ := h
    obtain ⟨fs, fd, h1, h2, rfl, h4, h5⟩ := tfield_spec hf
    obtain ⟨v, h6, h7⟩ := run_part_of h4 hl hs hc
    refine ⟨v, ?_, h7⟩
    simp [Instr.field, run_underlying' h1, h2, asAgg, h6]
  | _ => simp [afield] at h

def ashift (k : Nat) : AV → Option AV
  | .ptr b off => some (.ptr b (off + k))
  | .vel xs i off => some (.vel xs i (off + k))
  | .hel b i off => some (.hel b i (off + k))
  | _ => none
theorem ashift_spec {k : Nat} {x r : AV} (h : ashift k x = some r) {G w v} (hx : Rep G w x v) : ∃ β o, v = .pointer (some ⟨β, o, none⟩) ∧ Rep G w r (.pointer (some ⟨β, o + k, none⟩)) := by
  cases hx with
  | ptr b off β g =>
    obtain rfl := Option.some.inj h
    exact ⟨β, off, rfl, .ptr b (off + k) β g⟩
  | vel xs i off β o s val hs h1 hr =>
    obtain rfl := Option.some.inj h
    refine ⟨β, _, rfl, ?_⟩
    rw [Nat.add_assoc]
    exact .vel xs i (off + k) β o s val hs h1 hr
  | hel b i off β o s cap g =>
    obtain rfl := Option.some.inj h
    refine ⟨β, _, rfl, ?_⟩
    rw [Nat.add_assoc]
    exact .hel b i (off + k) β o s cap g
  | _ => simp [ashift] at h
def afieldAddr (P : Program) (s : TypeId) (f : Nat) (x : AV) : Option AV := (tfield P s f).bind fun q => ashift q.1 x
theorem opq_fieldAddr {o : Oper} {ρ : Operand → AV} {σ : ASt} {R : AV → ASt → Prop} {s : TypeId} {x : Operand} {f : Nat} (ho : o.op = .fieldAddr s x f) {r : AV} (h : afieldAddr P s f (ρ x) = some r) (hr : R r σ) : OpQ P o ρ σ R := by
  refine opq_v (s := fun e => Instr.fieldAt s (e x) f) (fun e => by simp only [execOp, ho]) r hr fun G e w he hw => ?_
  simp only [afieldAddr, Option.bind_eq_some_iff] at h
  obtain ⟨⟨off, n, g⟩, hf, hl⟩ := h
  obtain ⟨fs, fd, h1, h2, rfl, h4, h5⟩ := tfield_spec hf
  obtain ⟨β, o, hv, hrep⟩ := ashift_spec hl (he x)
  refine ⟨_, ?_, hrep⟩
  simp [Instr.fieldAt, run_underlying' h1, h2, hv, Instr.sureAddr, fieldPlace, run_sizeOf' h4, h5, addr_add]
end Go.AL
