import Derived.Test.YtfpjojjgoelckaaDoorA6
import Derived.Laws.AppendOwn
/-! Operations, fifth part: structs, slices made, cut, appended to. -/
namespace Go.AL
open Go.RowKit (Below)
set_option linter.unusedVariables false
set_option linter.unusedSimpArgs false

variable {P : Program} {o : Oper} {ρ : Operand → AV} {σ : ASt} {R : AV → ASt → Prop}

/-! ### structs made -/
def tplaces (P : Program) (t : TypeId) : Option (List (Nat × Nat)) :=
  match P.underlying t with
  | some (.struct fs) => fs.toList.mapM fun f => (P.info? f.type).map fun i => (f.offset, i.size)
  | _ => none
def afill (pl : List (Nat × Nat)) (cs : List AV) : List (Nat × AV) → Option (List AV)
  | [] => some cs
  | (i, x) :: r => match pl[i]? with
    | none => none
    | some (off, size) => if x.cells.length = size ∧ off + size ≤ cs.length ∧ x.okv = true then afill pl (setCells cs off x.cells) r else none
def abuild (P : Program) (t : TypeId) (ps : List (Nat × AV)) : Option AV :=
  match tzero P t, tplaces P t with
  | some (.agg zc), some pl => (afill pl zc ps).map .agg
  | _, _ => none
theorem fold_get (off : Nat) : ∀ (l : List Value) (s : Nat) (arr : Array Value) (k : Nat), off + s + l.length ≤ arr.size →
    ((l.zipIdx s).foldl (fun (cs : Array Value) (q : Value × Nat) => cs.setIfInBounds (off + q.2) q.1) arr)[k]? = if off + s ≤ k ∧ k < off + s + l.length then l[k - (off + s)]? else arr[k]?
  | [], s, arr, k, _ => by simp; omega
  | v :: l, s, arr, k, h => by
    simp only [List.length_cons] at h
    rw [List.zipIdx_cons, List.foldl_cons, fold_get off l (s + 1) _ k (by simp; omega)]
    by_cases h1 : off + (s + 1) ≤ k ∧ k < off + (s + 1) + l.length
    · rw [if_pos h1, if_pos (by simp; omega), show k - (off + s) = (k - (off + (s + 1))) + 1 by omega, List.getElem?_cons_succ]
    · rw [if_neg h1]
      by_cases h2 : k = off + s
      · subst h2
        rw [if_pos (by simp)]
        simp only [Nat.sub_self, List.getElem?_cons_zero]
        rw [Array.getElem?_setIfInBounds_self_of_lt (by omega)]
      · rw [if_neg (by simp; omega), Array.getElem?_setIfInBounds_ne (by omega)]
theorem fold_size (off : Nat) : ∀ (l : List Value) (s : Nat) (arr : Array Value), ((l.zipIdx s).foldl (fun (cs : Array Value) (q : Value × Nat) => cs.setIfInBounds (off + q.2) q.1) arr).size = arr.size
  | [], s, arr => rfl
  | v :: l, s, arr => by rw [List.zipIdx_cons, List.foldl_cons, fold_size off l (s + 1)]; simp
/-- A list of cells, and what they are. -/
def CellsAs (G : Ghost) (w : World) (cs : List AV) (arr : Array Value) : Prop := cs.length = arr.size ∧ ∀ (i : Nat) c v, cs[i]? = some c → arr[i]? = some v → Rep G w c v
theorem afill_spec {G w} (place : Nat → Option (Nat × Nat)) (pl : List (Nat × Nat)) (hpl : ∀ i q, pl[i]? = some q → place i = some q) : ∀ (ps : List (Nat × AV)) (qs : List (Nat × Value)) (cs cs' : List AV) (arr : Array Value),
    ps.length = qs.length → (∀ (i : Nat) p q, ps[i]? = some p → qs[i]? = some q → p.1 = q.1 ∧ Rep G w p.2 q.2) → CellsAs G w cs arr → afill pl cs ps = some cs' → ∃ arr', Instr.fill place arr qs = some arr' ∧ CellsAs G w cs' arr'
  | [], [], cs, cs', arr, _, _, hc, h => by obtain rfl := Option.some.inj h; exact ⟨arr, rfl, hc⟩
  | [], _ :: _, _, _, _, hl, _, _, _ => by cases hl
  | _ :: _, [], _, _, _, hl, _, _, _ => by cases hl
  | (i, x) :: ps, (j, v) :: qs, cs, cs', arr, hl, hr, hc, h => by
    obtain ⟨h1, h2⟩ := hr 0 (i, x) (j, v) rfl rfl
    have h1 : i = j := h1
    have h2 : Rep G w x v := h2
    subst h1
    unfold afill at h
    split at h
    · cases h
    · rename_i off size hp
      split at h
      · rename_i hcond
        obtain ⟨c1, c2, c3⟩ := hcond
        obtain ⟨e1, e2, e3⟩ := rep_cells c3 h2
        have e1 : v.cells.size = x.cells.length := e1
        have hsz := hc.1
        unfold Instr.fill
        rw [hpl i _ hp]
        have hcond2 : ¬ ((decide (v.cells.size ≠ size) || decide (off + v.cells.size > arr.size)) = true) := by simp; omega
        simp only [hcond2]
        have hfold : (Array.foldl (fun (cs : Array Value) (x : Value × Nat) => cs.setIfInBounds (off + x.2) x.1) arr v.cells.zipIdx) = (v.cells.toList.zipIdx 0).foldl (fun (cs : Array Value) (q : Value × Nat) => cs.setIfInBounds (off + q.2) q.1) arr := by
          rw [← Array.foldl_toList, Array.toList_zipIdx]
        refine afill_spec place pl hpl ps qs _ cs' _ (by simpa using hl) (fun k p q hp hq => hr (k + 1) p q (by simpa using hp) (by simpa using hq)) ?_ h
        rw [hfold]
        refine ⟨by rw [setCells_length, fold_size]; exact hsz, fun k c u hcc huu => ?_⟩
        rw [setCells_get _ _ _ _ (by omega)] at hcc
        rw [fold_get off _ 0 _ _ (by simp; omega)] at huu
        simp only [Nat.add_zero, Array.length_toList, e1] at huu
        split at hcc
        · rename_i hk
          rw [if_pos hk] at huu
          exact e2 _ c u hcc (by simpa using huu)
        · rename_i hk
          rw [if_neg hk] at huu
          exact hc.2 k c u hcc huu
      · cases h
theorem opq_build {t : TypeId} {parts : Array (Nat × Operand)} (ho : o.op = .build t parts) {r : AV} (h : abuild P t (parts.toList.map fun q => (q.1, ρ q.2)) = some r) (hr : R r σ) : OpQ P o ρ σ R := by
  refine opq_v (s := fun e => Instr.build t (parts.map fun (i, x) => (i, e x))) (fun e => by simp only [execOp, ho]) r hr fun G e w he hw => ?_
  unfold abuild at h
  split at h
  · rename_i zc pl hz hp
    obtain ⟨cs', hf, rfl⟩ := Option.map_eq_some_iff.1 h
    obtain ⟨it, z, hi, hzv, hze⟩ := tzero_spec hz
    unfold tplaces at hp
    split at hp
    · rename_i fs hu
      have hza : ∃ zs, z = .agg zs ∧ zc = zs.toList.map .p := by
        cases z with
        | agg zs => exact ⟨zs, rfl, by simpa [ofV] using hze⟩
        | _ => cases hze
      obtain ⟨zs, rfl, rfl⟩ := hza
      obtain ⟨arr', hfill, hca⟩ := afill_spec (G := G) (w := w) (pl.toArray[·]?) pl (fun i q hq => by simpa using hq) (parts.toList.map fun q => (q.1, ρ q.2)) (parts.toList.map fun q => (q.1, e q.2)) _ cs' zs (by simp)
        (fun i p q hp hq => by
          simp only [List.getElem?_map, Option.map_eq_some_iff] at hp hq
          obtain ⟨a, ha, rfl⟩ := hp
          obtain ⟨b, hb, rfl⟩ := hq
          obtain rfl := Option.some.inj (ha.symm.trans hb)
          exact ⟨rfl, he _⟩)
        ⟨by simp, fun i c v hc hv => by
          rw [List.getElem?_map, Array.getElem?_toList, hv] at hc
          obtain rfl := Option.some.inj hc
          exact .p _⟩ hf
      have hb : P.built t (parts.map fun (i, x) => (i, e x)).toList = some arr' := by
        unfold Program.built
        simp only [hi, hu, hzv, hp, Value.cells]
        simpa using hfill
      exact ⟨.agg arr', run_build w t _ arr' hb, .agg _ _ hca.1 hca.2⟩
    · cases hp
  · cases h

/-! ### slices made -/
/-- Rows of elements. -/
def RowsAs (G : Ghost) (w : World) (n : Nat) (es : List AV) (arr : Array Value) : Prop :=
  arr.size = es.length * n ∧ (∀ (i : Nat) x, es[i]? = some x → x.cells.length = n) ∧ ∀ (i j : Nat) c v, rowCell es i j = some c → arr[i * n + j]? = some v → Rep G w c v
theorem rowCell_lt {es : List AV} {i j n : Nat} {c : AV} (h : rowCell es i j = some c) (hn : ∀ (i : Nat) x, es[i]? = some x → x.cells.length = n) : i < es.length ∧ j < n ∧ i * n + j < es.length * n := by
  unfold rowCell at h
  obtain ⟨x, hx, hj⟩ := Option.bind_eq_some_iff.1 h
  have h1 := (List.getElem?_eq_some_iff.1 hx).1
  have h2 := (List.getElem?_eq_some_iff.1 hj).1
  rw [hn i x hx] at h2
  have : (i + 1) * n ≤ es.length * n := Nat.mul_le_mul_right _ h1
  rw [Nat.add_mul] at this
  exact ⟨h1, h2, by omega⟩
/-- A new row, that stays as it is. -/
theorem new_vsl {G σ w n es arr} (hw : SimW G σ w) (hr : RowsAs G w n es arr) (t : TypeId) {cap : Nat} (hcap : es.length ≤ cap) (w1 : World) (hb1 : Below w.heap.size w w1) :
    ∃ G', Le G w G' (w1.alloc (.cells arr t)) ∧ SimW G' σ (w1.alloc (.cells arr t)) ∧ Rep G' (w1.alloc (.cells arr t)) (.vsl es) (.slice (some ⟨w1.heap.size, 0, none⟩) es.length cap) := by
  have hb := hb1.trans ((below_alloc' w1 (.cells arr t)).mono hb1.size)
  have hl := Le.addSt hw hb (fun β _ => β = w1.heap.size) fun β o e => by subst e; exact hb1.size
  refine ⟨_, hl, hw.addSt hb _ (fun β o e => by subst e; exact ⟨hb1.size, by simp⟩), ?_⟩
  refine Rep.vsl es w1.heap.size 0 n cap (fun i j => arr.getD (i * n + j) undef) hcap hr.2.1 (fun i j c hc => ⟨.inr rfl, ?_⟩) (fun i j c hc => ?_)
  · obtain ⟨_, _, hlt⟩ := rowCell_lt hc hr.2.1
    rw [← hr.1] at hlt
    rw [cell_of_heap (heap_alloc_new w1 _)]
    simp [hlt]
  · obtain ⟨_, _, hlt⟩ := rowCell_lt hc hr.2.1
    rw [← hr.1] at hlt
    have := hr.2.2 i j c _ hc (Array.getElem?_eq_getElem hlt)
    simp only [Array.getD, hlt, dif_pos]
    exact this.mono hl
/-- A new row of the function's own; there may be room behind it. -/
theorem new_hsl {G σ w n es} {arr : Array Value} (hw : SimW G σ w) {cap : Nat} (hn : ∀ (i : Nat) x, es[i]? = some x → x.cells.length = n) (hcell : ∀ (i j : Nat) c v, rowCell es i j = some c → arr[i * n + j]? = some v → Rep G w c v)
    (hpos : 0 < es.length) (hcap : es.length ≤ cap) (hsz : cap * n ≤ arr.size) (t : TypeId) (w1 : World) (hb1 : Below w.heap.size w w1) :
    ∃ G', Le G w G' (w1.alloc (.cells arr t)) ∧ SimW G' (σ.addSl es) (w1.alloc (.cells arr t)) ∧ Rep G' (w1.alloc (.cells arr t)) (.hsl σ.next 0 es.length) (.slice (some ⟨w1.heap.size, 0, none⟩) es.length cap) := by
  have hb := hb1.trans ((below_alloc' w1 (.cells arr t)).mono hb1.size)
  have hl := Le.addSl hw hb (some (w1.heap.size, 0, n, cap))
  refine ⟨_, hl, hw.addSl (some (w1.heap.size, 0, n, cap)) hb (fun β q e => ?_) (fun _ => .inr ⟨w1.heap.size, 0, n, cap, arr, t, upd_same _ _ _, heap_alloc_new w1 _, ⟨hpos, hcap⟩, by omega, hn, fun i j c v hc hv => ?_⟩), ?_⟩
  · have := (Option.some.inj e); simp only [Prod.mk.injEq] at this; rw [← this.1]; exact hb1.size
  · exact (hcell i j c v hc (by simpa using hv)).mono hl
  · have := Rep.hsl (G := G.addSl σ.next (some (w1.heap.size, 0, n, cap))) (w := w1.alloc (.cells arr t)) σ.next 0 es.length w1.heap.size 0 n cap (upd_same _ _ _) (by omega)
    simpa using this
/-- No slice at all, as one of the function's own. -/
theorem new_nil {G σ w} (hw : SimW G σ w) (w1 : World) (hb1 : Below w.heap.size w w1) (a : Option Addr) :
    ∃ G', Le G w G' w1 ∧ SimW G' (σ.addSl []) w1 ∧ Rep G' w1 (.hsl σ.next 0 0) (.slice a 0 0) := by
  have hl := Le.addSl hw hb1 none
  exact ⟨_, hl, hw.addSl none hb1 (fun β q e => by cases e) (fun _ => .inl ⟨upd_same _ _ _, rfl⟩), .hnil _ _ (upd_same _ _ _)⟩

def afillR (n len : Nat) (es : List AV) : List (Nat × AV) → Option (List AV)
  | [] => some es
  | (i, x) :: r => if x.cells.length = n ∧ i < len ∧ x.okv = true then afillR n len (es.set i x) r else none
theorem afillR_length {n len : Nat} : ∀ {ps : List (Nat × AV)} {es es' : List AV}, afillR n len es ps = some es' → es'.length = es.length
  | [], es, es', h => by obtain rfl := Option.some.inj h; rfl
  | (i, x) :: ps, es, es', h => by
    unfold afillR at h
    obtain ⟨_, h⟩ := ite_some' h
    rw [afillR_length h]; simp
theorem afillR_spec {G w} {n len : Nat} : ∀ (ps : List (Nat × AV)) (qs : List (Nat × Value)) (es es' : List AV) (arr : Array Value), es.length = len →
    ps.length = qs.length → (∀ (i : Nat) p q, ps[i]? = some p → qs[i]? = some q → p.1 = q.1 ∧ Rep G w p.2 q.2) → RowsAs G w n es arr → afillR n len es ps = some es' → ∃ arr', Instr.fill (fun i => some (i * n, n)) arr qs = some arr' ∧ RowsAs G w n es' arr'
  | [], [], es, es', arr, _, _, _, hc, h => by obtain rfl := Option.some.inj h; exact ⟨arr, rfl, hc⟩
  | [], _ :: _, _, _, _, _, hl, _, _, _ => by cases hl
  | _ :: _, [], _, _, _, _, hl, _, _, _ => by cases hl
  | (i, x) :: ps, (j, v) :: qs, es, es', arr, hlen, hl, hr, hc, h => by
    obtain ⟨h1, h2⟩ := hr 0 (i, x) (j, v) rfl rfl
    have h1 : i = j := h1
    have h2 : Rep G w x v := h2
    subst h1
    unfold afillR at h
    obtain ⟨⟨c1, c2, c3⟩, h⟩ := ite_some' h
    obtain ⟨e1, e2, e3⟩ := rep_cells c3 h2
    have e1 : v.cells.size = x.cells.length := e1
    have hv0 : (i, v).2.cells = v.cells := rfl
    obtain ⟨r1, r2, r3⟩ := hc
    have hin : i * n + n ≤ arr.size := by
      have : (i + 1) * n ≤ es.length * n := Nat.mul_le_mul_right _ (by omega)
      rw [Nat.add_mul] at this; omega
    unfold Instr.fill
    have hcond2 : ¬ ((decide (v.cells.size ≠ n) || decide (i * n + v.cells.size > arr.size)) = true) := by simp; omega
    simp only [hcond2]
    have hfold : (Array.foldl (fun (cs : Array Value) (x : Value × Nat) => cs.setIfInBounds (i * n + x.2) x.1) arr v.cells.zipIdx) = (v.cells.toList.zipIdx 0).foldl (fun (cs : Array Value) (q : Value × Nat) => cs.setIfInBounds (i * n + q.2) q.1) arr := by
      rw [← Array.foldl_toList, Array.toList_zipIdx]
    refine afillR_spec ps qs (es.set i x) es' _ (by simpa using hlen) (by simpa using hl) (fun k p q hp hq => hr (k + 1) p q (by simpa using hp) (by simpa using hq)) ?_ h
    rw [hfold]
    refine ⟨by rw [fold_size]; simpa using r1, fun k z hz => ?_, fun k j c u hcc huu => ?_⟩
    · rw [List.getElem?_set] at hz
      split at hz
      · split at hz
        · obtain rfl := Option.some.inj hz; exact c1
        · cases hz
      · exact r2 k z hz
    · rw [fold_get (i * n) _ 0 _ _ (by simp; omega)] at huu
      simp only [Nat.add_zero, Array.length_toList, e1, c1] at huu
      unfold rowCell at hcc
      rw [List.getElem?_set] at hcc
      by_cases hki : i = k
      · subst hki
        rw [if_pos rfl, if_pos (by omega)] at hcc
        have hcc : x.cells[j]? = some c := hcc
        have hj := (List.getElem?_eq_some_iff.1 hcc).1
        rw [if_pos (by omega), show i * n + j - i * n = j by omega] at huu
        exact e2 j c u hcc (by simpa using huu)
      · rw [if_neg hki] at hcc
        have hj : j < n := by
          cases hz : es[k]? with
          | none => rw [hz] at hcc; cases hcc
          | some z =>
            rw [hz] at hcc
            have hcc : z.cells[j]? = some c := hcc
            rw [← r2 k z hz]; exact (List.getElem?_eq_some_iff.1 hcc).1
        have hne : ¬ (i * n ≤ k * n + j ∧ k * n + j < i * n + n) := by
          rcases Nat.lt_or_ge k i with hlt | hge
          · have : (k + 1) * n ≤ i * n := Nat.mul_le_mul_right _ hlt
            rw [Nat.add_mul] at this; omega
          · have : (i + 1) * n ≤ k * n := Nat.mul_le_mul_right _ (by omega)
            rw [Nat.add_mul] at this; omega
        rw [if_neg hne] at huu
        exact r3 k j c u hcc huu
def telemT (P : Program) (t : TypeId) : Option TypeId := match P.underlying t with | some (.slice e) => some e | _ => none
/-- The elements of a slice that is written out. -/
def abuildS (P : Program) (t : TypeId) (len : Nat) (ps : List (Nat × AV)) : Option (List AV) :=
  (telem P t).bind fun q => (telemT P t).bind fun e => (tzero P e).bind fun z => if z.cells.length = q.1 ∧ len * q.1 ≤ 16777216 ∧ 0 < q.1 ∧ z.okv = true then afillR q.1 len (List.replicate len z) ps else none
theorem ofV_cells (v : Value) : (ofV v).cells.length = v.cells.size := by cases v <;> simp [ofV, AV.cells, Value.cells]
theorem run_buildS {t : TypeId} {len : Nat} {ps : Array (Nat × Operand)} {es : List AV} (h : abuildS P t len (ps.toList.map fun q => (q.1, ρ q.2)) = some es) {G} {e : Operand → Value} {w} (he : ∀ x, Rep G w (ρ x) (e x)) :
    ∃ arr el n, (Instr.buildSlice t len (ps.map fun (i, x) => (i, e x))).run P w = .ok (.slice (some ⟨w.heap.size, 0, none⟩) es.length es.length) (w.alloc (.cells arr el)) ∧ RowsAs G w n es arr := by
  obtain ⟨⟨n, g, by_⟩, hq, h⟩ := Option.bind_eq_some_iff.1 h
  obtain ⟨el, hel, h⟩ := Option.bind_eq_some_iff.1 h
  obtain ⟨z, hz, h⟩ := Option.bind_eq_some_iff.1 h
  obtain ⟨⟨hzn, hsm, hpos, hzok⟩, h⟩ := ite_some' h
  have hzn : z.cells.length = n := hzn
  have hsm : len * n ≤ 16777216 := hsm
  have hpos : 0 < n := hpos
  have h : afillR n len (List.replicate len z) (ps.toList.map fun q => (q.1, ρ q.2)) = some es := h
  obtain ⟨e', i', h1, h2, h3, _⟩ := telem_spec hq
  have hee : e' = el := by simpa [telemT, h1] using hel
  subst hee
  obtain ⟨it, zv, hi, hzv, rfl⟩ := tzero_spec hz
  obtain rfl := Option.some.inj (h2.symm.trans hi)
  obtain ⟨i2, d2, t1, t2, t3, _⟩ := tsize_spec h3
  obtain rfl := Option.some.inj (h2.symm.trans t1)
  have hzs : zv.cells.size = n := by rw [← ofV_cells]; exact hzn
  have h0 : RowsAs G w n (List.replicate len (ofV zv)) ((Array.range (len * n)).map (zv.cells[· % zv.cells.size]!)) := by
    refine ⟨by simp, fun i x hx => ?_, fun i j c v hc hv => ?_⟩
    · rw [List.getElem?_replicate] at hx
      split at hx
      · obtain rfl := Option.some.inj hx; exact hzn
      · cases hx
    · obtain ⟨_, hj, hlt⟩ := rowCell_lt (n := n) hc (fun i x hx => by
        rw [List.getElem?_replicate] at hx
        split at hx
        · obtain rfl := Option.some.inj hx; exact hzn
        · cases hx)
      simp only [List.length_replicate] at hlt
      have hc' : (ofV zv).cells[j]? = some c := by
        unfold rowCell at hc
        obtain ⟨x, hx, hc⟩ := Option.bind_eq_some_iff.1 hc
        rw [List.getElem?_replicate] at hx
        split at hx
        · obtain rfl := Option.some.inj hx; exact hc
        · cases hx
      have hmod : (i * n + j) % n = j := by rw [Nat.mul_comm, Nat.mul_add_mod]; exact Nat.mod_eq_of_lt hj
      have hv' : v = zv.cells[j]! := by
        rw [Array.getElem?_map, Array.getElem?_range, if_pos hlt] at hv
        simp only [Option.map_some, Option.some.injEq, hzs, hmod] at hv
        exact hv.symm
      have hj' : j < zv.cells.size := by omega
      rw [getElem!_pos zv.cells j hj'] at hv'
      exact (rep_cells hzok (rep_ofV G w zv)).2.1 j c v hc' (by rw [hv']; exact Array.getElem?_eq_getElem hj')
  obtain ⟨arr', hfill, hrows⟩ := afillR_spec (G := G) (w := w) (n := n) (len := len) (ps.toList.map fun q => (q.1, ρ q.2)) (ps.toList.map fun q => (q.1, e q.2)) _ es _ (by simp) (by simp)
    (fun i p q hp hq => by
      simp only [List.getElem?_map, Option.map_eq_some_iff] at hp hq
      obtain ⟨a, ha, rfl⟩ := hp
      obtain ⟨b, hb, rfl⟩ := hq
      obtain rfl := Option.some.inj (ha.symm.trans hb)
      exact ⟨rfl, he _⟩) h0 h
  have hlen : es.length = len := by have := afillR_length h; simpa using this
  refine ⟨arr', e', n, ?_, hrows⟩
  rw [hlen]
  have hfill2 : Instr.fill (fun i => some (i * i'.size, i'.size)) ((Array.range (len * i'.size)).map (zv.cells[· % zv.cells.size]!)) (ps.map fun (i, x) => (i, e x)).toList = some arr' := by
    rw [t3]; simpa using hfill
  by_cases hl0 : len = 0
  · subst hl0
    have hp : ps = #[] := by
      cases hps : ps.toList with
      | nil => simpa using hps
      | cons q r => rw [hps] at h; simp [afillR] at h
    subst hp
    have : arr' = #[] := Array.eq_empty_of_size_eq_zero (by rw [hrows.1, hlen]; simp)
    subst this
    simp only [Instr.buildSlice, Sem.run_bind, run_underlying' h1, Result.andThen_ok, run_sizeOf' h3, Nat.zero_mul, if_neg (show ¬ (0 : Nat) > 2 ^ 24 by decide), if_true, Sem.run_pure]
    rw [show ((Array.range 0).map (fun x => (#[] : Array Value)[x % (#[] : Array Value).size]!)) = #[] from Array.eq_empty_of_size_eq_zero (by simp)]
    simp [Instr.fill, newRow]
  · have hnz : ¬ len * i'.size = 0 := by rw [t3]; exact Nat.mul_ne_zero hl0 (by omega)
    exact run_buildSlice w t e' len _ arr' i' zv h1 h2 hzv (by rw [t3]; omega) hnz hfill2
theorem opq_buildSlice_ro {t : TypeId} {len : Nat} {ps : Array (Nat × Operand)} (ho : o.op = .buildSlice t len ps) {es : List AV} (h : abuildS P t len (ps.toList.map fun q => (q.1, ρ q.2)) = some es) (hr : R (.vsl es) σ) : OpQ P o ρ σ R := by
  intro G e w he hw
  obtain ⟨arr, el, n, hrun, hrows⟩ := run_buildS h he
  obtain ⟨G', h1, h2, h3⟩ := new_vsl hw hrows el (Nat.le_refl _) w (Below.refl _ _)
  simp only [execOp, ho, Sem.run_bind, hrun, Result.andThen_ok, Sem.run_pure]
  exact ⟨_, G', σ, h1, h2, h3, hr⟩
theorem opq_buildSlice_mut {t : TypeId} {len : Nat} {ps : Array (Nat × Operand)} (ho : o.op = .buildSlice t len ps) {es : List AV} (h : abuildS P t len (ps.toList.map fun q => (q.1, ρ q.2)) = some es) (hr : R (.hsl σ.next 0 es.length) (σ.addSl es)) : OpQ P o ρ σ R := by
  intro G e w he hw
  obtain ⟨arr, el, n, hrun, hrows⟩ := run_buildS h he
  simp only [execOp, ho, Sem.run_bind, hrun, Result.andThen_ok, Sem.run_pure]
  by_cases hes : es = []
  · subst hes
    obtain ⟨G', h1, h2, h3⟩ := new_nil hw (w.alloc (.cells arr el)) (below_alloc' w _) (some ⟨w.heap.size, 0, none⟩)
    exact ⟨_, G', _, h1, h2, h3, hr⟩
  · obtain ⟨G', h1, h2, h3⟩ := new_hsl hw hrows.2.1 hrows.2.2 (List.length_pos_iff.2 hes) (Nat.le_refl _) (Nat.le_of_eq hrows.1.symm) el w (Below.refl _ _)
    exact ⟨_, G', _, h1, h2, h3, hr⟩
end Go.AL
