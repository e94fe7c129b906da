/- Parts of the proof of ArenaStays: the logic, contracts, plain laws. -/
import Derived.Test.YtofopejmidlceaaDoorZArenaStays3
import Derived.Laws.AppendOwn
import Derived.Laws.Append
/-! Operations, fifth part: structs, slices made, cut, appended to. -/
namespace Go.AL
open Go.RowKit (Below)
set_option linter.unusedVariables false
set_option linter.unusedSimpArgs false
variable {P : Program} {o : Oper} {ρ : Operand → AV} {σ : ASt} {R : AV → ASt → Prop}
/-! ### structs made -/
def tplaces (P : Program) (t : TypeId) : Option (List (Nat × Nat)) :=
  match P.underlying t with
  | some (.struct fs) => fs.toList.mapM fun f => (P.info? f.type).map fun i => (f.offset, i.size)
  | some (.array n e) => (P.info? e).map fun i => (List.range n).map fun k => (k * i.size, i.size)
  | _ => none
def afill (pl : List (Nat × Nat)) (cs : List AV) : List (Nat × AV) → Option (List AV)
  | [] => some cs
  | (i, x) :: r => match pl[i]? with
    | none => none
    | some (off, size) => if x.cells.length = size ∧ off + size ≤ cs.length ∧ x.okv = true then afill pl (setCells cs off x.cells) r else none
def abuild (P : Program) (t : TypeId) (ps : List (Nat × AV)) : Option AV :=
  match tzero P t, tplaces P t with
  | some (.agg zc), some pl => (afill pl zc ps).map .agg
  | _, _ => none
theorem fold_get (off : Nat) : ∀ (l : List Value) (s : Nat) (arr : Array Value) (k : Nat), off + s + l.length ≤ arr.size →
    ((l.zipIdx s).foldl (fun (cs : Array Value) (q : Value × Nat) => cs.setIfInBounds (off + q.2) q.1) arr)[k]? = if off + s ≤ k ∧ k < off + s + l.length then l[k - (off + s)]? else arr[k]?
  | [], s, arr, k, _ => by simp; omega
  | v :: l, s, arr, k, h => by
    simp only [List.length_cons] at h
    rw [List.zipIdx_cons, List.foldl_cons, fold_get off l (s + 1) _ k (by simp; omega)]
    by_cases h1 : off + (s + 1) ≤ k ∧ k < off + (s + 1) + l.length
    · rw [if_pos h1, if_pos (by simp; omega), show k - (off + s) = (k - (off + (s + 1))) + 1 by omega, List.getElem?_cons_succ]
    · rw [if_neg h1]
      by_cases h2 : k = off + s
      · subst h2
        rw [if_pos (by simp)]
        simp only [Nat.sub_self, List.getElem?_cons_zero]
        rw [Array.getElem?_setIfInBounds_self_of_lt (by omega)]
      · rw [if_neg (by simp; omega), Array.getElem?_setIfInBounds_ne (by omega)]
theorem fold_size (off : Nat) : ∀ (l : List Value) (s : Nat) (arr : Array Value), ((l.zipIdx s).foldl (fun (cs : Array Value) (q : Value × Nat) => cs.setIfInBounds (off + q.2) q.1) arr).size = arr.size
  | [], s, arr => rfl
  | v :: l, s, arr => by rw [List.zipIdx_cons, List.foldl_cons, fold_size off l (s + 1)]; simp
/-- A list of cells, and what they are. -/
def CellsAs (G : Ghost) (w : World) (cs : List AV) (arr : Array Value) : Prop := cs.length = arr.size ∧ ∀ (i : Nat) c v, cs[i]? = some c → arr[i]? = some v → Rep G w c v
theorem afill_spec {G w} (place : Nat → Option (Nat × Nat)) (pl : List (Nat × Nat)) (hpl : ∀ i q, pl[i]? = some q → place i = some q) : ∀ (ps : List (Nat × AV)) (qs : List (Nat × Value)) (cs cs' : List AV) (arr : Array Value),
    ps.length = qs.length → (∀ (i : Nat) p q, ps[i]? = some p → qs[i]? = some q → p.1 = q.1 ∧ Rep G w p.2 q.2) → CellsAs G w cs arr → afill pl cs ps = some cs' → ∃ arr', Instr.fill place arr qs = some arr' ∧ CellsAs G w cs' arr'
  | [], [], cs, cs', arr, _, _, hc, h => by obtain rfl := Option.some.inj h; exact ⟨arr, rfl, hc⟩
  | [], _ :: _, _, _, _, hl, _, _, _ => by cases hl
  | _ :: _, [], _, _, _, hl, _, _, _ => by cases hl
  | (i, x) :: ps, (j, v) :: qs, cs, cs', arr, hl, hr, hc, h => by
    obtain ⟨h1, h2⟩ := hr 0 (i, x) (j, v) rfl rfl
    have h1 : i = j := h1
    have h2 : Rep G w x v := h2
    subst h1
    unfold afill at h
    split at h
    · cases h
    · rename_i off size hp
      split at h
      · rename_i hcond
        obtain ⟨c1, c2, c3⟩ := hcond
        obtain ⟨e1, e2, e3⟩ := rep_cells c3 h2
        have e1 : v.cells.size = x.cells.length := e1
        have hsz := hc.1
        unfold Instr.fill
        rw [hpl i _ hp]
        have hcond2 : ¬ ((decide (v.cells.size ≠ size) || decide (off + v.cells.size > arr.size)) = true) := by simp; omega
        simp only [hcond2]
        have hfold : (Array.foldl (fun (cs : Array Value) (x : Value × Nat) => cs.setIfInBounds (off + x.2) x.1) arr v.cells.zipIdx) = (v.cells.toList.zipIdx 0).foldl (fun (cs : Array Value) (q : Value × Nat) => cs.setIfInBounds (off + q.2) q.1) arr := by
          rw [← Array.foldl_toList, Array.toList_zipIdx]
        refine afill_spec place pl hpl ps qs _ cs' _ (by simpa using hl) (fun k p q hp hq => hr (k + 1) p q (by simpa using hp) (by simpa using hq)) ?_ h
        rw [hfold]
        refine ⟨by rw [setCells_length, fold_size]; exact hsz, fun k c u hcc huu => ?_⟩
        rw [setCells_get _ _ _ _ (by omega)] at hcc
        rw [fold_get off _ 0 _ _ (by simp; omega)] at huu
        simp only [Nat.add_zero, Array.length_toList, e1] at huu
        split at hcc
        · rename_i hk
          rw [if_pos hk] at huu
          exact e2 _ c u hcc (by simpa using huu)
        · rename_i hk
          rw [if_neg hk] at huu
          exact hc.2 k c u hcc huu
      · cases h
theorem opq_build {t : TypeId} {parts : Array (Nat × Operand)} (ho : o.op = .build t parts) {r : AV} (h : abuild P t (parts.toList.map fun q => (q.1, ρ q.2)) = some r) (hr : R r σ) : OpQ P o ρ σ R := by
  refine opq_v (s := fun e => Instr.build t (parts.map fun (i, x) => (i, e x))) (fun e => by simp only [execOp, ho]) r hr fun G e w he hw => ?_
  unfold abuild at h
  split at h
  · rename_i zc pl hz hp
    obtain ⟨cs', hf, rfl⟩ := Option.map_eq_some_iff.1 h
    obtain ⟨it, z, hi, hzv, hze⟩ := tzero_spec hz
    unfold tplaces at hp
    split at hp
    · rename_i fs hu
      have hza : ∃ zs, z = .agg zs ∧ zc = zs.toList.map .p := by
        cases z with
        | agg zs => exact ⟨zs, rfl, by simpa [ofV] using hze⟩
        | _ => cases hze
      obtain ⟨zs, rfl, rfl⟩ := hza
      obtain ⟨arr', hfill, hca⟩ := afill_spec (G := G) (w := w) (pl.toArray[·]?) pl (fun i q hq => by simpa using hq) (parts.toList.map fun q => (q.1, ρ q.2)) (parts.toList.map fun q => (q.1, e q.2)) _ cs' zs (by simp)
        (fun i p q hp hq => by
          simp only [List.getElem?_map, Option.map_eq_some_iff] at hp hq
          obtain ⟨a, ha, rfl⟩ := hp
          obtain ⟨b, hb, rfl⟩ := hq
          obtain rfl := Option.some.inj (ha.symm.trans hb)
          exact ⟨rfl, he _⟩)
        ⟨by simp, fun i c v hc hv => by
          rw [List.getElem?_map, Array.getElem?_toList, hv] at hc
          obtain rfl := Option.some.inj hc
          exact .p _⟩ hf
      have hb : P.built t (parts.map fun (i, x) => (i, e x)).toList = some arr' := by
        unfold Program.built
        simp only [hi, hu, hzv, hp, Value.cells]
        simpa using hfill
      exact ⟨.agg arr', run_build w t _ arr' hb, .agg _ _ hca.1 hca.2⟩
    · rename_i n el hu
      obtain ⟨ie, hie, rfl⟩ := Option.map_eq_some_iff.1 hp
      have hza : ∃ zs, z = .agg zs ∧ zc = zs.toList.map .p := by
        cases z with
        | agg zs => exact ⟨zs, rfl, by simpa [ofV] using hze⟩
        | _ => cases hze
      obtain ⟨zs, rfl, rfl⟩ := hza
      obtain ⟨arr', hfill, hca⟩ := afill_spec (G := G) (w := w) (fun i => some (i * ie.size, ie.size)) ((List.range n).map fun k => (k * ie.size, ie.size)) (fun i q hq => by
          rw [List.getElem?_map] at hq
          obtain ⟨k, hk, rfl⟩ := Option.map_eq_some_iff.1 hq
          obtain ⟨_, hk⟩ := List.getElem?_eq_some_iff.1 hk
          rw [List.getElem_range] at hk
          rw [hk]) (parts.toList.map fun q => (q.1, ρ q.2)) (parts.toList.map fun q => (q.1, e q.2)) _ cs' zs (by simp)
        (fun i p q hp hq => by
          simp only [List.getElem?_map, Option.map_eq_some_iff] at hp hq
          obtain ⟨a, ha, rfl⟩ := hp
          obtain ⟨b, hb, rfl⟩ := hq
          obtain rfl := Option.some.inj (ha.symm.trans hb)
          exact ⟨rfl, he _⟩)
        ⟨by simp, fun i c v hc hv => by
          rw [List.getElem?_map, Array.getElem?_toList, hv] at hc
          obtain rfl := Option.some.inj hc
          exact .p _⟩ hf
      have hb : P.built t (parts.map fun (i, x) => (i, e x)).toList = some arr' := by
        unfold Program.built
        simp only [hi, hu, hzv, hie, Value.cells]
        simpa using hfill
      exact ⟨.agg arr', run_build w t _ arr' hb, .agg _ _ hca.1 hca.2⟩
    · cases hp
  · cases h
/-! ### slices made -/
/-- Rows of elements. -/
def RowsAs (G : Ghost) (w : World) (n : Nat) (es : List AV) (arr : Array Value) : Prop :=
  arr.size = es.length * n ∧ (∀ (i : Nat) x, es[i]? = some x → x.cells.length = n) ∧ ∀ (i j : Nat) c v, rowCell es i j = some c → arr[i * n + j]? = some v → Rep G w c v
theorem rowCell_lt {es : List AV} {i j n : Nat} {c : AV} (h : rowCell es i j = some c) (hn : ∀ (i : Nat) x, es[i]? = some x → x.cells.length = n) : i < es.length ∧ j < n ∧ i * n + j < es.length * n := by
  unfold rowCell at h
  obtain ⟨x, hx, hj⟩ := Option.bind_eq_some_iff.1 h
  have h1 := (List.getElem?_eq_some_iff.1 hx).1
  have h2 := (List.getElem?_eq_some_iff.1 hj).1
  rw [hn i x hx] at h2
  have : (i + 1) * n ≤ es.length * n := Nat.mul_le_mul_right _ h1
  rw [Nat.add_mul] at this
  exact ⟨h1, h2, by omega⟩
/-- A new row, that stays as it is. -/
theorem new_vsl {G σ w n es arr} (hw : SimW G σ w) (hr : RowsAs G w n es arr) (t : TypeId) {cap : Nat} (hcap : es.length ≤ cap) (w1 : World) (hb1 : Below w.heap.size w w1) :
    ∃ G', Le G w G' (w1.alloc (.cells arr t)) ∧ SimW G' σ (w1.alloc (.cells arr t)) ∧ Rep G' (w1.alloc (.cells arr t)) (.vsl es) (.slice (some ⟨w1.heap.size, 0, none⟩) es.length cap) := by
  have hb := hb1.trans ((below_alloc' w1 (.cells arr t)).mono hb1.size)
  have hl := Le.addSt hw hb (fun β _ => β = w1.heap.size) fun β o e => by subst e; exact hb1.size
  refine ⟨_, hl, hw.addSt hb _ (fun β o e => by subst e; exact ⟨hb1.size, by simp⟩), ?_⟩
  refine Rep.vsl es w1.heap.size 0 n cap (fun i j => arr.getD (i * n + j) undef) hcap hr.2.1 (fun i j c hc => ⟨.inr rfl, ?_⟩) (fun i j c hc => ?_)
  · obtain ⟨_, _, hlt⟩ := rowCell_lt hc hr.2.1
    rw [← hr.1] at hlt
    rw [cell_of_heap (heap_alloc_new w1 _)]
    simp [hlt]
  · obtain ⟨_, _, hlt⟩ := rowCell_lt hc hr.2.1
    rw [← hr.1] at hlt
    have := hr.2.2 i j c _ hc (Array.getElem?_eq_getElem hlt)
    simp only [Array.getD, hlt, dif_pos]
    exact this.mono hl
/-- A new row of the function's own; there may be room behind it. -/
theorem new_hsl {G σ w n es} {arr : Array Value} (hw : SimW G σ w) {cap : Nat} (hn : ∀ (i : Nat) x, es[i]? = some x → x.cells.length = n) (hcell : ∀ (i j : Nat) c v, rowCell es i j = some c → arr[i * n + j]? = some v → Rep G w c v)
    (hpos : 0 < es.length) (hcap : es.length ≤ cap) (hsz : cap * n ≤ arr.size) (hcm : cap ≤ 9223372036854775807) (t : TypeId) (w1 : World) (hb1 : Below w.heap.size w w1) :
    ∃ G', Le G w G' (w1.alloc (.cells arr t)) ∧ SimW G' (σ.addSl es) (w1.alloc (.cells arr t)) ∧ Rep G' (w1.alloc (.cells arr t)) (.hsl σ.next 0 es.length) (.slice (some ⟨w1.heap.size, 0, none⟩) es.length cap) := by
  have hb := hb1.trans ((below_alloc' w1 (.cells arr t)).mono hb1.size)
  have hl := Le.addSl hw hb (some (w1.heap.size, 0, n, cap))
  refine ⟨_, hl, hw.addSl (some (w1.heap.size, 0, n, cap)) hb (fun β q e => ?_) (fun _ => .inr ⟨w1.heap.size, 0, n, cap, arr, t, upd_same _ _ _, heap_alloc_new w1 _, ⟨hpos, hcap⟩, ⟨by omega, hcm⟩, hn, fun i j c v hc hv => ?_⟩), ?_⟩
  · have := (Option.some.inj e); simp only [Prod.mk.injEq] at this; rw [← this.1]; exact hb1.size
  · exact (hcell i j c v hc (by simpa using hv)).mono hl
  · have := Rep.hsl (G := G.addSl σ.next (some (w1.heap.size, 0, n, cap))) (w := w1.alloc (.cells arr t)) σ.next 0 es.length w1.heap.size 0 n cap (upd_same _ _ _) (by omega)
    simpa using this
/-- No slice at all, as one of the function's own. -/
theorem new_nil {G σ w} (hw : SimW G σ w) (w1 : World) (hb1 : Below w.heap.size w w1) (a : Option Addr) :
    ∃ G', Le G w G' w1 ∧ SimW G' (σ.addSl []) w1 ∧ Rep G' w1 (.hsl σ.next 0 0) (.slice a 0 0) := by
  have hl := Le.addSl hw hb1 none
  exact ⟨_, hl, hw.addSl none hb1 (fun β q e => by cases e) (fun _ => .inl ⟨upd_same _ _ _, rfl⟩), .hnil _ _ (upd_same _ _ _)⟩
def afillR (n len : Nat) (es : List AV) : List (Nat × AV) → Option (List AV)
  | [] => some es
  | (i, x) :: r => if x.cells.length = n ∧ i < len ∧ x.okv = true then afillR n len (es.set i x) r else none
theorem afillR_length {n len : Nat} : ∀ {ps : List (Nat × AV)} {es es' : List AV}, afillR n len es ps = some es' → es'.length = es.length
  | [], es, es', h => by obtain rfl := Option.some.inj h; rfl
  | (i, x) :: ps, es, es', h => by
    unfold afillR at h
    obtain ⟨_, h⟩ := ite_some' h
    rw [afillR_length h]; simp
theorem afillR_spec {G w} {n len : Nat} : ∀ (ps : List (Nat × AV)) (qs : List (Nat × Value)) (es es' : List AV) (arr : Array Value), es.length = len →
    ps.length = qs.length → (∀ (i : Nat) p q, ps[i]? = some p → qs[i]? = some q → p.1 = q.1 ∧ Rep G w p.2 q.2) → RowsAs G w n es arr → afillR n len es ps = some es' → ∃ arr', Instr.fill (fun i => some (i * n, n)) arr qs = some arr' ∧ RowsAs G w n es' arr'
  | [], [], es, es', arr, _, _, _, hc, h => by obtain rfl := Option.some.inj h; exact ⟨arr, rfl, hc⟩
  | [], _ :: _, _, _, _, _, hl, _, _, _ => by cases hl
  | _ :: _, [], _, _, _, _, hl, _, _, _ => by cases hl
  | (i, x) :: ps, (j, v) :: qs, es, es', arr, hlen, hl, hr, hc, h => by
    obtain ⟨h1, h2⟩ := hr 0 (i, x) (j, v) rfl rfl
    have h1 : i = j := h1
    have h2 : Rep G w x v := h2
    subst h1
    unfold afillR at h
    obtain ⟨⟨c1, c2, c3⟩, h⟩ := ite_some' h
    obtain ⟨e1, e2, e3⟩ := rep_cells c3 h2
    have e1 : v.cells.size = x.cells.length := e1
    have hv0 : (i, v).2.cells = v.cells := rfl
    obtain ⟨r1, r2, r3⟩ := hc
    have hin : i * n + n ≤ arr.size := by
      have : (i + 1) * n ≤ es.length * n := Nat.mul_le_mul_right _ (by omega)
      rw [Nat.add_mul] at this; omega
    unfold Instr.fill
    have hcond2 : ¬ ((decide (v.cells.size ≠ n) || decide (i * n + v.cells.size > arr.size)) = true) := by simp; omega
    simp only [hcond2]
    have hfold : (Array.foldl (fun (cs : Array Value) (x : Value × Nat) => cs.setIfInBounds (i * n + x.2) x.1) arr v.cells.zipIdx) = (v.cells.toList.zipIdx 0).foldl (fun (cs : Array Value) (q : Value × Nat) => cs.setIfInBounds (i * n + q.2) q.1) arr := by
      rw [← Array.foldl_toList, Array.toList_zipIdx]
    refine afillR_spec ps qs (es.set i x) es' _ (by simpa using hlen) (by simpa using hl) (fun k p q hp hq => hr (k + 1) p q (by simpa using hp) (by simpa using hq)) ?_ h
    rw [hfold]
    refine ⟨by rw [fold_size]; simpa using r1, fun k z hz => ?_, fun k j c u hcc huu => ?_⟩
    · rw [List.getElem?_set] at hz
      split at hz
      · split at hz
        · obtain rfl := Option.some.inj hz; exact c1
        · cases hz
      · exact r2 k z hz
    · rw [fold_get (i * n) _ 0 _ _ (by simp; omega)] at huu
      simp only [Nat.add_zero, Array.length_toList, e1, c1] at huu
      unfold rowCell at hcc
      rw [List.getElem?_set] at hcc
      by_cases hki : i = k
      · subst hki
        rw [if_pos rfl, if_pos (by omega)] at hcc
        have hcc : x.cells[j]? = some c := hcc
        have hj := (List.getElem?_eq_some_iff.1 hcc).1
        rw [if_pos (by omega), show i * n + j - i * n = j by omega] at huu
        exact e2 j c u hcc (by simpa using huu)
      · rw [if_neg hki] at hcc
        have hj : j < n := by
          cases hz : es[k]? with
          | none => rw [hz] at hcc; cases hcc
          | some z =>
            rw [hz] at hcc
            have hcc : z.cells[j]? = some c := hcc
            rw [← r2 k z hz]; exact (List.getElem?_eq_some_iff.1 hcc).1
        have hne : ¬ (i * n ≤ k * n + j ∧ k * n + j < i * n + n) := by
          rcases Nat.lt_or_ge k i with hlt | hge
          · have : (k + 1) * n ≤ i * n := Nat.mul_le_mul_right _ hlt
            rw [Nat.add_mul] at this; omega
          · have : (i + 1) * n ≤ k * n := Nat.mul_le_mul_right _ (by omega)
            rw [Nat.add_mul] at this; omega
        rw [if_neg hne] at huu
        exact r3 k j c u hcc huu
def telemT (P : Program) (t : TypeId) : Option TypeId := match P.underlying t with | some (.slice e) => some e | _ => none
/-- The elements of a slice that is written out. -/
def abuildS (P : Program) (t : TypeId) (len : Nat) (ps : List (Nat × AV)) : Option (List AV) :=
  (telem P t).bind fun q => (telemT P t).bind fun e => (tzero P e).bind fun z => if z.cells.length = q.1 ∧ len * q.1 ≤ 16777216 ∧ 0 < q.1 ∧ z.okv = true then afillR q.1 len (List.replicate len z) ps else none
theorem ofV_cells (v : Value) : (ofV v).cells.length = v.cells.size := by cases v <;> simp [ofV, AV.cells, Value.cells]
theorem run_buildS {t : TypeId} {len : Nat} {ps : Array (Nat × Operand)} {es : List AV} (h : abuildS P t len (ps.toList.map fun q => (q.1, ρ q.2)) = some es) {G} {e : Operand → Value} {w} (he : ∀ x, Rep G w (ρ x) (e x)) :
    ∃ arr el n, (Instr.buildSlice t len (ps.map fun (i, x) => (i, e x))).run P w = .ok (.slice (some ⟨w.heap.size, 0, none⟩) es.length es.length) (w.alloc (.cells arr el)) ∧ RowsAs G w n es arr ∧ es.length ≤ 16777216 := by
  obtain ⟨⟨n, g, by_⟩, hq, h⟩ := Option.bind_eq_some_iff.1 h
  obtain ⟨el, hel, h⟩ := Option.bind_eq_some_iff.1 h
  obtain ⟨z, hz, h⟩ := Option.bind_eq_some_iff.1 h
  obtain ⟨⟨hzn, hsm, hpos, hzok⟩, h⟩ := ite_some' h
  have hzn : z.cells.length = n := hzn
  have hsm : len * n ≤ 16777216 := hsm
  have hpos : 0 < n := hpos
  have h : afillR n len (List.replicate len z) (ps.toList.map fun q => (q.1, ρ q.2)) = some es := h
  obtain ⟨e', i', h1, h2, h3, _⟩ := telem_spec hq
  have hee : e' = el := by simpa [telemT, h1] using hel
  subst hee
  obtain ⟨it, zv, hi, hzv, rfl⟩ := tzero_spec hz
  obtain rfl := Option.some.inj (h2.symm.trans hi)
  obtain ⟨i2, d2, t1, t2, t3, _⟩ := tsize_spec h3
  obtain rfl := Option.some.inj (h2.symm.trans t1)
  have hzs : zv.cells.size = n := by rw [← ofV_cells]; exact hzn
  have h0 : RowsAs G w n (List.replicate len (ofV zv)) ((Array.range (len * n)).map (zv.cells[· % zv.cells.size]!)) := by
    refine ⟨by simp, fun i x hx => ?_, fun i j c v hc hv => ?_⟩
    · rw [List.getElem?_replicate] at hx
      split at hx
      · obtain rfl := Option.some.inj hx; exact hzn
      · cases hx
    · obtain ⟨_, hj, hlt⟩ := rowCell_lt (n := n) hc (fun i x hx => by
        rw [List.getElem?_replicate] at hx
        split at hx
        · obtain rfl := Option.some.inj hx; exact hzn
        · cases hx)
      simp only [List.length_replicate] at hlt
      have hc' : (ofV zv).cells[j]? = some c := by
        unfold rowCell at hc
        obtain ⟨x, hx, hc⟩ := Option.bind_eq_some_iff.1 hc
        rw [List.getElem?_replicate] at hx
        split at hx
        · obtain rfl := Option.some.inj hx; exact hc
        · cases hx
      have hmod : (i * n + j) % n = j := by rw [Nat.mul_comm, Nat.mul_add_mod]; exact Nat.mod_eq_of_lt hj
      have hv' : v = zv.cells[j]! := by
        rw [Array.getElem?_map, Array.getElem?_range, if_pos hlt] at hv
        simp only [Option.map_some, Option.some.injEq, hzs, hmod] at hv
        exact hv.symm
      have hj' : j < zv.cells.size := by omega
      rw [getElem!_pos zv.cells j hj'] at hv'
      exact (rep_cells hzok (rep_ofV G w zv)).2.1 j c v hc' (by rw [hv']; exact Array.getElem?_eq_getElem hj')
  obtain ⟨arr', hfill, hrows⟩ := afillR_spec (G := G) (w := w) (n := n) (len := len) (ps.toList.map fun q => (q.1, ρ q.2)) (ps.toList.map fun q => (q.1, e q.2)) _ es _ (by simp) (by simp)
    (fun i p q hp hq => by
      simp only [List.getElem?_map, Option.map_eq_some_iff] at hp hq
      obtain ⟨a, ha, rfl⟩ := hp
      obtain ⟨b, hb, rfl⟩ := hq
      obtain rfl := Option.some.inj (ha.symm.trans hb)
      exact ⟨rfl, he _⟩) h0 h
  have hlen : es.length = len := by have := afillR_length h; simpa using this
  refine ⟨arr', e', n, ?_, hrows, by rw [hlen]; exact Nat.le_trans (Nat.le_mul_of_pos_right len hpos) hsm⟩
  rw [hlen]
  have hfill2 : Instr.fill (fun i => some (i * i'.size, i'.size)) ((Array.range (len * i'.size)).map (zv.cells[· % zv.cells.size]!)) (ps.map fun (i, x) => (i, e x)).toList = some arr' := by
    rw [t3]; simpa using hfill
  by_cases hl0 : len = 0
  · subst hl0
    have hp : ps = #[] := by
      cases hps : ps.toList with
      | nil => simpa using hps
      | cons q r => rw [hps] at h; simp [afillR] at h
    subst hp
    have : arr' = #[] := Array.eq_empty_of_size_eq_zero (by rw [hrows.1, hlen]; simp)
    subst this
    simp only [Instr.buildSlice, Sem.run_bind, run_underlying' h1, Result.andThen_ok, run_sizeOf' h3, Nat.zero_mul, if_neg (show ¬ (0 : Nat) > 2 ^ 24 by decide), if_true, Sem.run_pure]
    rw [show ((Array.range 0).map (fun x => (#[] : Array Value)[x % (#[] : Array Value).size]!)) = #[] from Array.eq_empty_of_size_eq_zero (by simp)]
    simp [Instr.fill, newRow]
  · have hnz : ¬ len * i'.size = 0 := by rw [t3]; exact Nat.mul_ne_zero hl0 (by omega)
    exact run_buildSlice w t e' len _ arr' i' zv h1 h2 hzv (by rw [t3]; omega) hnz hfill2
theorem opq_buildSlice_ro {t : TypeId} {len : Nat} {ps : Array (Nat × Operand)} (ho : o.op = .buildSlice t len ps) {es : List AV} (h : abuildS P t len (ps.toList.map fun q => (q.1, ρ q.2)) = some es) (hr : R (.vsl es) σ) : OpQ P o ρ σ R := by
  intro G e w he hw
  obtain ⟨arr, el, n, hrun, hrows, hl24⟩ := run_buildS h he
  obtain ⟨G', h1, h2, h3⟩ := new_vsl hw hrows el (Nat.le_refl _) w (Below.refl _ _)
  simp only [execOp, ho, Sem.run_bind, hrun, Result.andThen_ok, Sem.run_pure]
  exact ⟨_, G', σ, h1, h2, h3, hr⟩
theorem opq_buildSlice_mut {t : TypeId} {len : Nat} {ps : Array (Nat × Operand)} (ho : o.op = .buildSlice t len ps) {es : List AV} (h : abuildS P t len (ps.toList.map fun q => (q.1, ρ q.2)) = some es) (hr : R (.hsl σ.next 0 es.length) (σ.addSl es)) : OpQ P o ρ σ R := by
  intro G e w he hw
  obtain ⟨arr, el, n, hrun, hrows, hl24⟩ := run_buildS h he
  simp only [execOp, ho, Sem.run_bind, hrun, Result.andThen_ok, Sem.run_pure]
  by_cases hes : es = []
  · subst hes
    obtain ⟨G', h1, h2, h3⟩ := new_nil hw (w.alloc (.cells arr el)) (below_alloc' w _) (some ⟨w.heap.size, 0, none⟩)
    exact ⟨_, G', _, h1, h2, h3, hr⟩
  · obtain ⟨G', h1, h2, h3⟩ := new_hsl hw hrows.2.1 hrows.2.2 (List.length_pos_iff.2 hes) (Nat.le_refl _) (Nat.le_of_eq hrows.1.symm) (by omega) el w (Below.refl _ _)
    exact ⟨_, G', _, h1, h2, h3, hr⟩
end Go.AL
/-! Operations, sixth part: cuts, append. -/
namespace Go.AL
open Go.RowKit (Below)
set_option linter.unusedVariables false
set_option linter.unusedSimpArgs false
variable {P : Program} {o : Oper} {ρ : Operand → AV} {σ : ASt} {R : AV → ASt → Prop}
/-! ### cuts -/
def abound (d : Nat) : Option AV → Option Nat
  | none => some d
  | some (.p (.int _ i)) => if 0 ≤ i then some i.toNat else none
  | some _ => none
def BoundAs (G : Ghost) (w : World) : Option AV → Option Value → Prop
  | none, none => True
  | some a, some v => Rep G w a v
  | _, _ => False
theorem run_sliceBound {G w} {a : Option AV} {v : Option Value} (h : BoundAs G w a v) {d k y : Nat} (hk : abound d a = some k) (hle : k ≤ y) (c : BoundsCode) :
    (v = none ∧ d = k) ∨ ∃ u, v = some u ∧ (Instr.sliceBound u y c).run P w = .ok k w := by
  cases a with
  | none =>
    cases v with
    | none => exact .inl ⟨rfl, Option.some.inj hk⟩
    | some v => exact h.elim
  | some a =>
    cases v with
    | none => exact h.elim
    | some v =>
      refine .inr ⟨v, rfl, ?_⟩
      cases a with
      | p x =>
        cases x with
        | int q i =>
          obtain ⟨h0, hk⟩ := ite_some' hk
          obtain rfl := Option.some.inj hk
          cases h
          have hc : 0 ≤ i ∧ i ≤ (y : Int) := ⟨h0, by omega⟩
          simp [Instr.sliceBound, asIntOf, hc]
        | _ => cases hk
      | _ => cases hk
theorem run_sliceBounds {G w} {lo hi : Option AV} {vlo vhi : Option Value} (h1 : BoundAs G w lo vlo) (h2 : BoundAs G w hi vhi) {len cap l h : Nat} (hl : abound 0 lo = some l) (hh : abound len hi = some h) (hle : l ≤ h) (hcap : h ≤ cap) (s : Bool) :
    (Instr.sliceBounds s len cap vlo vhi none).run P w = .ok (l, h, cap) w := by
  rcases run_sliceBound (P := P) h2 hh hcap (if s then .sliceAcap else .sliceAlen) with ⟨rfl, rfl⟩ | ⟨u, rfl, hr⟩ <;> rcases run_sliceBound (P := P) h1 hl hle .sliceB with ⟨rfl, rfl⟩ | ⟨u', rfl, hr'⟩
  · simp [Instr.sliceBounds]
  · simp [Instr.sliceBounds, hr']
  · simp [Instr.sliceBounds, hr]
  · simp [Instr.sliceBounds, hr, hr']
def aslice (P : Program) (σ : ASt) (t : TypeId) (x : AV) (lo hi : Option AV) : Option AV :=
  match x with
  | .p (.string s) => if isString P t = true then (abound 0 lo).bind fun l => (abound s.size hi).bind fun h => if l ≤ h ∧ h ≤ s.size then some (.p (.string (s.extract l h))) else none else none
  | .vsl xs => (telem P t).bind fun q => (abound 0 lo).bind fun l => (abound xs.length hi).bind fun h =>
      if l ≤ h ∧ h ≤ xs.length ∧ (∀ y ∈ xs[l]?, y.cells.length = q.1) then some (.vsl ((xs.take h).drop l)) else none
  | .hsl b off n => (telem P t).bind fun q => (abound 0 lo).bind fun l => (abound n hi).bind fun h =>
      if l ≤ h ∧ h ≤ n then (if l = 0 then some (.hsl b off h) else (σ.sl b).bind fun xs => (xs[off]?).bind fun y => if y.cells.length = q.1 then some (.hsl b (off + l) (h - l)) else none) else none
  | _ => none
theorem rowCell_cut (xs : List AV) (l h i j : Nat) (c : AV) (hc : rowCell ((xs.take h).drop l) i j = some c) : rowCell xs (l + i) j = some c ∧ l + i < h := by
  unfold rowCell at *
  obtain ⟨x, hx, hj⟩ := Option.bind_eq_some_iff.1 hc
  rw [List.getElem?_drop, List.getElem?_take] at hx
  split at hx
  · rename_i hlt
    exact ⟨by rw [hx]; exact hj, hlt⟩
  · cases hx
theorem opq_slice {t : TypeId} {x : Operand} {lo hi : Option Operand} (ho : o.op = .slice t x lo hi none) {r : AV} (h : aslice P σ t (ρ x) (lo.map ρ) (hi.map ρ) = some r) (hr : R r σ) : OpQ P o ρ σ R := by
  refine opq_v (s := fun e => Instr.sliceAt t (e x) (lo.map e) (hi.map e) none) (fun e => by simp only [execOp, ho]; rfl) r hr fun G e w he hw => ?_
  have hx := he x
  have b1 : BoundAs G w (lo.map ρ) (lo.map e) := by cases lo with | none => trivial | some l => exact he l
  have b2 : BoundAs G w (hi.map ρ) (hi.map e) := by cases hi with | none => trivial | some l => exact he l
  generalize ρ x = cx at h hx
  generalize e x = vx at hx
  generalize lo.map ρ = al at h b1
  generalize hi.map ρ = ah at h b2
  generalize lo.map e = vl at b1
  generalize hi.map e = vh at b2
  unfold aslice at h
  split at h
  · rename_i s
    obtain ⟨ht, h⟩ := ite_some' h
    obtain ⟨l, hl, h⟩ := Option.bind_eq_some_iff.1 h
    obtain ⟨k, hk, h⟩ := Option.bind_eq_some_iff.1 h
    obtain ⟨⟨h1, h2⟩, h⟩ := ite_some' h
    obtain rfl := Option.some.inj h
    cases hx
    refine ⟨.string (s.extract l k), ?_, .p _⟩
    have := run_sliceBounds (P := P) b1 b2 hl hk h1 h2 false
    simp [Instr.sliceAt, Instr.slice, run_underlying' (isString_spec ht), this]
  · rename_i xs
    obtain ⟨⟨n, g, by_⟩, hq, h⟩ := Option.bind_eq_some_iff.1 h
    obtain ⟨l, hl, h⟩ := Option.bind_eq_some_iff.1 h
    obtain ⟨k, hk, h⟩ := Option.bind_eq_some_iff.1 h
    obtain ⟨⟨h1, h2, h3⟩, h⟩ := ite_some' h
    obtain rfl := Option.some.inj h
    obtain ⟨e', i', t1, t2, t3, _⟩ := telem_spec hq
    cases hx with
    | vnil a cap =>
      simp only [List.length_nil, Nat.le_zero] at h2 hk
      subst h2
      obtain rfl : l = 0 := by omega
      have := run_sliceBounds (P := P) b1 b2 hl hk (Nat.le_refl _) (Nat.zero_le cap) true
      simp only [Instr.sliceAt, Instr.slice, Sem.run_bind, run_underlying' t1, Result.andThen_ok, this, run_sizeOf' t3, Sem.run_pure]
      exact ⟨_, rfl, .vnil _ _⟩
    | vsl _ β o s cap val hcap hs hc hrr =>
      have := run_sliceBounds (P := P) b1 b2 hl hk h1 (Nat.le_trans h2 hcap) true
      simp only [Instr.sliceAt, Instr.slice, Sem.run_bind, run_underlying' t1, Result.andThen_ok, this, run_sizeOf' t3, Sem.run_pure]
      refine ⟨_, rfl, ?_⟩
      by_cases hlk : l = k
      · subst hlk
        have : (xs.take l).drop l = [] := by simp [List.drop_eq_nil_iff]
        rw [this, Nat.sub_self]
        exact .vnil _ _
      · have hne : ¬ cap = l := by omega
        rw [if_neg hne]
        have hlt : l < xs.length := by omega
        have hs' : s = n := (hs l _ (List.getElem?_eq_getElem hlt)).symm.trans (h3 _ (by rw [List.getElem?_eq_getElem hlt]; rfl))
        subst hs'
        have hlen : ((xs.take k).drop l).length = k - l := by simp; omega
        have hcap2 : ((xs.take k).drop l).length ≤ cap - l := by rw [hlen]; exact Nat.sub_le_sub_right (Nat.le_trans h2 hcap) l
        simp only [Option.map_some, addr_add]
        rw [← hlen]
        refine Rep.vsl _ β (o + l * s) s (cap - l) (fun i j => val (l + i) j) hcap2 (fun i x hx => ?_) (fun i j c hcc => ?_) (fun i j c hcc => hrr _ _ _ (rowCell_cut _ _ _ _ _ _ hcc).1)
        · rw [List.getElem?_drop, List.getElem?_take] at hx
          split at hx
          · exact hs _ _ hx
          · cases hx
        · have := hc _ _ _ (rowCell_cut _ _ _ _ _ _ hcc).1
          rw [show o + l * s + i * s + j = o + (l + i) * s + j by rw [Nat.add_mul]; omega]
          exact this
  · rename_i b off m
    obtain ⟨⟨n, g, by_⟩, hq, h⟩ := Option.bind_eq_some_iff.1 h
    obtain ⟨l, hl, h⟩ := Option.bind_eq_some_iff.1 h
    obtain ⟨k, hk, h⟩ := Option.bind_eq_some_iff.1 h
    obtain ⟨⟨h1, h2⟩, h⟩ := ite_some' h
    obtain ⟨e', i', t1, t2, t3, _⟩ := telem_spec hq
    cases hx with
    | hsl _ _ _ β o s cap gb hle =>
      have := run_sliceBounds (P := P) b1 b2 hl hk h1 (show k ≤ cap - off by omega) true
      simp only [Instr.sliceAt, Instr.slice, Sem.run_bind, run_underlying' t1, Result.andThen_ok, this, run_sizeOf' t3, Sem.run_pure]
      refine ⟨_, rfl, ?_⟩
      by_cases hl0 : l = 0
      · subst hl0
        rw [if_pos rfl] at h
        obtain rfl := Option.some.inj h
        by_cases hcz : cap - off = 0
        · rw [if_pos hcz, hcz, show k - 0 = 0 by omega, show k = 0 by omega]
          exact .hend b off _ β o s cap gb (by omega)
        · rw [if_neg hcz]
          simp only [Option.map_some, addr_add, Nat.zero_mul, Nat.add_zero, Nat.sub_zero]
          exact .hsl b off k β o s cap gb (by omega)
      · rw [if_neg hl0] at h
        obtain ⟨xs, hxs, h⟩ := Option.bind_eq_some_iff.1 h
        obtain ⟨y, hy, h⟩ := Option.bind_eq_some_iff.1 h
        obtain ⟨hyl, h⟩ := ite_some' h
        obtain rfl := Option.some.inj h
        rcases hw.sl b xs hxs with ⟨g1, _⟩ | ⟨β', o', s', cap', arr, el, g1, g2, g3, g4, g5, g6⟩
        · rw [gb] at g1; cases g1
        · obtain ⟨rfl, rfl, rfl, rfl⟩ : β = β' ∧ o = o' ∧ s = s' ∧ cap = cap' := by rw [gb] at g1; simpa using g1
          have hs' : s = n := (g5 _ _ hy).symm.trans hyl
          subst hs'
          by_cases hcl : cap - off = l
          · rw [if_pos hcl, show k - l = 0 by omega, show cap - off - l = 0 by omega]
            exact .hend b (off + l) _ β o s cap gb (by omega)
          · rw [if_neg hcl]
            simp only [Option.map_some, addr_add]
            have e1 : o + off * s + l * s = o + (off + l) * s := by rw [Nat.add_mul]; omega
            have e2 : cap - off - l = cap - (off + l) := by omega
            rw [e1, e2]
            exact .hsl b (off + l) (k - l) β o s cap gb (by omega)
    | hend _ _ a β o s cap gb hle =>
      obtain rfl : k = 0 := by omega
      obtain rfl : l = 0 := by omega
      have := run_sliceBounds (P := P) b1 b2 hl hk (Nat.le_refl _) (Nat.le_refl 0) true
      simp only [Instr.sliceAt, Instr.slice, Sem.run_bind, run_underlying' t1, Result.andThen_ok, this, run_sizeOf' t3, Sem.run_pure]
      rw [if_pos rfl] at h
      obtain rfl := Option.some.inj h
      refine ⟨_, rfl, ?_⟩
      first | rw [if_pos rfl] | rw [if_pos trivial]
      exact .hend b off a β o s cap gb hle
    | hnil _ a gb =>
      obtain rfl : k = 0 := by omega
      obtain rfl : l = 0 := by omega
      have := run_sliceBounds (P := P) b1 b2 hl hk (Nat.le_refl _) (Nat.le_refl 0) true
      simp only [Instr.sliceAt, Instr.slice, Sem.run_bind, run_underlying' t1, Result.andThen_ok, this, run_sizeOf' t3, Sem.run_pure]
      rw [if_pos rfl] at h
      obtain rfl := Option.some.inj h
      refine ⟨_, rfl, ?_⟩
      first | rw [if_pos rfl] | rw [if_pos trivial]
      exact .hnil b a gb
  · cases h
end Go.AL
/-! append. -/
namespace Go.AL
open Go.RowKit (Below)
set_option linter.unusedVariables false
set_option linter.unusedSimpArgs false
variable {P : Program} {o : Oper} {ρ : Operand → AV} {σ : ASt} {R : AV → ASt → Prop}
def ASt.dropSl (σ : ASt) (b : Nat) : ASt := { σ with sl := upd σ.sl b none }
@[simp] theorem dropSl_next (σ : ASt) (b : Nat) : (σ.dropSl b).next = σ.next := rfl
theorem dropSl_le (σ : ASt) (b : Nat) : (σ.dropSl b).Le σ :=
  ⟨fun _ _ h => h, fun _ _ h => h, fun x cs h => by
    by_cases e : x = b
    · subst e; simp [ASt.dropSl] at h
    · exact (upd_ne σ.sl none e).symm.trans h, Nat.le_refl _⟩
theorem SimW.rewriteSl {G σ w w' b xs β r0 r1 xs'} (h : SimW G σ w) (hb : σ.sl b = some xs) (g : G.sl b = some (some (β, r0))) (ht : Touch w w' β)
    (hw : Le G w (G.addSl σ.next (some (β, r1))) w' → SlOK (G.addSl σ.next (some (β, r1))) w' σ.next xs') :
    Le G w (G.addSl σ.next (some (β, r1))) w' ∧ SimW (G.addSl σ.next (some (β, r1))) ((σ.dropSl b).addSl xs') w' := by
  have ho : Owns G σ β (2, b) := .sl b β r0 xs hb g
  have hl0 := Le.touch h ho ht
  have hf := h.fresh σ.next (Nat.le_refl _)
  have hbn : b ≠ σ.next := fun e => by subst e; rw [hf.2.2.1] at g; cases g
  have hl : Le G w (G.addSl σ.next (some (β, r1))) w' := ⟨rfl, fun _ _ e => e, fun _ _ e => e, fun c γ e => (upd_ne G.sl _ (fun hh => by subst hh; rw [hf.2.2.1] at e; cases e)).trans e, fun _ _ e => e, fun _ _ e => .inl e, hl0.cell, hl0.below⟩
  refine ⟨hl, ?_⟩
  have hown : ∀ γ k, Owns (G.addSl σ.next (some (β, r1))) ((σ.dropSl b).addSl xs') γ k → (γ = β ∧ k = (2, σ.next)) ∨ (Owns G σ γ k ∧ γ ≠ β) := by
    intro γ k hk
    cases hk with
    | sl b' β' q cs2 h2 g2 =>
      by_cases e : b' = σ.next
      · subst e
        have := Option.some.inj ((upd_same G.sl σ.next _).symm.trans g2)
        simp only [Option.some.injEq, Prod.mk.injEq] at this
        exact .inl ⟨this.1.symm, rfl⟩
      · have h2' : upd σ.sl b none b' = some cs2 := (upd_ne _ _ e).symm.trans h2
        by_cases e2 : b' = b
        · subst e2; simp at h2'
        · have o2 : Owns G σ γ (2, b') := .sl _ _ q cs2 ((upd_ne _ _ e2).symm.trans h2') ((upd_ne _ _ e).symm.trans g2)
          refine .inr ⟨o2, fun e3 => ?_⟩
          subst e3
          have := (h.own _ _ ho).2.1 _ o2
          simp at this; exact e2 this
    | bx b' β' cs2 h2 g2 =>
      have o2 : Owns G σ γ (0, b') := .bx _ _ cs2 h2 g2
      refine .inr ⟨o2, fun e3 => ?_⟩
      subst e3
      have := (h.own _ _ ho).2.1 _ o2
      simp at this
    | mp b' β' cs2 h2 g2 =>
      have o2 : Owns G σ γ (1, b') := .mp _ _ cs2 h2 g2
      refine .inr ⟨o2, fun e3 => ?_⟩
      subst e3
      have := (h.own _ _ ho).2.1 _ o2
      simp at this
  refine ⟨h.base.go hl.below, fun b' cs2 e => (h.bx b' cs2 e).mono hl fun γ gg => ht.block γ fun hh => ?_, fun b' cs2 e => (h.mp b' cs2 e).mono hl fun γ gg => ht.block γ fun hh => ?_, fun b' cs2 e => ?_, ?_,
    fun γ o e => by rw [ht.size]; exact h.stIn γ o e, fun b' hb' => ?_⟩
  · subst hh
    have := (h.own _ _ ho).2.1 _ (.bx b' γ cs2 e gg)
    simp at this
  · subst hh
    have := (h.own _ _ ho).2.1 _ (.mp b' γ cs2 e gg)
    simp at this
  · by_cases eb : b' = σ.next
    · subst eb
      obtain rfl := Option.some.inj ((upd_same _ σ.next (some xs')).symm.trans e)
      exact hw hl
    · have e' : upd σ.sl b none b' = some cs2 := (upd_ne _ _ eb).symm.trans e
      by_cases e2 : b' = b
      · subst e2; simp at e'
      · have e3 : σ.sl b' = some cs2 := (upd_ne _ _ e2).symm.trans e'
        refine (h.sl b' cs2 e3).mono hl fun γ q gg => ht.block γ fun hh => ?_
        subst hh
        have := (h.own _ _ ho).2.1 _ (.sl b' γ q cs2 e3 gg)
        simp at this; exact e2 this
  · intro γ k hk
    rcases hown γ k hk with ⟨rfl, rfl⟩ | ⟨hk, hne⟩
    · refine ⟨(h.own _ _ ho).1, fun k' hk' => ?_, (h.own _ _ ho).2.2⟩
      rcases hown _ k' hk' with ⟨_, rfl⟩ | ⟨_, hne⟩
      · rfl
      · exact absurd rfl hne
    · refine ⟨(h.own γ k hk).1, fun k' hk' => ?_, (h.own γ k hk).2.2⟩
      rcases hown _ k' hk' with ⟨rfl, _⟩ | ⟨hk', _⟩
      · exact absurd rfl hne
      · exact (h.own γ k hk).2.1 k' hk'
  · have hb2 : σ.next + 1 ≤ b' := hb'
    obtain ⟨f1, f2, f3, f4, f5, f6⟩ := h.fresh b' (by omega)
    have n1 : b' ≠ σ.next := by omega
    refine ⟨f1, f2, (upd_ne _ _ n1).trans f3, f4, f5, (upd_ne _ _ n1).trans ?_⟩
    show upd σ.sl b none b' = none
    by_cases e2 : b' = b
    · subst e2; simp
    · exact (upd_ne _ _ e2).trans f6
/-- So many cells, from an address on, are these elements'. -/
def SegAs (G : Ghost) (w : World) (n : Nat) (ys : List AV) (a : Addr) (news : List Value) : Prop :=
  news.length = ys.length * n ∧ (∀ (k : Nat) u, news[k]? = some u → w.cell? (a.add k) = some u) ∧ ∀ (i j : Nat) c u, rowCell ys i j = some c → news[i * n + j]? = some u → Rep G w c u
theorem seg_of {G w n} {ys : List AV} {β o : Nat} (hn : ∀ (i : Nat) x, ys[i]? = some x → x.cells.length = n)
    (hc : ∀ (i j : Nat) c, rowCell ys i j = some c → ∃ v, w.cell? ⟨β, o + i * n + j, none⟩ = some v ∧ Rep G w c v) : ∃ news, SegAs G w n ys ⟨β, o, none⟩ news := by
  have row : ∀ k, k < ys.length * n → ∃ c, rowCell ys (k / n) (k % n) = some c := by
    intro k hk
    have hn0 : 0 < n := Nat.pos_of_ne_zero fun e => by subst e; simp at hk
    have hi : k / n < ys.length := Nat.div_lt_of_lt_mul (by rwa [Nat.mul_comm])
    have hj : k % n < n := Nat.mod_lt _ hn0
    have := hn _ _ (List.getElem?_eq_getElem hi)
    refine ⟨(ys[k / n].cells)[k % n]'(by omega), ?_⟩
    unfold rowCell
    rw [List.getElem?_eq_getElem hi]
    simp only [Option.bind_some]
    exact List.getElem?_eq_getElem (by omega)
  refine ⟨(List.range (ys.length * n)).map fun k => (w.cell? ⟨β, o + k, none⟩).getD undef, by simp, fun k u hu => ?_, fun i j c u hcc hu => ?_⟩
  · have hk : k < ys.length * n := by simpa using (List.getElem?_eq_some_iff.1 hu).1
    rw [List.getElem?_map, List.getElem?_range hk] at hu
    simp only [Option.map_some, Option.some.injEq] at hu
    obtain ⟨c, hcc⟩ := row k hk
    obtain ⟨v, h1, _⟩ := hc _ _ c hcc
    have e : o + k / n * n + k % n = o + k := by have := Nat.div_add_mod k n; rw [Nat.mul_comm] at this; omega
    rw [e] at h1
    rw [addr_add, h1]
    rw [h1] at hu
    simpa using hu
  · obtain ⟨v, h1, h2⟩ := hc i j c hcc
    obtain ⟨_, _, hlt⟩ := rowCell_lt hcc hn
    rw [List.getElem?_map, List.getElem?_range hlt] at hu
    simp only [Option.map_some, Option.some.injEq] at hu
    rw [← Nat.add_assoc, h1] at hu
    simp only [Option.getD_some] at hu
    subst hu
    exact h2
theorem seg_one {G w n ys a news} (h : SegAs G w n ys a news) (hn : ∀ (i : Nat) x, ys[i]? = some x → x.cells.length = n) (hok : ∀ y ∈ ys, AV.okv y = true) : ∀ u ∈ news, u.oneCell' = true := by
  intro u hu
  obtain ⟨k, hk, rfl⟩ := List.getElem_of_mem hu
  have hk' : k < ys.length * n := by rw [← h.1]; exact hk
  have hn0 : 0 < n := Nat.pos_of_ne_zero fun e => by subst e; simp at hk'
  have hi : k / n < ys.length := Nat.div_lt_of_lt_mul (by rwa [Nat.mul_comm])
  have hj : k % n < n := Nat.mod_lt _ hn0
  have hl := hn _ _ (List.getElem?_eq_getElem hi)
  have hj' : k % n < ys[k / n].cells.length := by omega
  have hr := h.2.2 (k / n) (k % n) ys[k / n].cells[k % n] news[k] (by unfold rowCell; rw [List.getElem?_eq_getElem hi]; exact List.getElem?_eq_getElem hj') (by
    have := Nat.div_add_mod k n; rw [Nat.mul_comm] at this; rw [this]; exact List.getElem?_eq_getElem hk)
  exact rep_one (okv_one (hok _ (List.getElem_mem hi)) _ (List.getElem_mem hj')) hr
theorem rowCell_append (es ys : List AV) (i j : Nat) : rowCell (es ++ ys) i j = if i < es.length then rowCell es i j else rowCell ys (i - es.length) j := by
  unfold rowCell
  split
  · rename_i h; rw [List.getElem?_append_left h]
  · rename_i h; rw [List.getElem?_append_right (by omega)]
/-- What is appended. -/
def asrc (σ : ASt) : AV → Option (List AV)
  | .vsl ys => some ys
  | .hsl b off n => (σ.sl b).bind fun xs => if off + n ≤ xs.length then some ((xs.drop off).take n) else none
  | _ => none
theorem rowCell_seg (xs : List AV) (off n i j : Nat) (c : AV) (hc : rowCell ((xs.drop off).take n) i j = some c) : rowCell xs (off + i) j = some c ∧ i < n := by
  unfold rowCell at *
  obtain ⟨x, hx, hj⟩ := Option.bind_eq_some_iff.1 hc
  rw [List.getElem?_take] at hx
  split at hx
  · rename_i hlt
    rw [List.getElem?_drop] at hx
    exact ⟨by rw [hx]; exact hj, hlt⟩
  · cases hx
theorem asrc_spec {x : AV} {ys : List AV} (h : asrc σ x = some ys) (hne : ys ≠ []) {n : Nat} (hn : ∀ y ∈ ys, y.cells.length = n) {G w v} (hw : SimW G σ w) (hx : Rep G w x v) :
    ∃ a c news, v = .slice (some a) ys.length c ∧ SegAs G w n ys a news := by
  have hn' : ∀ (i : Nat) x, ys[i]? = some x → x.cells.length = n := fun i x hx => hn x (List.mem_of_getElem? hx)
  cases hx with
  | vnil => obtain rfl := Option.some.inj h; exact absurd rfl hne
  | vsl _ β o s cap val hcap hs hc hrr =>
    obtain rfl := Option.some.inj h
    rename_i xs
    obtain ⟨y, hy⟩ := List.exists_mem_of_ne_nil _ hne
    obtain ⟨i, hi, hyi⟩ := List.getElem_of_mem hy
    have hs' : s = n := (hs i _ (List.getElem?_eq_getElem hi)).symm.trans (hn _ (List.getElem_mem hi))
    subst hs'
    obtain ⟨news, hseg⟩ := seg_of (G := G) (w := w) (β := β) (o := o) hn' (fun i j c hcc => ⟨val i j, (hc i j c hcc).2, hrr i j c hcc⟩)
    exact ⟨_, cap, news, rfl, hseg⟩
  | hsl b off m β o s cap gb hle =>
    obtain ⟨xs, hxs, h⟩ := Option.bind_eq_some_iff.1 h
    obtain ⟨hin, h⟩ := ite_some' h
    obtain rfl := Option.some.inj h
    have hlen : ((xs.drop off).take m).length = m := by simp; omega
    have hm : 0 < m := by rw [← hlen]; exact List.length_pos_iff.2 hne
    rcases hw.sl b xs hxs with ⟨g1, _⟩ | ⟨β', o', s', cap', arr, el, g1, g2, g3, g4, g5, g6⟩
    · rw [gb] at g1; cases g1
    · obtain ⟨rfl, rfl, rfl, rfl⟩ : β = β' ∧ o = o' ∧ s = s' ∧ cap = cap' := by rw [gb] at g1; simpa using g1
      have h0 : off < xs.length := by omega
      have hs' : s = n := (g5 off _ (List.getElem?_eq_getElem h0)).symm.trans (hn _ (by
        refine List.mem_of_getElem? (i := 0) ?_
        rw [List.getElem?_take, if_pos hm, List.getElem?_drop, Nat.add_zero]
        exact List.getElem?_eq_getElem h0))
      subst hs'
      obtain ⟨news, hseg⟩ := seg_of (G := G) (w := w) (n := s) (ys := (xs.drop off).take m) (β := β) (o := o + off * s) hn' (fun i j c hcc => by
        obtain ⟨hc2, hi⟩ := rowCell_seg _ _ _ _ _ _ hcc
        obtain ⟨h1, h2, h3⟩ := rowCell_lt hc2 g5
        have hlt : o + (off + i) * s + j < arr.size := by
          have : xs.length * s ≤ cap * s := Nat.mul_le_mul_right _ g3.2
          omega
        refine ⟨arr[o + (off + i) * s + j], ?_, g6 _ j c _ hc2 (Array.getElem?_eq_getElem hlt)⟩
        have e : o + off * s + i * s + j = o + (off + i) * s + j := by rw [Nat.add_mul]; omega
        rw [cell_of_heap g2, e]
        exact Array.getElem?_eq_getElem hlt)
      exact ⟨_, cap - off, news, by rw [hlen], hseg⟩
  | hend => 
    obtain ⟨xs, hxs, h⟩ := Option.bind_eq_some_iff.1 h
    obtain ⟨hin, h⟩ := ite_some' h
    obtain rfl := Option.some.inj h
    simp at hne
  | hnil =>
    obtain ⟨xs, hxs, h⟩ := Option.bind_eq_some_iff.1 h
    obtain ⟨hin, h⟩ := ite_some' h
    obtain rfl := Option.some.inj h
    simp at hne
  | _ => cases h
theorem execOp_append (e : Operand → Value) {s x : Operand} {t : TypeId} (ho : o.op = .call { callee := .builtin .append, args := #[s, x], argTypes := #[t, t] }) :
    execOp e o = (do pure (.value (← Builtin.append_ #[t, t] o.type #[e s, e x]))) := by
  rw [execOp_builtin e ho]; simp [builtin]
/-- What grows gets a new place. -/
theorem append_grow {t el : TypeId} {n : Nat} {i : TypeInfo} {z : Value} (ht : P.underlying t = some (.slice el)) (hi : P.info? el = some i) (hz : i.zero = some z) (hin : i.size = n) (hzn : z.cells.size = n)
    {G w} (hw : SimW G σ w) {es ys : List AV} {b : Addr} {sCap : Nat} {olds news : List Value} {a : Addr} {c : Nat} (ho : SegAs G w n es b olds) (hs : SegAs G w n ys a news) (hne : ys ≠ [])
    (hes : ∀ (i : Nat) x, es[i]? = some x → x.cells.length = n) (hys : ∀ (i : Nat) x, ys[i]? = some x → x.cells.length = n) (hg : sCap < es.length + ys.length) (hb : (es.length + ys.length) * i.bytes ≤ 140737488355328) (hsm : es.length + ys.length ≤ 9223372036854775807) (ty : TypeId) :
    ∃ v w', (Builtin.append_ #[t, t] ty #[.slice (some b) es.length sCap, .slice (some a) ys.length c]).run P w = .ok v w' ∧ ∃ G', Le G w G' w' ∧ SimW G' (σ.addSl (es ++ ys)) w' ∧ Rep G' w' (.hsl σ.next 0 (es ++ ys).length) v := by
  subst hin
  have hrun := run_append_grow (P := P) w t ty el i z ht hi hz b es.length sCap olds ho.1 ho.2.1 a ys.length c news hs.1 hs.2.1 hg (by omega) (growslice_fits hg hb)
  have hcap := grownCap_ge w (es.length + ys.length) sCap el
  refine ⟨_, _, hrun, ?_⟩
  rw [← List.length_append]
  have hbel : Below w.heap.size w w.drew := (Below.refl _ _).drew
  refine new_hsl (n := i.size) hw (fun k x hx => ?_) (fun k j cc v hc hv => ?_) (by simp; have := List.length_pos_iff.2 hne; omega) (by simpa using hcap) ?_ (by rw [List.length_append]; have := grownCap_le_maxLen w (es.length + ys.length) sCap el (by unfold maxLen; omega); unfold maxLen at this; omega) el w.drew hbel
  · rw [List.getElem?_append] at hx
    split at hx
    · exact hes _ _ hx
    · exact hys _ _ hx
  · rw [rowCell_append] at hc
    have hv' : (olds ++ news ++ (Builtin.zeroCells z.cells (grownCap w (es.length + ys.length) sCap el - (es.length + ys.length))).toList)[k * i.size + j]? = some v := by
      rw [← Array.getElem?_toList] at hv; simpa using hv
    split at hc
    · rename_i hk
      obtain ⟨_, _, hlt⟩ := rowCell_lt hc hes
      rw [List.append_assoc, List.getElem?_append_left (by rw [ho.1]; exact hlt)] at hv'
      exact ho.2.2 k j cc v hc hv'
    · rename_i hk
      obtain ⟨_, _, hlt⟩ := rowCell_lt hc hys
      have e : k * i.size = es.length * i.size + (k - es.length) * i.size := by rw [← Nat.add_mul]; congr 1; omega
      rw [List.append_assoc, List.getElem?_append_right (by rw [ho.1]; omega), List.getElem?_append_left (by rw [ho.1, hs.1]; omega)] at hv'
      rw [ho.1, show k * i.size + j - es.length * i.size = (k - es.length) * i.size + j by omega] at hv'
      exact hs.2.2 _ j cc v hc hv'
  · simp only [Array.size_append, List.size_toArray, size_zeroCells, hzn, ho.1, hs.1, ← Nat.add_mul, List.length_append]
    exact Nat.mul_le_mul_right _ (by omega)
/-- append onto a slice of the function's own. -/
theorem opq_append {s x : Operand} {t el : TypeId} (ho : o.op = .call { callee := .builtin .append, args := #[s, x], argTypes := #[t, t] }) {b off k : Nat} {xs ys : List AV} {n by_ : Nat} {g : Bool} {z : AV}
    (hs : ρ s = .hsl b off k) (hb : σ.sl b = some xs) (hk : off + k ≤ xs.length) (hx : asrc σ (ρ x) = some ys) (hne : ys ≠ []) (ht : telem P t = some (n, g, by_)) (hel : telemT P t = some el) (hz : tzero P el = some z) (hzn : z.cells.length = n)
    (hxs : ∀ y ∈ xs, y.cells.length = n) (hys : ∀ y ∈ ys, y.cells.length = n ∧ y.okv = true) (hB : (k + ys.length) * by_ ≤ 140737488355328) (hS : k + ys.length ≤ 9223372036854775807)
    (hr : R (.hsl σ.next 0 (k + ys.length)) ((σ.dropSl b).addSl ((xs.drop off).take k ++ ys))) : OpQ P o ρ σ R := by
  intro G e w he hw
  have hrs := he s
  rw [hs] at hrs
  obtain ⟨e', i', t1, t2, t3, rfl⟩ := telem_spec ht
  have hee : e' = el := by simpa [telemT, t1] using hel
  subst hee
  obtain ⟨it, zv, hi, hzv, rfl⟩ := tzero_spec hz
  obtain rfl := Option.some.inj (t2.symm.trans hi)
  obtain ⟨i2, d2, q1, q2, q3, _⟩ := tsize_spec t3
  obtain rfl := Option.some.inj (t2.symm.trans q1)
  rw [ofV_cells] at hzn
  obtain ⟨a, c, news, hv, hseg⟩ := asrc_spec hx hne (fun y hy => (hys y hy).1) hw (he x)
  have hys' : ∀ (i : Nat) x, ys[i]? = some x → x.cells.length = n := fun i x hx => (hys x (List.mem_of_getElem? hx)).1
  have hlen : ((xs.drop off).take k).length = k := by simp; omega
  have hes' : ∀ (i : Nat) x, ((xs.drop off).take k)[i]? = some x → x.cells.length = n := fun i x hx => by
    have := List.mem_of_getElem? hx
    exact hxs x (List.mem_of_mem_drop (List.mem_of_mem_take this))
  have hpos := List.length_pos_iff.2 hne
  rw [execOp_append e ho]
  have finish : ∀ v w', (Builtin.append_ #[t, t] o.type #[e s, e x]).run P w = .ok v w' → (∃ G', Le G w G' w' ∧ SimW G' ((σ.dropSl b).addSl ((xs.drop off).take k ++ ys)) w' ∧ Rep G' w' (.hsl σ.next 0 (k + ys.length)) v) →
      OutcN P G w R ((do pure (Next.value (← Builtin.append_ #[t, t] o.type #[e s, e x])) : Sem Next).run P w) := by
    rintro v w' h1 ⟨G', h2, h3, h4⟩
    simp only [Sem.run_bind, h1, Result.andThen_ok, Sem.run_pure]
    exact ⟨_, G', _, h2, h3, h4, hr⟩
  have hwd := hw.less (dropSl_le σ b)
  suffices hm : ∃ v w', (Builtin.append_ #[t, t] o.type #[e s, e x]).run P w = .ok v w' ∧ ∃ G', Le G w G' w' ∧ SimW G' ((σ.dropSl b).addSl ((xs.drop off).take k ++ ys)) w' ∧ Rep G' w' (.hsl σ.next 0 (k + ys.length)) v by
    obtain ⟨v, w', h1, h2⟩ := hm
    exact finish v w' h1 h2
  clear finish
  generalize e s = vs at hrs ⊢
  have grow0 : ∀ (a0 : Option Addr), vs = .slice a0 0 0 → k = 0 → ∃ v w', (Builtin.append_ #[t, t] o.type #[vs, e x]).run P w = .ok v w' ∧ ∃ G', Le G w G' w' ∧ SimW G' ((σ.dropSl b).addSl ((xs.drop off).take k ++ ys)) w' ∧ Rep G' w' (.hsl σ.next 0 (k + ys.length)) v := by
    intro a0 hv0 hk0
    subst hk0
    rw [hv0, hv]
    have hB0 : ys.length * i'.bytes ≤ 140737488355328 := by simpa using hB
    have hseg0 : SegAs G w n [] ⟨0, 0, none⟩ [] := ⟨by simp, fun k u hu => by simp at hu, fun i j c u hc => by simp [rowCell] at hc⟩
    cases a0 with
    | some a0 =>
      have hseg0 : SegAs G w n [] a0 [] := ⟨by simp, fun k u hu => by simp at hu, fun i j c u hc => by simp [rowCell] at hc⟩
      have := append_grow (σ := σ.dropSl b) t1 t2 hzv q3 hzn hwd (es := []) (sCap := 0) hseg0 hseg hne (fun i x hx => by simp at hx) hys' (by simpa using hpos) (by simpa using hB) (by simpa using hS) o.type (c := c)
      simpa using this
    | none =>
      have hrun := run_append_nil (P := P) w t o.type e' i' zv t1 t2 hzv a ys.length c news (by rw [q3]; exact hseg.1) hseg.2.1 hpos (by omega) (by omega)
      have hcap := grownCap_ge w ys.length 0 e'
      refine ⟨_, _, hrun, ?_⟩
      have hbel : Below w.heap.size w w.drew := (Below.refl _ _).drew
      have := new_hsl (σ := σ.dropSl b) (n := n) (es := ys) hwd (arr := news.toArray ++ Builtin.zeroCells zv.cells (grownCap w ys.length 0 e' - ys.length)) hys' (fun i j cc v hc hvv => by
        obtain ⟨_, _, hlt⟩ := rowCell_lt hc hys'
        rw [Array.getElem?_append_left (by rw [List.size_toArray, hseg.1]; exact hlt)] at hvv
        exact hseg.2.2 i j cc v hc (by simpa using hvv)) hpos hcap (by
          simp only [Array.size_append, List.size_toArray, size_zeroCells, hzn, hseg.1, ← Nat.add_mul]
          exact Nat.mul_le_mul_right _ (by omega)) (by have := grownCap_le_maxLen w ys.length 0 e' (by unfold maxLen; omega); unfold maxLen at this; omega) e' w.drew hbel
      simpa using this
  cases hrs with
  | hsl _ _ _ β o' s' cap gb hle =>
    rcases hw.sl b xs hb with ⟨g1, _⟩ | ⟨β', o'', s'', cap', arr, elt, g1, g2, g3, g4, g5, g6⟩
    · rw [gb] at g1; cases g1
    · obtain ⟨rfl, rfl, rfl, rfl⟩ : β = β' ∧ o' = o'' ∧ s' = s'' ∧ cap = cap' := by rw [gb] at g1; simpa using g1
      have hs' : s' = n := (g5 0 _ (List.getElem?_eq_getElem g3.1)).symm.trans (hxs _ (List.getElem_mem g3.1))
      subst hs'
      by_cases hroom : k + ys.length ≤ cap - off
      · -- in place
        have hfit : o' + off * s' + k * s' + ys.length * s' ≤ arr.size := by
          have : (off + k + ys.length) * s' ≤ cap * s' := Nat.mul_le_mul_right _ (by omega)
          rw [Nat.add_mul, Nat.add_mul] at this; omega
        have hf := run_firstCells_some (P := P) w s' ys.length a ys.length c news hseg.1 hseg.2.1
        have hst := run_storeCells_at (P := P) β (o' + off * s' + k * s') elt news 0 arr w g2 (by rw [hseg.1]; omega) (seg_one hseg hys' fun y hy => (hys y hy).2)
        simp only [Nat.add_zero] at hst
        refine ⟨(.slice (some ⟨β, o' + off * s', none⟩) (k + ys.length) (cap - off)), (w.setRow β (arr.toList.take (o' + off * s' + k * s') ++ news ++ arr.toList.drop (o' + off * s' + k * s' + news.length)).toArray), ?_, ?_⟩
        · rw [hv]
          simp [Builtin.append_, run_underlying' t1, sizeOf, run_typeInfo' t2, Builtin.lenOf, hroom, q3, hf, addr_add, hst]
        · have ht := touch_setRow w β (arr.toList.take (o' + off * s' + k * s') ++ news ++ arr.toList.drop (o' + off * s' + k * s' + news.length)).toArray
          have hsl : Le G w (G.addSl σ.next (some (β, (o' + off * s', s', cap - off)))) (w.setRow β (arr.toList.take (o' + off * s' + k * s') ++ news ++ arr.toList.drop (o' + off * s' + k * s' + news.length)).toArray) →
              SlOK (G.addSl σ.next (some (β, (o' + off * s', s', cap - off)))) (w.setRow β (arr.toList.take (o' + off * s' + k * s') ++ news ++ arr.toList.drop (o' + off * s' + k * s' + news.length)).toArray) σ.next ((xs.drop off).take k ++ ys) := by
            intro hl
            refine .inr ⟨β, o' + off * s', s', cap - off, _, elt, upd_same _ _ _, setRow_new g2 _, ⟨by simp; omega, by simp; omega⟩, ?_, ?_, ?_⟩
            · have hcs : off * s' + (cap - off) * s' = cap * s' := by rw [← Nat.add_mul]; congr 1; omega
              simp [hseg.1]; omega
            · intro i y hy
              rw [List.getElem?_append] at hy
              split at hy
              · exact hes' _ _ hy
              · exact hys' _ _ hy
            · intro i j cc u hc hu
              have hu' : (arr.toList.take (o' + off * s' + k * s') ++ news ++ arr.toList.drop (o' + off * s' + k * s' + ys.length * s'))[o' + off * s' + i * s' + j]? = some u := by rw [← hseg.1]; simpa using hu
              rw [splice_get _ _ _ _ hseg.1 (by simp; omega)] at hu'
              rw [rowCell_append, hlen] at hc
              split at hc
              · rename_i hik
                obtain ⟨hc2, hi⟩ := rowCell_seg _ _ _ _ _ _ hc
                obtain ⟨p1, p2, p3⟩ := rowCell_lt hc2 g5
                have : (i + 1) * s' ≤ k * s' := Nat.mul_le_mul_right _ hi
                rw [Nat.add_mul] at this
                rw [if_neg (by omega), show o' + off * s' + i * s' + j = o' + (off + i) * s' + j by rw [Nat.add_mul]; omega] at hu'
                exact (g6 _ j cc u hc2 (by simpa using hu')).mono hl
              · rename_i hik
                obtain ⟨p1, p2, p3⟩ := rowCell_lt hc hys'
                have e1 : i * s' = k * s' + (i - k) * s' := by rw [← Nat.add_mul]; congr 1; omega
                rw [if_pos (by omega), show o' + off * s' + i * s' + j - (o' + off * s' + k * s') = (i - k) * s' + j by omega] at hu'
                exact (hseg.2.2 _ j cc u hc hu').mono hl
          obtain ⟨h1, h2⟩ := hw.rewriteSl hb gb ht hsl
          refine ⟨_, h1, h2, ?_⟩
          have := Rep.hsl (G := G.addSl σ.next (some (β, o' + off * s', s', cap - off))) (w := w.setRow β (arr.toList.take (o' + off * s' + k * s') ++ news ++ arr.toList.drop (o' + off * s' + k * s' + news.length)).toArray) σ.next 0 (k + ys.length) β (o' + off * s') s' (cap - off) (upd_same _ _ _) (by omega)
          simpa using this
      · -- elsewhere
        obtain ⟨olds, hold⟩ := seg_of (G := G) (w := w) (n := s') (ys := (xs.drop off).take k) (β := β) (o := o' + off * s') hes' (fun i j cc hcc => by
          obtain ⟨hc2, hi⟩ := rowCell_seg _ _ _ _ _ _ hcc
          obtain ⟨h1, h2, h3⟩ := rowCell_lt hc2 g5
          have hlt : o' + (off + i) * s' + j < arr.size := by
            have : xs.length * s' ≤ cap * s' := Nat.mul_le_mul_right _ g3.2
            omega
          refine ⟨arr[o' + (off + i) * s' + j], ?_, g6 _ j cc _ hc2 (Array.getElem?_eq_getElem hlt)⟩
          have e1 : o' + off * s' + i * s' + j = o' + (off + i) * s' + j := by rw [Nat.add_mul]; omega
          rw [cell_of_heap g2, e1]
          exact Array.getElem?_eq_getElem hlt)
        obtain ⟨v, w', h1, h2⟩ := append_grow (σ := σ.dropSl b) t1 t2 hzv q3 hzn hwd hold hseg hne hes' hys' (sCap := cap - off) (by rw [hlen]; omega) (by rw [hlen]; exact hB) (by rw [hlen]; exact hS) o.type (c := c)
        rw [hlen] at h1
        rw [List.length_append, hlen] at h2
        exact ⟨v, w', by rw [hv]; exact h1, h2⟩
  | hend _ _ a0 β o' s' cap gb hle =>
    exact grow0 a0 rfl rfl
  | hnil _ a0 gb =>
    exact grow0 a0 rfl rfl
end Go.AL
