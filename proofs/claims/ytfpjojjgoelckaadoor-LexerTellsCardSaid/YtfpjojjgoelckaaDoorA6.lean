import Derived.Test.YtfpjojjgoelckaaDoorA5
import Derived.Laws.CopyRow
import Derived.Laws.Tables
import Derived.Great.BuildSlice
/-! Operations, fourth part: boxes, stores, structs. -/
namespace Go.AL
open Go.RowKit (Below)
set_option linter.unusedVariables false
set_option linter.unusedSimpArgs false

variable {P : Program} {o : Oper} {ρ : Operand → AV} {σ : ASt} {R : AV → ASt → Prop}

/-! ### one cell's values -/
def AV.one : AV → Bool
  | .p x => x.oneCell'
  | .agg _ | .tup _ | .any | .opt _ _ => false
  | _ => true
def AV.okv : AV → Bool
  | .agg cs => cs.all AV.one
  | v => v.one
theorem rep_one {G w c v} (h : AV.one c = true) (hr : Rep G w c v) : v.oneCell' = true := by
  cases hr <;> first | exact h | rfl | cases h
theorem rep_cells {G w x v} (hx : AV.okv x = true) (hr : Rep G w x v) : v.cells.size = x.cells.length ∧ (∀ (j : Nat) c u, x.cells[j]? = some c → v.cells[j]? = some u → Rep G w c u) ∧ (∀ u ∈ v.cells.toList, u.oneCell' = true) := by
  by_cases ha : ∃ cs, x = .agg cs
  · obtain ⟨cs, rfl⟩ := ha
    cases hr with
    | agg _ vs hs h =>
      refine ⟨hs.symm, fun j c u hc hu => h j c u hc hu, fun u hu => ?_⟩
      obtain ⟨j, hj, rfl⟩ := List.getElem_of_mem hu
      have hj' : j < cs.length := by rw [hs]; simpa [Value.cells] using hj
      have h1 := h j _ _ (List.getElem?_eq_getElem hj') (by rw [← Array.getElem?_toList]; exact List.getElem?_eq_getElem hj)
      exact rep_one (List.all_eq_true.1 hx _ (List.getElem_mem hj')) h1
  · have h1 : x.one = true := by cases x <;> first | exact hx | exact absurd ⟨_, rfl⟩ ha
    have hc : x.cells = [x] := by cases x <;> first | rfl | exact absurd ⟨_, rfl⟩ ha
    have hv := rep_one h1 hr
    have hvc : v.cells = #[v] := by cases v <;> first | rfl | cases hv
    rw [hc, hvc]
    refine ⟨rfl, fun j c u h2 h3 => ?_, fun u hu => ?_⟩
    · cases j with
      | zero =>
        obtain rfl := Option.some.inj h2
        have h3 : some v = some u := h3
        obtain rfl := Option.some.inj h3
        exact hr
      | succ j => simp at h2
    · simp at hu; subst hu; exact hv

/-! ### setting cells -/
def setCells : List AV → Nat → List AV → List AV
  | cs, _, [] => cs
  | cs, off, v :: vs => setCells (cs.set off v) (off + 1) vs
@[simp] theorem setCells_length : ∀ (cs : List AV) (off : Nat) (vs : List AV), (setCells cs off vs).length = cs.length
  | _, _, [] => rfl
  | cs, off, v :: vs => by rw [setCells, setCells_length]; simp
theorem setCells_get : ∀ (vs cs : List AV) (off k : Nat), off + vs.length ≤ cs.length → (setCells cs off vs)[k]? = if off ≤ k ∧ k < off + vs.length then vs[k - off]? else cs[k]?
  | [], cs, off, k, _ => by simp [setCells]; omega
  | v :: vs, cs, off, k, h => by
    simp only [List.length_cons] at h
    rw [setCells, setCells_get vs _ _ k (by simp; omega)]
    by_cases h1 : off + 1 ≤ k ∧ k < off + 1 + vs.length
    · rw [if_pos h1, if_pos (by simp; omega)]
      rw [show k - off = (k - (off + 1)) + 1 by omega, List.getElem?_cons_succ]
    · rw [if_neg h1]
      by_cases h2 : k = off
      · subst h2
        rw [if_pos (by simp), List.getElem?_set_self (by omega)]
        simp
      · rw [if_neg (by simp; omega), List.getElem?_set_ne (by omega)]

/-! ### new variables -/
theorem run_newVar (v : Value) (t : TypeId) (w : World) : (newVar t v).run P w = .ok ⟨w.heap.size, 0, none⟩ (w.alloc (.cells v.cells t)) := rfl
/-- A variable that nobody writes: its value goes with its address. -/
theorem new_ro {G σ w x v} (hw : SimW G σ w) (hx : AV.okv x = true) (hr : Rep G w x v) (t : TypeId) :
    ∃ G', Le G w G' (w.alloc (.cells v.cells t)) ∧ SimW G' σ (w.alloc (.cells v.cells t)) ∧ Rep G' (w.alloc (.cells v.cells t)) (.vel [x] 0 0) (.pointer (some ⟨w.heap.size, 0, none⟩)) := by
  have hb := below_alloc' w (.cells v.cells t)
  have hl := Le.addSt hw hb (fun β _ => β = w.heap.size) fun β o e => Nat.le_of_eq e.symm
  obtain ⟨h1, h2, _⟩ := rep_cells hx hr
  refine ⟨_, hl, hw.addSt hb _ (fun β o e => by subst e; exact ⟨Nat.le_refl _, by simp⟩), ?_⟩
  have key := Rep.vel (G := G.addSt fun β _ => β = w.heap.size) (w := w.alloc (.cells v.cells t)) [x] 0 0 w.heap.size 0 x.cells.length (fun _ j => v.cells.getD j undef)
    (fun i y hy => by cases i with | zero => simp at hy; rw [hy] | succ i => simp at hy)
    (fun i j c hc => by
      cases i with
      | succ i => simp [rowCell] at hc
      | zero =>
        have hc : x.cells[j]? = some c := by simpa [rowCell] using hc
        have hj : j < v.cells.size := by rw [h1]; exact (List.getElem?_eq_some_iff.1 hc).1
        refine ⟨.inr rfl, ?_⟩
        rw [cell_of_heap (heap_alloc_new w _)]
        simp [hj])
    (fun i j c hc => by
      cases i with
      | succ i => simp [rowCell] at hc
      | zero =>
        have hc : x.cells[j]? = some c := by simpa [rowCell] using hc
        have hj : j < v.cells.size := by rw [h1]; exact (List.getElem?_eq_some_iff.1 hc).1
        have := h2 j c _ hc (Array.getElem?_eq_getElem hj)
        simp only [Array.getD, hj, dif_pos]
        exact this.mono hl)
  simpa using key
theorem new_mut {G σ w x v} (hw : SimW G σ w) (hx : AV.okv x = true) (hr : Rep G w x v) (t : TypeId) :
    ∃ G', Le G w G' (w.alloc (.cells v.cells t)) ∧ SimW G' (σ.addBx x.cells) (w.alloc (.cells v.cells t)) ∧ Rep G' (w.alloc (.cells v.cells t)) (.ptr σ.next 0) (.pointer (some ⟨w.heap.size, 0, none⟩)) := by
  have hb := below_alloc' w (.cells v.cells t)
  obtain ⟨h1, h2, _⟩ := rep_cells hx hr
  exact ⟨_, Le.addBx hw hb w.heap.size, hw.addBx hb (Nat.le_refl _) (heap_alloc_new w _) h1 h2, .ptr _ _ _ (upd_same _ _ _)⟩

theorem opq_box_ro {t : TypeId} {x : Operand} (ho : o.op = .box t x) (hx : AV.okv (ρ x) = true) (hr : R (.vel [ρ x] 0 0) σ) : OpQ P o ρ σ R := by
  intro G e w he hw
  obtain ⟨G', h1, h2, h3⟩ := new_ro hw hx (he x) t
  simp only [execOp, ho, Instr.box, Sem.run_bind, run_newVar, Result.andThen_ok, Sem.run_pure]
  exact ⟨_, G', σ, h1, h2, h3, hr⟩
theorem opq_box_mut {t : TypeId} {x : Operand} (ho : o.op = .box t x) (hx : AV.okv (ρ x) = true) (hr : R (.ptr σ.next 0) (σ.addBx (ρ x).cells)) : OpQ P o ρ σ R := by
  intro G e w he hw
  obtain ⟨G', h1, h2, h3⟩ := new_mut hw hx (he x) t
  simp only [execOp, ho, Instr.box, Sem.run_bind, run_newVar, Result.andThen_ok, Sem.run_pure]
  exact ⟨_, G', _, h1, h2, h3, hr⟩
theorem tzero_spec {t : TypeId} {z : AV} (h : tzero P t = some z) : ∃ i v, P.info? t = some i ∧ i.zero = some v ∧ z = ofV v := by
  unfold tzero at h
  obtain ⟨v, hv, rfl⟩ := Option.map_eq_some_iff.1 h
  obtain ⟨i, hi, hz⟩ := Option.bind_eq_some_iff.1 hv
  exact ⟨i, v, hi, hz, rfl⟩
theorem run_zeroValue' {t : TypeId} {i : TypeInfo} {v : Value} (h : P.info? t = some i) (hz : i.zero = some v) (w : World) : (zeroValue t).run P w = .ok v w := by
  simp [zeroValue, run_typeInfo' h, hz]
theorem opq_alloc_ro {t : TypeId} (ho : o.op = .alloc t) {z : AV} (hz : tzero P t = some z) (hx : AV.okv z = true) (hr : R (.vel [z] 0 0) σ) : OpQ P o ρ σ R := by
  intro G e w he hw
  obtain ⟨i, v, hi, hv, rfl⟩ := tzero_spec hz
  obtain ⟨G', h1, h2, h3⟩ := new_ro hw hx (rep_ofV G w v) t
  simp only [execOp, ho, Instr.alloc, Sem.run_bind, run_zeroValue' hi hv, run_newVar, Result.andThen_ok, Sem.run_pure]
  exact ⟨_, G', σ, h1, h2, h3, hr⟩
theorem opq_alloc_mut {t : TypeId} (ho : o.op = .alloc t) {z : AV} (hz : tzero P t = some z) (hx : AV.okv z = true) (hr : R (.ptr σ.next 0) (σ.addBx z.cells)) : OpQ P o ρ σ R := by
  intro G e w he hw
  obtain ⟨i, v, hi, hv, rfl⟩ := tzero_spec hz
  obtain ⟨G', h1, h2, h3⟩ := new_mut hw hx (rep_ofV G w v) t
  simp only [execOp, ho, Instr.alloc, Sem.run_bind, run_zeroValue' hi hv, run_newVar, Result.andThen_ok, Sem.run_pure]
  exact ⟨_, G', _, h1, h2, h3, hr⟩

/-! ### stores -/
theorem touch_setRow (w : World) (g : Nat) (cs : Array Value) : Touch w (w.setRow g cs) g :=
  ⟨rfl, rfl, rfl, by simp [World.setRow], fun k hk => by simp only [World.setRow, Array.getElem?_modify]; rw [if_neg (fun e => hk e.symm)]⟩
theorem setRow_new {w : World} {g : Nat} {arr : Array Value} {el : TypeId} {fz : Nat × Nat} (h : w.heap[g]? = some (.cells arr el fz)) (cs : Array Value) : (w.setRow g cs).heap[g]? = some (.cells cs el fz) := by
  simp only [World.setRow, Array.getElem?_modify, if_true, h, Option.map_some]
theorem run_storeVar_of {t : TypeId} {n : Nat} {g : Bool} (ht : tsize P t = some (n, g)) {w : World} {β off : Nat} {arr : Array Value} {el : TypeId} {v : Value} (hg : w.heap[β]? = some (.cells arr el (0, 0)))
    (hn : v.cells.size = n) (hle : off + n ≤ arr.size) (h1 : ∀ u ∈ v.cells.toList, u.oneCell' = true) :
    (storeVar t ⟨β, off, none⟩ v).run P w = .ok () (w.setRow β (arr.toList.take off ++ v.cells.toList ++ arr.toList.drop (off + n)).toArray) := by
  have := run_storeCells_at (P := P) β off el v.cells.toList 0 arr w hg (by simp; omega) h1
  simp only [storeVar, Sem.run_bind, run_sizeOf' ht, Result.andThen_ok, hn, ne_eq, not_true, if_false, this]
  simp [hn]
theorem splice_get {α : Type} (arr : List α) (off n : Nat) (vs : List α) (hn : vs.length = n) (hle : off + n ≤ arr.length) (k : Nat) :
    (arr.take off ++ vs ++ arr.drop (off + n))[k]? = if off ≤ k ∧ k < off + n then vs[k - off]? else arr[k]? := by
  by_cases h1 : k < off
  · rw [if_neg (by omega), List.append_assoc, List.getElem?_append_left (by simp; omega), List.getElem?_take, if_pos h1]
  · by_cases h2 : k < off + n
    · rw [if_pos (by omega), List.append_assoc, List.getElem?_append_right (by simp; omega), List.getElem?_append_left (by simp; omega)]
      congr 1
      simp; omega
    · rw [if_neg (by omega), List.getElem?_append_right (by simp; omega), List.getElem?_drop]
      congr 1
      simp; omega

/-- What a store makes of memory. -/
def astoreC (cs : List AV) (off n : Nat) (x : AV) : Option (List AV) := if x.cells.length = n ∧ off + n ≤ cs.length ∧ x.okv = true then some (setCells cs off x.cells) else none
def putCells : AV → List AV → AV
  | .agg _, cs => .agg cs
  | x, [c] => c
  | x, _ => x
def astore (P : Program) (σ : ASt) (t : TypeId) (a x : AV) : Option ASt :=
  (tsize P t).bind fun q =>
  match a with
  | .ptr b off => (σ.bx b).bind fun cs => (astoreC cs off q.1 x).map fun cs' => { σ with bx := upd σ.bx b (some cs') }
  | .hel b i off => (σ.sl b).bind fun xs => (xs[i]?).bind fun y => (astoreC y.cells off q.1 x).bind fun cs' => if y.okv = true then some { σ with sl := upd σ.sl b (some (xs.set i (putCells y cs'))) } else none
  | _ => none
theorem astoreC_spec {cs cs' : List AV} {off n : Nat} {x : AV} (h : astoreC cs off n x = some cs') : x.cells.length = n ∧ off + n ≤ cs.length ∧ x.okv = true ∧ cs' = setCells cs off x.cells := by
  unfold astoreC at h
  split at h
  · rename_i hc
    exact ⟨hc.1, hc.2.1, hc.2.2, (Option.some.inj h).symm⟩
  · cases h
theorem putCells_cells {y : AV} {cs' : List AV} (hl : cs'.length = y.cells.length) (hc : ∀ c ∈ cs', c.one = true) : (putCells y cs').cells = cs' := by
  cases y with
  | agg cs => rfl
  | _ =>
    simp only [AV.cells, List.length_cons, List.length_nil, Nat.zero_add, List.length_eq_one_iff] at hl
    obtain ⟨c, rfl⟩ := hl
    have hc := hc c (by simp)
    cases c <;> first | rfl | cases hc
theorem okv_one {x : AV} (h : x.okv = true) : ∀ c ∈ x.cells, c.one = true := by
  intro c hc
  cases x with
  | agg cs => exact List.all_eq_true.1 h c hc
  | _ => simp only [AV.cells, List.mem_singleton] at hc; subst hc; exact h
theorem putCells_set {y x : AV} {off : Nat} (hy : y.okv = true) (hx : x.okv = true) (hle : off + x.cells.length ≤ y.cells.length) : (putCells y (setCells y.cells off x.cells)).cells = setCells y.cells off x.cells := by
  refine putCells_cells (by simp) fun c hc => ?_
  obtain ⟨k, hk, rfl⟩ := List.getElem_of_mem hc
  have h1 := setCells_get x.cells y.cells off k hle
  rw [List.getElem?_eq_getElem hk] at h1
  split at h1
  · exact okv_one hx _ (List.mem_of_getElem? h1.symm)
  · exact okv_one hy _ (List.mem_of_getElem? h1.symm)
theorem opq_store {t : TypeId} {x y : Operand} (ho : o.op = .store t x y) {σ' : ASt} (h : astore P σ t (ρ x) (ρ y) = some σ') (hr : R (.p undef) σ') : OpQ P o ρ σ R := by
  intro G e w he hw
  have hx := he x
  have hy := he y
  generalize ρ x = cx at h hx
  generalize hvx : e x = vx at hx
  generalize ρ y = cy at h hy
  generalize hvy : e y = vy at hy
  obtain ⟨⟨n, g⟩, hn, h⟩ := Option.bind_eq_some_iff.1 h
  have run : ∀ w', (Instr.storeAt t vx vy).run P w = .ok () w' → (execOp e o).run P w = .ok .skip w' := fun w' h => by
    simp [execOp, ho, hvx, hvy, h]
  cases hx with
  | ptr b off β gb =>
    obtain ⟨cs, hb, h⟩ := Option.bind_eq_some_iff.1 h
    obtain ⟨cs', hcs, rfl⟩ := Option.map_eq_some_iff.1 h
    obtain ⟨s1, s2, s3, rfl⟩ := astoreC_spec hcs
    obtain ⟨c1, c2, c3⟩ := rep_cells s3 hy
    obtain ⟨β', arr, el, h1, h2, h3, h4⟩ := hw.bx b cs hb
    obtain rfl := Option.some.inj (gb.symm.trans h1)
    have hcn : vy.cells.size = n := c1.trans s1
    have hst := run_storeVar_of hn h2 hcn (by rw [h3]; exact s2) c3
    have hst2 : (Instr.storeAt t (.pointer (some ⟨β, off, none⟩)) vy).run P w = .ok () (w.setRow β (arr.toList.take off ++ vy.cells.toList ++ arr.toList.drop (off + n)).toArray) := by
      simp only [Instr.storeAt, Instr.sureAddr, Sem.run_bind, Sem.run_pure, Result.andThen_ok, hst]
    rw [run _ hst2]
    have ht := touch_setRow w β (arr.toList.take off ++ vy.cells.toList ++ arr.toList.drop (off + n)).toArray
    refine ⟨.p undef, G, _, Le.touch hw (.bx b β cs hb gb) ht, hw.touch_bx hb gb ht (setRow_new h2 _) (by simp; omega) (fun i c u hc hu => ?_), .p _, hr⟩
    rw [setCells_get _ _ _ _ (by omega)] at hc
    have hu' : (arr.toList.take off ++ vy.cells.toList ++ arr.toList.drop (off + n))[i]? = some u := by simpa using hu
    rw [splice_get _ _ _ _ (by simpa using hcn) (by simpa [h3] using s2)] at hu'
    rw [s1] at hc
    split at hc
    · rename_i hi
      rw [if_pos hi] at hu'
      exact c2 (i - off) c u hc (by simpa using hu')
    · rename_i hi
      rw [if_neg hi] at hu'
      exact h4 i c u hc (by simpa using hu')
  | hel b i off β o' s cap gb =>
    obtain ⟨xs, hb, h⟩ := Option.bind_eq_some_iff.1 h
    obtain ⟨y', hy', h⟩ := Option.bind_eq_some_iff.1 h
    obtain ⟨cs', hcs, h⟩ := Option.bind_eq_some_iff.1 h
    obtain ⟨s1, s2, s3, rfl⟩ := astoreC_spec hcs
    obtain ⟨p2, h⟩ := ite_some' h
    have p1 : (putCells y' (setCells y'.cells off cy.cells)).cells = setCells y'.cells off cy.cells := putCells_set p2 s3 (by rw [s1]; exact s2)
    obtain rfl := Option.some.inj h
    obtain ⟨c1, c2, c3⟩ := rep_cells s3 hy
    rcases hw.sl b xs hb with ⟨g1, _⟩ | ⟨β', o'', s', cap', arr, el, g1, g2, g3, g4, g5, g6⟩
    · rw [gb] at g1; cases g1
    · obtain ⟨rfl, rfl, rfl, rfl⟩ : β = β' ∧ o' = o'' ∧ s = s' ∧ cap = cap' := by rw [gb] at g1; simpa using g1
      have hcn : vy.cells.size = n := c1.trans s1
      have hi := (List.getElem?_eq_some_iff.1 hy').1
      have hys : y'.cells.length = s := g5 i y' hy'
      have hrow : o' + i * s + s ≤ arr.size := by
        have : (i + 1) * s ≤ cap * s := Nat.mul_le_mul_right _ (by omega)
        rw [Nat.add_mul] at this; omega
      have hst := run_storeVar_of hn g2 (off := o' + i * s + off) hcn (by omega) c3
      have hst2 : (Instr.storeAt t (.pointer (some ⟨β, o' + i * s + off, none⟩)) vy).run P w = .ok () (w.setRow β (arr.toList.take (o' + i * s + off) ++ vy.cells.toList ++ arr.toList.drop (o' + i * s + off + n)).toArray) := by
        simp only [Instr.storeAt, Instr.sureAddr, Sem.run_bind, Sem.run_pure, Result.andThen_ok, hst]
      rw [run _ hst2]
      have ht := touch_setRow w β (arr.toList.take (o' + i * s + off) ++ vy.cells.toList ++ arr.toList.drop (o' + i * s + off + n)).toArray
      refine ⟨.p undef, G, _, Le.touch hw (.sl b β _ xs hb gb) ht, hw.touch_sl hb gb ht (fun hl => .inr ⟨β, o', s, cap, _, el, gb, setRow_new g2 _, by simpa using g3, ?_, ?_, ?_⟩), .p _, hr⟩
      · simp; omega
      · intro k z hz
        rw [List.getElem?_set] at hz
        split at hz
        · obtain rfl := Option.some.inj hz
          rw [p1]; simp [hys]
        · exact g5 k z hz
      · intro k j c u hc hu
        have hu' : (arr.toList.take (o' + i * s + off) ++ vy.cells.toList ++ arr.toList.drop (o' + i * s + off + n))[o' + k * s + j]? = some u := by simpa using hu
        rw [splice_get _ _ _ _ (by simpa using hcn) (by simp; omega)] at hu'
        unfold rowCell at hc
        rw [List.getElem?_set] at hc
        by_cases hki : i = k
        · subst hki
          rw [if_pos rfl, if_pos hi] at hc
          have hc : (putCells y' (setCells y'.cells off cy.cells)).cells[j]? = some c := hc
          rw [p1, setCells_get _ _ _ _ (by omega), s1] at hc
          split at hc
          · rename_i hj
            rw [if_pos (by omega)] at hu'
            have e : o' + i * s + j - (o' + i * s + off) = j - off := by omega
            rw [e] at hu'
            exact (c2 (j - off) c u hc (by simpa using hu')).mono hl
          · rename_i hj
            rw [if_neg (by omega)] at hu'
            exact (g6 i j c u (by simp [rowCell, hy', hc]) (by simpa using hu')).mono hl
        · rw [if_neg hki] at hc
          have hj : j < s := by
            cases hz : xs[k]? with
            | none => rw [hz] at hc; cases hc
            | some z =>
              rw [hz] at hc
              have hc : z.cells[j]? = some c := hc
              rw [← g5 k z hz]; exact (List.getElem?_eq_some_iff.1 hc).1
          have hne : ¬ (o' + i * s + off ≤ o' + k * s + j ∧ o' + k * s + j < o' + i * s + off + n) := by
            rcases Nat.lt_or_ge k i with hlt | hge
            · have : (k + 1) * s ≤ i * s := Nat.mul_le_mul_right _ hlt
              rw [Nat.add_mul] at this; omega
            · have : (i + 1) * s ≤ k * s := Nat.mul_le_mul_right _ (by omega)
              rw [Nat.add_mul] at this; omega
          rw [if_neg hne] at hu'
          exact (g6 k j c u hc (by simpa using hu')).mono hl
  | _ => cases h
end Go.AL
