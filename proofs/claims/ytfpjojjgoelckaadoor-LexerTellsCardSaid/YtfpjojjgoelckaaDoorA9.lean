import Derived.Test.YtfpjojjgoelckaaDoorA8
/-! append. -/
namespace Go.AL
open Go.RowKit (Below)
set_option linter.unusedVariables false
set_option linter.unusedSimpArgs false

variable {P : Program} {o : Oper} {ρ : Operand → AV} {σ : ASt} {R : AV → ASt → Prop}

def ASt.dropSl (σ : ASt) (b : Nat) : ASt := { σ with sl := upd σ.sl b none }
@[simp] theorem dropSl_next (σ : ASt) (b : Nat) : (σ.dropSl b).next = σ.next := rfl
theorem dropSl_le (σ : ASt) (b : Nat) : (σ.dropSl b).Le σ :=
  ⟨fun _ _ h => h, fun _ _ h => h, fun x cs h => by
    by_cases e : x = b
    · subst e; simp [ASt.dropSl] at h
    · exact (upd_ne σ.sl none e).symm.trans h, Nat.le_refl _⟩

theorem SimW.rewriteSl {G σ w w' b xs β r0 r1 xs'} (h : SimW G σ w) (hb : σ.sl b = some xs) (g : G.sl b = some (some (β, r0))) (ht : Touch w w' β)
    (hw : Le G w (G.addSl σ.next (some (β, r1))) w' → SlOK (G.addSl σ.next (some (β, r1))) w' σ.next xs') :
    Le G w (G.addSl σ.next (some (β, r1))) w' ∧ SimW (G.addSl σ.next (some (β, r1))) ((σ.dropSl b).addSl xs') w' := by
  have ho : Owns G σ β (2, b) := .sl b β r0 xs hb g
  have hl0 := Le.touch h ho ht
  have hf := h.fresh σ.next (Nat.le_refl _)
  have hbn : b ≠ σ.next := fun e => by subst e; rw [hf.2.2.1] at g; cases g
  have hl : Le G w (G.addSl σ.next (some (β, r1))) w' := ⟨rfl, fun _ _ e => e, fun _ _ e => e, fun c γ e => (upd_ne G.sl _ (fun hh => by subst hh; rw [hf.2.2.1] at e; cases e)).trans e, fun _ _ e => e, fun _ _ e => .inl e, hl0.cell, hl0.below⟩
  refine ⟨hl, ?_⟩
  have hown : ∀ γ k, Owns (G.addSl σ.next (some (β, r1))) ((σ.dropSl b).addSl xs') γ k → (γ = β ∧ k = (2, σ.next)) ∨ (Owns G σ γ k ∧ γ ≠ β) := by
    intro γ k hk
    cases hk with
    | sl b' β' q cs2 h2 g2 =>
      by_cases e : b' = σ.next
      · subst e
        have := Option.some.inj ((upd_same G.sl σ.next _).symm.trans g2)
        simp only [Option.some.injEq, Prod.mk.injEq] at this
        exact .inl ⟨this.1.symm, rfl⟩
      · have h2' : upd σ.sl b none b' = some cs2 := (upd_ne _ _ e).symm.trans h2
        by_cases e2 : b' = b
        · subst e2; simp at h2'
        · have o2 : Owns G σ γ (2, b') := .sl _ _ q cs2 ((upd_ne _ _ e2).symm.trans h2') ((upd_ne _ _ e).symm.trans g2)
          refine .inr ⟨o2, fun e3 => ?_⟩
          subst e3
          have := (h.own _ _ ho).2.1 _ o2
          simp at this; exact e2 this
    | bx b' β' cs2 h2 g2 =>
      have o2 : Owns G σ γ (0, b') := .bx _ _ cs2 h2 g2
      refine .inr ⟨o2, fun e3 => ?_⟩
      subst e3
      have := (h.own _ _ ho).2.1 _ o2
      simp at this
    | mp b' β' cs2 h2 g2 =>
      have o2 : Owns G σ γ (1, b') := .mp _ _ cs2 h2 g2
      refine .inr ⟨o2, fun e3 => ?_⟩
      subst e3
      have := (h.own _ _ ho).2.1 _ o2
      simp at this
  refine ⟨h.base.go hl.below, fun b' cs2 e => (h.bx b' cs2 e).mono hl fun γ gg => ht.block γ fun hh => ?_, fun b' cs2 e => (h.mp b' cs2 e).mono hl fun γ gg => ht.block γ fun hh => ?_, fun b' cs2 e => ?_, ?_,
    fun γ o e => by rw [ht.size]; exact h.stIn γ o e, fun b' hb' => ?_⟩
  · subst hh
    have := (h.own _ _ ho).2.1 _ (.bx b' γ cs2 e gg)
    simp at this
  · subst hh
    have := (h.own _ _ ho).2.1 _ (.mp b' γ cs2 e gg)
    simp at this
  · by_cases eb : b' = σ.next
    · subst eb
      obtain rfl := Option.some.inj ((upd_same _ σ.next (some xs')).symm.trans e)
      exact hw hl
    · have e' : upd σ.sl b none b' = some cs2 := (upd_ne _ _ eb).symm.trans e
      by_cases e2 : b' = b
      · subst e2; simp at e'
      · have e3 : σ.sl b' = some cs2 := (upd_ne _ _ e2).symm.trans e'
        refine (h.sl b' cs2 e3).mono hl fun γ q gg => ht.block γ fun hh => ?_
        subst hh
        have := (h.own _ _ ho).2.1 _ (.sl b' γ q cs2 e3 gg)
        simp at this; exact e2 this
  · intro γ k hk
    rcases hown γ k hk with ⟨rfl, rfl⟩ | ⟨hk, hne⟩
    · refine ⟨(h.own _ _ ho).1, fun k' hk' => ?_, (h.own _ _ ho).2.2⟩
      rcases hown _ k' hk' with ⟨_, rfl⟩ | ⟨_, hne⟩
      · rfl
      · exact absurd rfl hne
    · refine ⟨(h.own γ k hk).1, fun k' hk' => ?_, (h.own γ k hk).2.2⟩
      rcases hown _ k' hk' with ⟨rfl, _⟩ | ⟨hk', _⟩
      · exact absurd rfl hne
      · exact (h.own γ k hk).2.1 k' hk'
  · have hb2 : σ.next + 1 ≤ b' := hb'
    obtain ⟨f1, f2, f3, f4, f5, f6⟩ := h.fresh b' (by omega)
    have n1 : b' ≠ σ.next := by omega
    refine ⟨f1, f2, (upd_ne _ _ n1).trans f3, f4, f5, (upd_ne _ _ n1).trans ?_⟩
    show upd σ.sl b none b' = none
    by_cases e2 : b' = b
    · subst e2; simp
    · exact (upd_ne _ _ e2).trans f6

/-- So many cells, from an address on, are these elements'. -/
def SegAs (G : Ghost) (w : World) (n : Nat) (ys : List AV) (a : Addr) (news : List Value) : Prop :=
  news.length = ys.length * n ∧ (∀ (k : Nat) u, news[k]? = some u → w.cell? (a.add k) = some u) ∧ ∀ (i j : Nat) c u, rowCell ys i j = some c → news[i * n + j]? = some u → Rep G w c u
theorem seg_of {G w n} {ys : List AV} {β o : Nat} (hn : ∀ (i : Nat) x, ys[i]? = some x → x.cells.length = n)
    (hc : ∀ (i j : Nat) c, rowCell ys i j = some c → ∃ v, w.cell? ⟨β, o + i * n + j, none⟩ = some v ∧ Rep G w c v) : ∃ news, SegAs G w n ys ⟨β, o, none⟩ news := by
  have row : ∀ k, k < ys.length * n → ∃ c, rowCell ys (k / n) (k % n) = some c := by
    intro k hk
    have hn0 : 0 < n := Nat.pos_of_ne_zero fun e => by subst e; simp at hk
    have hi : k / n < ys.length := Nat.div_lt_of_lt_mul (by rwa [Nat.mul_comm])
    have hj : k % n < n := Nat.mod_lt _ hn0
    have := hn _ _ (List.getElem?_eq_getElem hi)
    refine ⟨(ys[k / n].cells)[k % n]'(by omega), ?_⟩
    unfold rowCell
    rw [List.getElem?_eq_getElem hi]
    simp only [Option.bind_some]
    exact List.getElem?_eq_getElem (by omega)
  refine ⟨(List.range (ys.length * n)).map fun k => (w.cell? ⟨β, o + k, none⟩).getD undef, by simp, fun k u hu => ?_, fun i j c u hcc hu => ?_⟩
  · have hk : k < ys.length * n := by simpa using (List.getElem?_eq_some_iff.1 hu).1
    rw [List.getElem?_map, List.getElem?_range hk] at hu
    simp only [Option.map_some, Option.some.injEq] at hu
    obtain ⟨c, hcc⟩ := row k hk
    obtain ⟨v, h1, _⟩ := hc _ _ c hcc
    have e : o + k / n * n + k % n = o + k := by have := Nat.div_add_mod k n; rw [Nat.mul_comm] at this; omega
    rw [e] at h1
    rw [addr_add, h1]
    rw [h1] at hu
    simpa using hu
  · obtain ⟨v, h1, h2⟩ := hc i j c hcc
    obtain ⟨_, _, hlt⟩ := rowCell_lt hcc hn
    rw [List.getElem?_map, List.getElem?_range hlt] at hu
    simp only [Option.map_some, Option.some.injEq] at hu
    rw [← Nat.add_assoc, h1] at hu
    simp only [Option.getD_some] at hu
    subst hu
    exact h2
theorem seg_one {G w n ys a news} (h : SegAs G w n ys a news) (hn : ∀ (i : Nat) x, ys[i]? = some x → x.cells.length = n) (hok : ∀ y ∈ ys, AV.okv y = true) : ∀ u ∈ news, u.oneCell' = true := by
  intro u hu
  obtain ⟨k, hk, rfl⟩ := List.getElem_of_mem hu
  have hk' : k < ys.length * n := by rw [← h.1]; exact hk
  have hn0 : 0 < n := Nat.pos_of_ne_zero fun e => by subst e; simp at hk'
  have hi : k / n < ys.length := Nat.div_lt_of_lt_mul (by rwa [Nat.mul_comm])
  have hj : k % n < n := Nat.mod_lt _ hn0
  have hl := hn _ _ (List.getElem?_eq_getElem hi)
  have hj' : k % n < ys[k / n].cells.length := by omega
  have hr := h.2.2 (k / n) (k % n) ys[k / n].cells[k % n] news[k] (by unfold rowCell; rw [List.getElem?_eq_getElem hi]; exact List.getElem?_eq_getElem hj') (by
    have := Nat.div_add_mod k n; rw [Nat.mul_comm] at this; rw [this]; exact List.getElem?_eq_getElem hk)
  exact rep_one (okv_one (hok _ (List.getElem_mem hi)) _ (List.getElem_mem hj')) hr
theorem rowCell_append (es ys : List AV) (i j : Nat) : rowCell (es ++ ys) i j = if i < es.length then rowCell es i j else rowCell ys (i - es.length) j := by
  unfold rowCell
  split
  · rename_i h; rw [List.getElem?_append_left h]
  · rename_i h; rw [List.getElem?_append_right (by omega)]

/-- What is appended. -/
def asrc (σ : ASt) : AV → Option (List AV)
  | .vsl ys => some ys
  | .hsl b off n => (σ.sl b).bind fun xs => if off + n ≤ xs.length then some ((xs.drop off).take n) else none
  | _ => none
theorem rowCell_seg (xs : List AV) (off n i j : Nat) (c : AV) (hc : rowCell ((xs.drop off).take n) i j = some c) : rowCell xs (off + i) j = some c ∧ i < n := by
  unfold rowCell at *
  obtain ⟨x, hx, hj⟩ := Option.bind_eq_some_iff.1 hc
  rw [List.getElem?_take] at hx
  split at hx
  · rename_i hlt
    rw [List.getElem?_drop] at hx
    exact ⟨by rw [hx]; exact hj, hlt⟩
  · cases hx
theorem asrc_spec {x : AV} {ys : List AV} (h : asrc σ x = some ys) (hne : ys ≠ []) {n : Nat} (hn : ∀ y ∈ ys, y.cells.length = n) {G w v} (hw : SimW G σ w) (hx : Rep G w x v) :
    ∃ a c news, v = .slice (some a) ys.length c ∧ SegAs G w n ys a news := by
  have hn' : ∀ (i : Nat) x, ys[i]? = some x → x.cells.length = n := fun i x hx => hn x (List.mem_of_getElem? hx)
  cases hx with
  | vnil => obtain rfl := Option.some.inj h; exact absurd rfl hne
  | vsl _ β o s cap val hcap hs hc hrr =>
    obtain rfl := Option.some.inj h
    rename_i xs
    obtain ⟨y, hy⟩ := List.exists_mem_of_ne_nil _ hne
    obtain ⟨i, hi, hyi⟩ := List.getElem_of_mem hy
    have hs' : s = n := (hs i _ (List.getElem?_eq_getElem hi)).symm.trans (hn _ (List.getElem_mem hi))
    subst hs'
    obtain ⟨news, hseg⟩ := seg_of (G := G) (w := w) (β := β) (o := o) hn' (fun i j c hcc => ⟨val i j, (hc i j c hcc).2, hrr i j c hcc⟩)
    exact ⟨_, cap, news, rfl, hseg⟩
  | hsl b off m β o s cap gb hle =>
    obtain ⟨xs, hxs, h⟩ := Option.bind_eq_some_iff.1 h
    obtain ⟨hin, h⟩ := ite_some' h
    obtain rfl := Option.some.inj h
    have hlen : ((xs.drop off).take m).length = m := by simp; omega
    have hm : 0 < m := by rw [← hlen]; exact List.length_pos_iff.2 hne
    rcases hw.sl b xs hxs with ⟨g1, _⟩ | ⟨β', o', s', cap', arr, el, g1, g2, g3, g4, g5, g6⟩
    · rw [gb] at g1; cases g1
    · obtain ⟨rfl, rfl, rfl, rfl⟩ : β = β' ∧ o = o' ∧ s = s' ∧ cap = cap' := by rw [gb] at g1; simpa using g1
      have h0 : off < xs.length := by omega
      have hs' : s = n := (g5 off _ (List.getElem?_eq_getElem h0)).symm.trans (hn _ (by
        refine List.mem_of_getElem? (i := 0) ?_
        rw [List.getElem?_take, if_pos hm, List.getElem?_drop, Nat.add_zero]
        exact List.getElem?_eq_getElem h0))
      subst hs'
      obtain ⟨news, hseg⟩ := seg_of (G := G) (w := w) (n := s) (ys := (xs.drop off).take m) (β := β) (o := o + off * s) hn' (fun i j c hcc => by
        obtain ⟨hc2, hi⟩ := rowCell_seg _ _ _ _ _ _ hcc
        obtain ⟨h1, h2, h3⟩ := rowCell_lt hc2 g5
        have hlt : o + (off + i) * s + j < arr.size := by
          have : xs.length * s ≤ cap * s := Nat.mul_le_mul_right _ g3.2
          omega
        refine ⟨arr[o + (off + i) * s + j], ?_, g6 _ j c _ hc2 (Array.getElem?_eq_getElem hlt)⟩
        have e : o + off * s + i * s + j = o + (off + i) * s + j := by rw [Nat.add_mul]; omega
        rw [cell_of_heap g2, e]
        exact Array.getElem?_eq_getElem hlt)
      exact ⟨_, cap - off, news, by rw [hlen], hseg⟩
  | hend => 
    obtain ⟨xs, hxs, h⟩ := Option.bind_eq_some_iff.1 h
    obtain ⟨hin, h⟩ := ite_some' h
    obtain rfl := Option.some.inj h
    simp at hne
  | hnil =>
    obtain ⟨xs, hxs, h⟩ := Option.bind_eq_some_iff.1 h
    obtain ⟨hin, h⟩ := ite_some' h
    obtain rfl := Option.some.inj h
    simp at hne
  | _ => cases h
theorem execOp_append (e : Operand → Value) {s x : Operand} {t : TypeId} (ho : o.op = .call { callee := .builtin .append, args := #[s, x], argTypes := #[t, t] }) :
    execOp e o = (do pure (.value (← Builtin.append_ #[t, t] o.type #[e s, e x]))) := by
  rw [execOp_builtin e ho]; simp [builtin]
/-- What grows gets a new place. -/
theorem append_grow {t el : TypeId} {n : Nat} {i : TypeInfo} {z : Value} (ht : P.underlying t = some (.slice el)) (hi : P.info? el = some i) (hz : i.zero = some z) (hin : i.size = n) (hzn : z.cells.size = n)
    {G w} (hw : SimW G σ w) {es ys : List AV} {b : Addr} {sCap : Nat} {olds news : List Value} {a : Addr} {c : Nat} (ho : SegAs G w n es b olds) (hs : SegAs G w n ys a news) (hne : ys ≠ [])
    (hes : ∀ (i : Nat) x, es[i]? = some x → x.cells.length = n) (hys : ∀ (i : Nat) x, ys[i]? = some x → x.cells.length = n) (hg : sCap < es.length + ys.length) (hb : (es.length + ys.length) * i.bytes ≤ 140737488355328) (hsm : es.length + ys.length ≤ 9223372036854775807) (ty : TypeId) :
    ∃ v w', (Builtin.append_ #[t, t] ty #[.slice (some b) es.length sCap, .slice (some a) ys.length c]).run P w = .ok v w' ∧ ∃ G', Le G w G' w' ∧ SimW G' (σ.addSl (es ++ ys)) w' ∧ Rep G' w' (.hsl σ.next 0 (es ++ ys).length) v := by
  subst hin
  have hrun := run_append_grow (P := P) w t ty el i z ht hi hz b es.length sCap olds ho.1 ho.2.1 a ys.length c news hs.1 hs.2.1 hg (by omega) (growslice_fits hg hb)
  have hcap := grownCap_ge w (es.length + ys.length) sCap el
  refine ⟨_, _, hrun, ?_⟩
  rw [← List.length_append]
  have hbel : Below w.heap.size w w.drew := (Below.refl _ _).drew
  refine new_hsl (n := i.size) hw (fun k x hx => ?_) (fun k j cc v hc hv => ?_) (by simp; have := List.length_pos_iff.2 hne; omega) (by simpa using hcap) ?_ el w.drew hbel
  · rw [List.getElem?_append] at hx
    split at hx
    · exact hes _ _ hx
    · exact hys _ _ hx
  · rw [rowCell_append] at hc
    have hv' : (olds ++ news ++ (Builtin.zeroCells z.cells (grownCap w (es.length + ys.length) sCap el - (es.length + ys.length))).toList)[k * i.size + j]? = some v := by
      rw [← Array.getElem?_toList] at hv; simpa using hv
    split at hc
    · rename_i hk
      obtain ⟨_, _, hlt⟩ := rowCell_lt hc hes
      rw [List.append_assoc, List.getElem?_append_left (by rw [ho.1]; exact hlt)] at hv'
      exact ho.2.2 k j cc v hc hv'
    · rename_i hk
      obtain ⟨_, _, hlt⟩ := rowCell_lt hc hys
      have e : k * i.size = es.length * i.size + (k - es.length) * i.size := by rw [← Nat.add_mul]; congr 1; omega
      rw [List.append_assoc, List.getElem?_append_right (by rw [ho.1]; omega), List.getElem?_append_left (by rw [ho.1, hs.1]; omega)] at hv'
      rw [ho.1, show k * i.size + j - es.length * i.size = (k - es.length) * i.size + j by omega] at hv'
      exact hs.2.2 _ j cc v hc hv'
  · simp only [Array.size_append, List.size_toArray, size_zeroCells, hzn, ho.1, hs.1, ← Nat.add_mul, List.length_append]
    exact Nat.mul_le_mul_right _ (by omega)
/-- append onto a slice of the function's own. -/
theorem opq_append {s x : Operand} {t el : TypeId} (ho : o.op = .call { callee := .builtin .append, args := #[s, x], argTypes := #[t, t] }) {b off k : Nat} {xs ys : List AV} {n by_ : Nat} {g : Bool} {z : AV}
    (hs : ρ s = .hsl b off k) (hb : σ.sl b = some xs) (hk : off + k ≤ xs.length) (hx : asrc σ (ρ x) = some ys) (hne : ys ≠ []) (ht : telem P t = some (n, g, by_)) (hel : telemT P t = some el) (hz : tzero P el = some z) (hzn : z.cells.length = n)
    (hxs : ∀ y ∈ xs, y.cells.length = n) (hys : ∀ y ∈ ys, y.cells.length = n ∧ y.okv = true) (hB : (k + ys.length) * by_ ≤ 140737488355328) (hS : k + ys.length ≤ 9223372036854775807)
    (hr : R (.hsl σ.next 0 (k + ys.length)) ((σ.dropSl b).addSl ((xs.drop off).take k ++ ys))) : OpQ P o ρ σ R := by
  intro G e w he hw
  have hrs := he s
  rw [hs] at hrs
  obtain ⟨e', i', t1, t2, t3, rfl⟩ := telem_spec ht
  have hee : e' = el := by simpa [telemT, t1] using hel
  subst hee
  obtain ⟨it, zv, hi, hzv, rfl⟩ := tzero_spec hz
  obtain rfl := Option.some.inj (t2.symm.trans hi)
  obtain ⟨i2, d2, q1, q2, q3, _⟩ := tsize_spec t3
  obtain rfl := Option.some.inj (t2.symm.trans q1)
  rw [ofV_cells] at hzn
  obtain ⟨a, c, news, hv, hseg⟩ := asrc_spec hx hne (fun y hy => (hys y hy).1) hw (he x)
  have hys' : ∀ (i : Nat) x, ys[i]? = some x → x.cells.length = n := fun i x hx => (hys x (List.mem_of_getElem? hx)).1
  have hlen : ((xs.drop off).take k).length = k := by simp; omega
  have hes' : ∀ (i : Nat) x, ((xs.drop off).take k)[i]? = some x → x.cells.length = n := fun i x hx => by
    have := List.mem_of_getElem? hx
    exact hxs x (List.mem_of_mem_drop (List.mem_of_mem_take this))
  have hpos := List.length_pos_iff.2 hne
  rw [execOp_append e ho]
  have finish : ∀ v w', (Builtin.append_ #[t, t] o.type #[e s, e x]).run P w = .ok v w' → (∃ G', Le G w G' w' ∧ SimW G' ((σ.dropSl b).addSl ((xs.drop off).take k ++ ys)) w' ∧ Rep G' w' (.hsl σ.next 0 (k + ys.length)) v) →
      OutcN P G w R ((do pure (Next.value (← Builtin.append_ #[t, t] o.type #[e s, e x])) : Sem Next).run P w) := by
    rintro v w' h1 ⟨G', h2, h3, h4⟩
    simp only [Sem.run_bind, h1, Result.andThen_ok, Sem.run_pure]
    exact ⟨_, G', _, h2, h3, h4, hr⟩
  have hwd := hw.less (dropSl_le σ b)
  suffices hm : ∃ v w', (Builtin.append_ #[t, t] o.type #[e s, e x]).run P w = .ok v w' ∧ ∃ G', Le G w G' w' ∧ SimW G' ((σ.dropSl b).addSl ((xs.drop off).take k ++ ys)) w' ∧ Rep G' w' (.hsl σ.next 0 (k + ys.length)) v by
    obtain ⟨v, w', h1, h2⟩ := hm
    exact finish v w' h1 h2
  clear finish
  generalize e s = vs at hrs ⊢
  have grow0 : ∀ (a0 : Option Addr), vs = .slice a0 0 0 → k = 0 → ∃ v w', (Builtin.append_ #[t, t] o.type #[vs, e x]).run P w = .ok v w' ∧ ∃ G', Le G w G' w' ∧ SimW G' ((σ.dropSl b).addSl ((xs.drop off).take k ++ ys)) w' ∧ Rep G' w' (.hsl σ.next 0 (k + ys.length)) v := by
    intro a0 hv0 hk0
    subst hk0
    rw [hv0, hv]
    have hB0 : ys.length * i'.bytes ≤ 140737488355328 := by simpa using hB
    have hseg0 : SegAs G w n [] ⟨0, 0, none⟩ [] := ⟨by simp, fun k u hu => by simp at hu, fun i j c u hc => by simp [rowCell] at hc⟩
    cases a0 with
    | some a0 =>
      have hseg0 : SegAs G w n [] a0 [] := ⟨by simp, fun k u hu => by simp at hu, fun i j c u hc => by simp [rowCell] at hc⟩
      have := append_grow (σ := σ.dropSl b) t1 t2 hzv q3 hzn hwd (es := []) (sCap := 0) hseg0 hseg hne (fun i x hx => by simp at hx) hys' (by simpa using hpos) (by simpa using hB) (by simpa using hS) o.type (c := c)
      simpa using this
    | none =>
      have hrun := run_append_nil (P := P) w t o.type e' i' zv t1 t2 hzv a ys.length c news (by rw [q3]; exact hseg.1) hseg.2.1 hpos (by omega) (by omega)
      have hcap := grownCap_ge w ys.length 0 e'
      refine ⟨_, _, hrun, ?_⟩
      have hbel : Below w.heap.size w w.drew := (Below.refl _ _).drew
      have := new_hsl (σ := σ.dropSl b) (n := n) (es := ys) hwd (arr := news.toArray ++ Builtin.zeroCells zv.cells (grownCap w ys.length 0 e' - ys.length)) hys' (fun i j cc v hc hvv => by
        obtain ⟨_, _, hlt⟩ := rowCell_lt hc hys'
        rw [Array.getElem?_append_left (by rw [List.size_toArray, hseg.1]; exact hlt)] at hvv
        exact hseg.2.2 i j cc v hc (by simpa using hvv)) hpos hcap (by
          simp only [Array.size_append, List.size_toArray, size_zeroCells, hzn, hseg.1, ← Nat.add_mul]
          exact Nat.mul_le_mul_right _ (by omega)) e' w.drew hbel
      simpa using this
  cases hrs with
  | hsl _ _ _ β o' s' cap gb hle =>
    rcases hw.sl b xs hb with ⟨g1, _⟩ | ⟨β', o'', s'', cap', arr, elt, g1, g2, g3, g4, g5, g6⟩
    · rw [gb] at g1; cases g1
    · obtain ⟨rfl, rfl, rfl, rfl⟩ : β = β' ∧ o' = o'' ∧ s' = s'' ∧ cap = cap' := by rw [gb] at g1; simpa using g1
      have hs' : s' = n := (g5 0 _ (List.getElem?_eq_getElem g3.1)).symm.trans (hxs _ (List.getElem_mem g3.1))
      subst hs'
      by_cases hroom : k + ys.length ≤ cap - off
      · -- in place
        have hfit : o' + off * s' + k * s' + ys.length * s' ≤ arr.size := by
          have : (off + k + ys.length) * s' ≤ cap * s' := Nat.mul_le_mul_right _ (by omega)
          rw [Nat.add_mul, Nat.add_mul] at this; omega
        have hf := run_firstCells_some (P := P) w s' ys.length a ys.length c news hseg.1 hseg.2.1
        have hst := run_storeCells_at (P := P) β (o' + off * s' + k * s') elt news 0 arr w g2 (by rw [hseg.1]; omega) (seg_one hseg hys' fun y hy => (hys y hy).2)
        simp only [Nat.add_zero] at hst
        refine ⟨(.slice (some ⟨β, o' + off * s', none⟩) (k + ys.length) (cap - off)), (w.setRow β (arr.toList.take (o' + off * s' + k * s') ++ news ++ arr.toList.drop (o' + off * s' + k * s' + news.length)).toArray), ?_, ?_⟩
        · rw [hv]
          simp [Builtin.append_, run_underlying' t1, sizeOf, run_typeInfo' t2, Builtin.lenOf, hroom, q3, hf, addr_add, hst]
        · have ht := touch_setRow w β (arr.toList.take (o' + off * s' + k * s') ++ news ++ arr.toList.drop (o' + off * s' + k * s' + news.length)).toArray
          have hsl : Le G w (G.addSl σ.next (some (β, (o' + off * s', s', cap - off)))) (w.setRow β (arr.toList.take (o' + off * s' + k * s') ++ news ++ arr.toList.drop (o' + off * s' + k * s' + news.length)).toArray) →
              SlOK (G.addSl σ.next (some (β, (o' + off * s', s', cap - off)))) (w.setRow β (arr.toList.take (o' + off * s' + k * s') ++ news ++ arr.toList.drop (o' + off * s' + k * s' + news.length)).toArray) σ.next ((xs.drop off).take k ++ ys) := by
            intro hl
            refine .inr ⟨β, o' + off * s', s', cap - off, _, elt, upd_same _ _ _, setRow_new g2 _, ⟨by simp; omega, by simp; omega⟩, ?_, ?_, ?_⟩
            · have hcs : off * s' + (cap - off) * s' = cap * s' := by rw [← Nat.add_mul]; congr 1; omega
              simp [hseg.1]; omega
            · intro i y hy
              rw [List.getElem?_append] at hy
              split at hy
              · exact hes' _ _ hy
              · exact hys' _ _ hy
            · intro i j cc u hc hu
              have hu' : (arr.toList.take (o' + off * s' + k * s') ++ news ++ arr.toList.drop (o' + off * s' + k * s' + ys.length * s'))[o' + off * s' + i * s' + j]? = some u := by rw [← hseg.1]; simpa using hu
              rw [splice_get _ _ _ _ hseg.1 (by simp; omega)] at hu'
              rw [rowCell_append, hlen] at hc
              split at hc
              · rename_i hik
                obtain ⟨hc2, hi⟩ := rowCell_seg _ _ _ _ _ _ hc
                obtain ⟨p1, p2, p3⟩ := rowCell_lt hc2 g5
                have : (i + 1) * s' ≤ k * s' := Nat.mul_le_mul_right _ hi
                rw [Nat.add_mul] at this
                rw [if_neg (by omega), show o' + off * s' + i * s' + j = o' + (off + i) * s' + j by rw [Nat.add_mul]; omega] at hu'
                exact (g6 _ j cc u hc2 (by simpa using hu')).mono hl
              · rename_i hik
                obtain ⟨p1, p2, p3⟩ := rowCell_lt hc hys'
                have e1 : i * s' = k * s' + (i - k) * s' := by rw [← Nat.add_mul]; congr 1; omega
                rw [if_pos (by omega), show o' + off * s' + i * s' + j - (o' + off * s' + k * s') = (i - k) * s' + j by omega] at hu'
                exact (hseg.2.2 _ j cc u hc hu').mono hl
          obtain ⟨h1, h2⟩ := hw.rewriteSl hb gb ht hsl
          refine ⟨_, h1, h2, ?_⟩
          have := Rep.hsl (G := G.addSl σ.next (some (β, o' + off * s', s', cap - off))) (w := w.setRow β (arr.toList.take (o' + off * s' + k * s') ++ news ++ arr.toList.drop (o' + off * s' + k * s' + news.length)).toArray) σ.next 0 (k + ys.length) β (o' + off * s') s' (cap - off) (upd_same _ _ _) (by omega)
          simpa using this
      · -- elsewhere
        obtain ⟨olds, hold⟩ := seg_of (G := G) (w := w) (n := s') (ys := (xs.drop off).take k) (β := β) (o := o' + off * s') hes' (fun i j cc hcc => by
          obtain ⟨hc2, hi⟩ := rowCell_seg _ _ _ _ _ _ hcc
          obtain ⟨h1, h2, h3⟩ := rowCell_lt hc2 g5
          have hlt : o' + (off + i) * s' + j < arr.size := by
            have : xs.length * s' ≤ cap * s' := Nat.mul_le_mul_right _ g3.2
            omega
          refine ⟨arr[o' + (off + i) * s' + j], ?_, g6 _ j cc _ hc2 (Array.getElem?_eq_getElem hlt)⟩
          have e1 : o' + off * s' + i * s' + j = o' + (off + i) * s' + j := by rw [Nat.add_mul]; omega
          rw [cell_of_heap g2, e1]
          exact Array.getElem?_eq_getElem hlt)
        obtain ⟨v, w', h1, h2⟩ := append_grow (σ := σ.dropSl b) t1 t2 hzv q3 hzn hwd hold hseg hne hes' hys' (sCap := cap - off) (by rw [hlen]; omega) (by rw [hlen]; exact hB) (by rw [hlen]; exact hS) o.type (c := c)
        rw [hlen] at h1
        rw [List.length_append, hlen] at h2
        exact ⟨v, w', by rw [hv]; exact h1, h2⟩
  | hend _ _ a0 β o' s' cap gb hle =>
    exact grow0 a0 rfl rfl
  | hnil _ a0 gb =>
    exact grow0 a0 rfl rfl
end Go.AL
