/- Parts of the proof of BranchOthers: the logic, contracts, plain laws. -/
import Derived.Test.YtjldlcakinmajaaZBranchOthers3
import Derived.Laws.Append
/-! Operations, sixth part: cuts, append. -/
namespace Go.AL
open Go.RowKit (Below)
set_option linter.unusedVariables false
set_option linter.unusedSimpArgs false
variable {P : Program} {o : Oper} {ρ : Operand → AV} {σ : ASt} {R : AV → ASt → Prop}
/-! ### cuts -/
def abound (d : Nat) : Option AV → Option Nat
  | none => some d
  | some (.p (.int _ i)) => if 0 ≤ i then some i.toNat else none
  | some _ => none
def BoundAs (G : Ghost) (w : World) : Option AV → Option Value → Prop
  | none, none => True
  | some a, some v => Rep G w a v
  | _, _ => False
theorem run_sliceBound {G w} {a : Option AV} {v : Option Value} (h : BoundAs G w a v) {d k y : Nat} (hk : abound d a = some k) (hle : k ≤ y) (c : BoundsCode) :
    (v = none ∧ d = k) ∨ ∃ u, v = some u ∧ (Instr.sliceBound u y c).run P w = .ok k w := by
  cases a with
  | none =>
    cases v with
    | none => exact .inl ⟨rfl, Option.some.inj hk⟩
    | some v => exact h.elim
  | some a =>
    cases v with
    | none => exact h.elim
    | some v =>
      refine .inr ⟨v, rfl, ?_⟩
      cases a with
      | p x =>
        cases x with
        | int q i =>
          obtain ⟨h0, hk⟩ := ite_some' hk
          obtain rfl := Option.some.inj hk
          cases h
          have hc : 0 ≤ i ∧ i ≤ (y : Int) := ⟨h0, by omega⟩
          simp [Instr.sliceBound, asIntOf, hc]
        | _ => cases hk
      | _ => cases hk
theorem run_sliceBounds {G w} {lo hi : Option AV} {vlo vhi : Option Value} (h1 : BoundAs G w lo vlo) (h2 : BoundAs G w hi vhi) {len cap l h : Nat} (hl : abound 0 lo = some l) (hh : abound len hi = some h) (hle : l ≤ h) (hcap : h ≤ cap) (s : Bool) :
    (Instr.sliceBounds s len cap vlo vhi none).run P w = .ok (l, h, cap) w := by
  rcases run_sliceBound (P := P) h2 hh hcap (if s then .sliceAcap else .sliceAlen) with ⟨rfl, rfl⟩ | ⟨u, rfl, hr⟩ <;> rcases run_sliceBound (P := P) h1 hl hle .sliceB with ⟨rfl, rfl⟩ | ⟨u', rfl, hr'⟩
  · simp [Instr.sliceBounds]
  · simp [Instr.sliceBounds, hr']
  · simp [Instr.sliceBounds, hr]
  · simp [Instr.sliceBounds, hr, hr']
def aslice (P : Program) (σ : ASt) (t : TypeId) (x : AV) (lo hi : Option AV) : Option AV :=
  match x with
  | .p (.string s) => if isString P t = true then (abound 0 lo).bind fun l => (abound s.size hi).bind fun h => if l ≤ h ∧ h ≤ s.size then some (.p (.string (s.extract l h))) else none else none
  | .vsl xs => (telem P t).bind fun q => (abound 0 lo).bind fun l => (abound xs.length hi).bind fun h =>
      if l ≤ h ∧ h ≤ xs.length ∧ (∀ y ∈ xs[l]?, y.cells.length = q.1) then some (.vsl ((xs.take h).drop l)) else none
  | .hsl b off n => (telem P t).bind fun q => (abound 0 lo).bind fun l => (abound n hi).bind fun h =>
      if l ≤ h ∧ h ≤ n then (if l = 0 then some (.hsl b off h) else (σ.sl b).bind fun xs => (xs[off]?).bind fun y => if y.cells.length = q.1 then some (.hsl b (off + l) (h - l)) else none) else none
  | _ => none
theorem rowCell_cut (xs : List AV) (l h i j : Nat) (c : AV) (hc : rowCell ((xs.take h).drop l) i j = some c) : rowCell xs (l + i) j = some c ∧ l + i < h := by
  unfold rowCell at *
  obtain ⟨x, hx, hj⟩ := Option.bind_eq_some_iff.1 hc
  rw [List.getElem?_drop, List.getElem?_take] at hx
  split at hx
  · rename_i hlt
    exact ⟨by rw [hx]; exact hj, hlt⟩
  · cases hx
theorem opq_slice {t : TypeId} {x : Operand} {lo hi : Option Operand} (ho : o.op = .slice t x lo hi none) {r : AV} (h : aslice P σ t (ρ x) (lo.map ρ) (hi.map ρ) = some r) (hr : R r σ) : OpQ P o ρ σ R := by
  refine opq_v (s := fun e => Instr.sliceAt t (e x) (lo.map e) (hi.map e) none) (fun e => by simp only [execOp, ho]; rfl) r hr fun G e w he hw => ?_
  have hx := he x
  have b1 : BoundAs G w (lo.map ρ) (lo.map e) := by cases lo with | none => trivial | some l => exact he l
  have b2 : BoundAs G w (hi.map ρ) (hi.map e) := by cases hi with | none => trivial | some l => exact he l
  generalize ρ x = cx at h hx
  generalize e x = vx at hx
  generalize lo.map ρ = al at h b1
  generalize hi.map ρ = ah at h b2
  generalize lo.map e = vl at b1
  generalize hi.map e = vh at b2
  unfold aslice at h
  split at h
  · rename_i s
    obtain ⟨ht, h⟩ := ite_some' h
    obtain ⟨l, hl, h⟩ := Option.bind_eq_some_iff.1 h
    obtain ⟨k, hk, h⟩ := Option.bind_eq_some_iff.1 h
    obtain ⟨⟨h1, h2⟩, h⟩ := ite_some' h
    obtain rfl := Option.some.inj h
    cases hx
    refine ⟨.string (s.extract l k), ?_, .p _⟩
    have := run_sliceBounds (P := P) b1 b2 hl hk h1 h2 false
    simp [Instr.sliceAt, Instr.slice, run_underlying' (isString_spec ht), this]
  · rename_i xs
    obtain ⟨⟨n, g, by_⟩, hq, h⟩ := Option.bind_eq_some_iff.1 h
    obtain ⟨l, hl, h⟩ := Option.bind_eq_some_iff.1 h
    obtain ⟨k, hk, h⟩ := Option.bind_eq_some_iff.1 h
    obtain ⟨⟨h1, h2, h3⟩, h⟩ := ite_some' h
    obtain rfl := Option.some.inj h
    obtain ⟨e', i', t1, t2, t3, _⟩ := telem_spec hq
    cases hx with
    | vnil a cap =>
      simp only [List.length_nil, Nat.le_zero] at h2 hk
      subst h2
      obtain rfl : l = 0 := by omega
      have := run_sliceBounds (P := P) b1 b2 hl hk (Nat.le_refl _) (Nat.zero_le cap) true
      simp only [Instr.sliceAt, Instr.slice, Sem.run_bind, run_underlying' t1, Result.andThen_ok, this, run_sizeOf' t3, Sem.run_pure]
      exact ⟨_, rfl, .vnil _ _⟩
    | vsl _ β o s cap val hcap hs hc hrr =>
      have := run_sliceBounds (P := P) b1 b2 hl hk h1 (Nat.le_trans h2 hcap) true
      simp only [Instr.sliceAt, Instr.slice, Sem.run_bind, run_underlying' t1, Result.andThen_ok, this, run_sizeOf' t3, Sem.run_pure]
      refine ⟨_, rfl, ?_⟩
      by_cases hlk : l = k
      · subst hlk
        have : (xs.take l).drop l = [] := by simp [List.drop_eq_nil_iff]
        rw [this, Nat.sub_self]
        exact .vnil _ _
      · have hne : ¬ cap = l := by omega
        rw [if_neg hne]
        have hlt : l < xs.length := by omega
        have hs' : s = n := (hs l _ (List.getElem?_eq_getElem hlt)).symm.trans (h3 _ (by rw [List.getElem?_eq_getElem hlt]; rfl))
        subst hs'
        have hlen : ((xs.take k).drop l).length = k - l := by simp; omega
        have hcap2 : ((xs.take k).drop l).length ≤ cap - l := by rw [hlen]; exact Nat.sub_le_sub_right (Nat.le_trans h2 hcap) l
        simp only [Option.map_some, addr_add]
        rw [← hlen]
        refine Rep.vsl _ β (o + l * s) s (cap - l) (fun i j => val (l + i) j) hcap2 (fun i x hx => ?_) (fun i j c hcc => ?_) (fun i j c hcc => hrr _ _ _ (rowCell_cut _ _ _ _ _ _ hcc).1)
        · rw [List.getElem?_drop, List.getElem?_take] at hx
          split at hx
          · exact hs _ _ hx
          · cases hx
        · have := hc _ _ _ (rowCell_cut _ _ _ _ _ _ hcc).1
          rw [show o + l * s + i * s + j = o + (l + i) * s + j by rw [Nat.add_mul]; omega]
          exact this
  · rename_i b off m
    obtain ⟨⟨n, g, by_⟩, hq, h⟩ := Option.bind_eq_some_iff.1 h
    obtain ⟨l, hl, h⟩ := Option.bind_eq_some_iff.1 h
    obtain ⟨k, hk, h⟩ := Option.bind_eq_some_iff.1 h
    obtain ⟨⟨h1, h2⟩, h⟩ := ite_some' h
    obtain ⟨e', i', t1, t2, t3, _⟩ := telem_spec hq
    cases hx with
    | hsl _ _ _ β o s cap gb hle =>
      have := run_sliceBounds (P := P) b1 b2 hl hk h1 (show k ≤ cap - off by omega) true
      simp only [Instr.sliceAt, Instr.slice, Sem.run_bind, run_underlying' t1, Result.andThen_ok, this, run_sizeOf' t3, Sem.run_pure]
      refine ⟨_, rfl, ?_⟩
      by_cases hl0 : l = 0
      · subst hl0
        rw [if_pos rfl] at h
        obtain rfl := Option.some.inj h
        by_cases hcz : cap - off = 0
        · rw [if_pos hcz, hcz, show k - 0 = 0 by omega, show k = 0 by omega]
          exact .hend b off _ β o s cap gb (by omega)
        · rw [if_neg hcz]
          simp only [Option.map_some, addr_add, Nat.zero_mul, Nat.add_zero, Nat.sub_zero]
          exact .hsl b off k β o s cap gb (by omega)
      · rw [if_neg hl0] at h
        obtain ⟨xs, hxs, h⟩ := Option.bind_eq_some_iff.1 h
        obtain ⟨y, hy, h⟩ := Option.bind_eq_some_iff.1 h
        obtain ⟨hyl, h⟩ := ite_some' h
        obtain rfl := Option.some.inj h
        rcases hw.sl b xs hxs with ⟨g1, _⟩ | ⟨β', o', s', cap', arr, el, g1, g2, g3, g4, g5, g6⟩
        · rw [gb] at g1; cases g1
        · obtain ⟨rfl, rfl, rfl, rfl⟩ : β = β' ∧ o = o' ∧ s = s' ∧ cap = cap' := by rw [gb] at g1; simpa using g1
          have hs' : s = n := (g5 _ _ hy).symm.trans hyl
          subst hs'
          by_cases hcl : cap - off = l
          · rw [if_pos hcl, show k - l = 0 by omega, show cap - off - l = 0 by omega]
            exact .hend b (off + l) _ β o s cap gb (by omega)
          · rw [if_neg hcl]
            simp only [Option.map_some, addr_add]
            have e1 : o + off * s + l * s = o + (off + l) * s := by rw [Nat.add_mul]; omega
            have e2 : cap - off - l = cap - (off + l) := by omega
            rw [e1, e2]
            exact .hsl b (off + l) (k - l) β o s cap gb (by omega)
    | hend _ _ a β o s cap gb hle =>
      obtain rfl : k = 0 := by omega
      obtain rfl : l = 0 := by omega
      have := run_sliceBounds (P := P) b1 b2 hl hk (Nat.le_refl _) (Nat.le_refl 0) true
      simp only [Instr.sliceAt, Instr.slice, Sem.run_bind, run_underlying' t1, Result.andThen_ok, this, run_sizeOf' t3, Sem.run_pure]
      rw [if_pos rfl] at h
      obtain rfl := Option.some.inj h
      refine ⟨_, rfl, ?_⟩
      first | rw [if_pos rfl] | rw [if_pos trivial]
      exact .hend b off a β o s cap gb hle
    | hnil _ a gb =>
      obtain rfl : k = 0 := by omega
      obtain rfl : l = 0 := by omega
      have := run_sliceBounds (P := P) b1 b2 hl hk (Nat.le_refl _) (Nat.le_refl 0) true
      simp only [Instr.sliceAt, Instr.slice, Sem.run_bind, run_underlying' t1, Result.andThen_ok, this, run_sizeOf' t3, Sem.run_pure]
      rw [if_pos rfl] at h
      obtain rfl := Option.some.inj h
      refine ⟨_, rfl, ?_⟩
      first | rw [if_pos rfl] | rw [if_pos trivial]
      exact .hnil b a gb
  · cases h
end Go.AL
/-! append. -/
namespace Go.AL
open Go.RowKit (Below)
set_option linter.unusedVariables false
set_option linter.unusedSimpArgs false
variable {P : Program} {o : Oper} {ρ : Operand → AV} {σ : ASt} {R : AV → ASt → Prop}
def ASt.dropSl (σ : ASt) (b : Nat) : ASt := { σ with sl := upd σ.sl b none }
@[simp] theorem dropSl_next (σ : ASt) (b : Nat) : (σ.dropSl b).next = σ.next := rfl
theorem dropSl_le (σ : ASt) (b : Nat) : (σ.dropSl b).Le σ :=
  ⟨fun _ _ h => h, fun _ _ h => h, fun x cs h => by
    by_cases e : x = b
    · subst e; simp [ASt.dropSl] at h
    · exact (upd_ne σ.sl none e).symm.trans h, Nat.le_refl _⟩
theorem SimW.rewriteSl {G σ w w' b xs β r0 r1 xs'} (h : SimW G σ w) (hb : σ.sl b = some xs) (g : G.sl b = some (some (β, r0))) (ht : Touch w w' β)
    (hw : Le G w (G.addSl σ.next (some (β, r1))) w' → SlOK (G.addSl σ.next (some (β, r1))) w' σ.next xs') :
    Le G w (G.addSl σ.next (some (β, r1))) w' ∧ SimW (G.addSl σ.next (some (β, r1))) ((σ.dropSl b).addSl xs') w' := by
  have ho : Owns G σ β (2, b) := .sl b β r0 xs hb g
  have hl0 := Le.touch h ho ht
  have hf := h.fresh σ.next (Nat.le_refl _)
  have hbn : b ≠ σ.next := fun e => by subst e; rw [hf.2.2.1] at g; cases g
  have hl : Le G w (G.addSl σ.next (some (β, r1))) w' := ⟨rfl, fun _ _ e => e, fun _ _ e => e, fun c γ e => (upd_ne G.sl _ (fun hh => by subst hh; rw [hf.2.2.1] at e; cases e)).trans e, fun _ _ e => e, fun _ _ e => .inl e, hl0.cell, hl0.below⟩
  refine ⟨hl, ?_⟩
  have hown : ∀ γ k, Owns (G.addSl σ.next (some (β, r1))) ((σ.dropSl b).addSl xs') γ k → (γ = β ∧ k = (2, σ.next)) ∨ (Owns G σ γ k ∧ γ ≠ β) := by
    intro γ k hk
    cases hk with
    | sl b' β' q cs2 h2 g2 =>
      by_cases e : b' = σ.next
      · subst e
        have := Option.some.inj ((upd_same G.sl σ.next _).symm.trans g2)
        simp only [Option.some.injEq, Prod.mk.injEq] at this
        exact .inl ⟨this.1.symm, rfl⟩
      · have h2' : upd σ.sl b none b' = some cs2 := (upd_ne _ _ e).symm.trans h2
        by_cases e2 : b' = b
        · subst e2; simp at h2'
        · have o2 : Owns G σ γ (2, b') := .sl _ _ q cs2 ((upd_ne _ _ e2).symm.trans h2') ((upd_ne _ _ e).symm.trans g2)
          refine .inr ⟨o2, fun e3 => ?_⟩
          subst e3
          have := (h.own _ _ ho).2.1 _ o2
          simp at this; exact e2 this
    | bx b' β' cs2 h2 g2 =>
      have o2 : Owns G σ γ (0, b') := .bx _ _ cs2 h2 g2
      refine .inr ⟨o2, fun e3 => ?_⟩
      subst e3
      have := (h.own _ _ ho).2.1 _ o2
      simp at this
    | mp b' β' cs2 h2 g2 =>
      have o2 : Owns G σ γ (1, b') := .mp _ _ cs2 h2 g2
      refine .inr ⟨o2, fun e3 => ?_⟩
      subst e3
      have := (h.own _ _ ho).2.1 _ o2
      simp at this
  refine ⟨h.base.go hl.below, fun b' cs2 e => (h.bx b' cs2 e).mono hl fun γ gg => ht.block γ fun hh => ?_, fun b' cs2 e => (h.mp b' cs2 e).mono hl fun γ gg => ht.block γ fun hh => ?_, fun b' cs2 e => ?_, ?_,
    fun γ o e => by rw [ht.size]; exact h.stIn γ o e, fun b' hb' => ?_⟩
  · subst hh
    have := (h.own _ _ ho).2.1 _ (.bx b' γ cs2 e gg)
    simp at this
  · subst hh
    have := (h.own _ _ ho).2.1 _ (.mp b' γ cs2 e gg)
    simp at this
  · by_cases eb : b' = σ.next
    · subst eb
      obtain rfl := Option.some.inj ((upd_same _ σ.next (some xs')).symm.trans e)
      exact hw hl
    · have e' : upd σ.sl b none b' = some cs2 := (upd_ne _ _ eb).symm.trans e
      by_cases e2 : b' = b
      · subst e2; simp at e'
      · have e3 : σ.sl b' = some cs2 := (upd_ne _ _ e2).symm.trans e'
        refine (h.sl b' cs2 e3).mono hl fun γ q gg => ht.block γ fun hh => ?_
        subst hh
        have := (h.own _ _ ho).2.1 _ (.sl b' γ q cs2 e3 gg)
        simp at this; exact e2 this
  · intro γ k hk
    rcases hown γ k hk with ⟨rfl, rfl⟩ | ⟨hk, hne⟩
    · refine ⟨(h.own _ _ ho).1, fun k' hk' => ?_, (h.own _ _ ho).2.2⟩
      rcases hown _ k' hk' with ⟨_, rfl⟩ | ⟨_, hne⟩
      · rfl
      · exact absurd rfl hne
    · refine ⟨(h.own γ k hk).1, fun k' hk' => ?_, (h.own γ k hk).2.2⟩
      rcases hown _ k' hk' with ⟨rfl, _⟩ | ⟨hk', _⟩
      · exact absurd rfl hne
      · exact (h.own γ k hk).2.1 k' hk'
  · have hb2 : σ.next + 1 ≤ b' := hb'
    obtain ⟨f1, f2, f3, f4, f5, f6⟩ := h.fresh b' (by omega)
    have n1 : b' ≠ σ.next := by omega
    refine ⟨f1, f2, (upd_ne _ _ n1).trans f3, f4, f5, (upd_ne _ _ n1).trans ?_⟩
    show upd σ.sl b none b' = none
    by_cases e2 : b' = b
    · subst e2; simp
    · exact (upd_ne _ _ e2).trans f6
/-- So many cells, from an address on, are these elements'. -/
def SegAs (G : Ghost) (w : World) (n : Nat) (ys : List AV) (a : Addr) (news : List Value) : Prop :=
  news.length = ys.length * n ∧ (∀ (k : Nat) u, news[k]? = some u → w.cell? (a.add k) = some u) ∧ ∀ (i j : Nat) c u, rowCell ys i j = some c → news[i * n + j]? = some u → Rep G w c u
theorem seg_of {G w n} {ys : List AV} {β o : Nat} (hn : ∀ (i : Nat) x, ys[i]? = some x → x.cells.length = n)
    (hc : ∀ (i j : Nat) c, rowCell ys i j = some c → ∃ v, w.cell? ⟨β, o + i * n + j, none⟩ = some v ∧ Rep G w c v) : ∃ news, SegAs G w n ys ⟨β, o, none⟩ news := by
  have row : ∀ k, k < ys.length * n → ∃ c, rowCell ys (k / n) (k % n) = some c := by
    intro k hk
    have hn0 : 0 < n := Nat.pos_of_ne_zero fun e => by subst e; simp at hk
    have hi : k / n < ys.length := Nat.div_lt_of_lt_mul (by rwa [Nat.mul_comm])
    have hj : k % n < n := Nat.mod_lt _ hn0
    have := hn _ _ (List.getElem?_eq_getElem hi)
    refine ⟨(ys[k / n].cells)[k % n]'(by omega), ?_⟩
    unfold rowCell
    rw [List.getElem?_eq_getElem hi]
    simp only [Option.bind_some]
    exact List.getElem?_eq_getElem (by omega)
  refine ⟨(List.range (ys.length * n)).map fun k => (w.cell? ⟨β, o + k, none⟩).getD undef, by simp, fun k u hu => ?_, fun i j c u hcc hu => ?_⟩
  · have hk : k < ys.length * n := by simpa using (List.getElem?_eq_some_iff.1 hu).1
    rw [List.getElem?_map, List.getElem?_range hk] at hu
    simp only [Option.map_some, Option.some.injEq] at hu
    obtain ⟨c, hcc⟩ := row k hk
    obtain ⟨v, h1, _⟩ := hc _ _ c hcc
    have e : o + k / n * n + k % n = o + k := by have := Nat.div_add_mod k n; rw [Nat.mul_comm] at this; omega
    rw [e] at h1
    rw [addr_add, h1]
    rw [h1] at hu
    simpa using hu
  · obtain ⟨v, h1, h2⟩ := hc i j c hcc
    obtain ⟨_, _, hlt⟩ := rowCell_lt hcc hn
    rw [List.getElem?_map, List.getElem?_range hlt] at hu
    simp only [Option.map_some, Option.some.injEq] at hu
    rw [← Nat.add_assoc, h1] at hu
    simp only [Option.getD_some] at hu
    subst hu
    exact h2
theorem seg_one {G w n ys a news} (h : SegAs G w n ys a news) (hn : ∀ (i : Nat) x, ys[i]? = some x → x.cells.length = n) (hok : ∀ y ∈ ys, AV.okv y = true) : ∀ u ∈ news, u.oneCell' = true := by
  intro u hu
  obtain ⟨k, hk, rfl⟩ := List.getElem_of_mem hu
  have hk' : k < ys.length * n := by rw [← h.1]; exact hk
  have hn0 : 0 < n := Nat.pos_of_ne_zero fun e => by subst e; simp at hk'
  have hi : k / n < ys.length := Nat.div_lt_of_lt_mul (by rwa [Nat.mul_comm])
  have hj : k % n < n := Nat.mod_lt _ hn0
  have hl := hn _ _ (List.getElem?_eq_getElem hi)
  have hj' : k % n < ys[k / n].cells.length := by omega
  have hr := h.2.2 (k / n) (k % n) ys[k / n].cells[k % n] news[k] (by unfold rowCell; rw [List.getElem?_eq_getElem hi]; exact List.getElem?_eq_getElem hj') (by
    have := Nat.div_add_mod k n; rw [Nat.mul_comm] at this; rw [this]; exact List.getElem?_eq_getElem hk)
  exact rep_one (okv_one (hok _ (List.getElem_mem hi)) _ (List.getElem_mem hj')) hr
theorem rowCell_append (es ys : List AV) (i j : Nat) : rowCell (es ++ ys) i j = if i < es.length then rowCell es i j else rowCell ys (i - es.length) j := by
  unfold rowCell
  split
  · rename_i h; rw [List.getElem?_append_left h]
  · rename_i h; rw [List.getElem?_append_right (by omega)]
/-- What is appended. -/
def asrc (σ : ASt) : AV → Option (List AV)
  | .vsl ys => some ys
  | .hsl b off n => (σ.sl b).bind fun xs => if off + n ≤ xs.length then some ((xs.drop off).take n) else none
  | _ => none
theorem rowCell_seg (xs : List AV) (off n i j : Nat) (c : AV) (hc : rowCell ((xs.drop off).take n) i j = some c) : rowCell xs (off + i) j = some c ∧ i < n := by
  unfold rowCell at *
  obtain ⟨x, hx, hj⟩ := Option.bind_eq_some_iff.1 hc
  rw [List.getElem?_take] at hx
  split at hx
  · rename_i hlt
    rw [List.getElem?_drop] at hx
    exact ⟨by rw [hx]; exact hj, hlt⟩
  · cases hx
theorem asrc_spec {x : AV} {ys : List AV} (h : asrc σ x = some ys) (hne : ys ≠ []) {n : Nat} (hn : ∀ y ∈ ys, y.cells.length = n) {G w v} (hw : SimW G σ w) (hx : Rep G w x v) :
    ∃ a c news, v = .slice (some a) ys.length c ∧ SegAs G w n ys a news := by
  have hn' : ∀ (i : Nat) x, ys[i]? = some x → x.cells.length = n := fun i x hx => hn x (List.mem_of_getElem? hx)
  cases hx with
  | vnil => obtain rfl := Option.some.inj h; exact absurd rfl hne
  | vsl _ β o s cap val hcap hs hc hrr =>
    obtain rfl := Option.some.inj h
    rename_i xs
    obtain ⟨y, hy⟩ := List.exists_mem_of_ne_nil _ hne
    obtain ⟨i, hi, hyi⟩ := List.getElem_of_mem hy
    have hs' : s = n := (hs i _ (List.getElem?_eq_getElem hi)).symm.trans (hn _ (List.getElem_mem hi))
    subst hs'
    obtain ⟨news, hseg⟩ := seg_of (G := G) (w := w) (β := β) (o := o) hn' (fun i j c hcc => ⟨val i j, (hc i j c hcc).2, hrr i j c hcc⟩)
    exact ⟨_, cap, news, rfl, hseg⟩
  | hsl b off m β o s cap gb hle =>
    obtain ⟨xs, hxs, h⟩ := Option.bind_eq_some_iff.1 h
    obtain ⟨hin, h⟩ := ite_some' h
    obtain rfl := Option.some.inj h
    have hlen : ((xs.drop off).take m).length = m := by simp; omega
    have hm : 0 < m := by rw [← hlen]; exact List.length_pos_iff.2 hne
    rcases hw.sl b xs hxs with ⟨g1, _⟩ | ⟨β', o', s', cap', arr, el, g1, g2, g3, g4, g5, g6⟩
    · rw [gb] at g1; cases g1
    · obtain ⟨rfl, rfl, rfl, rfl⟩ : β = β' ∧ o = o' ∧ s = s' ∧ cap = cap' := by rw [gb] at g1; simpa using g1
      have h0 : off < xs.length := by omega
      have hs' : s = n := (g5 off _ (List.getElem?_eq_getElem h0)).symm.trans (hn _ (by
        refine List.mem_of_getElem? (i := 0) ?_
        rw [List.getElem?_take, if_pos hm, List.getElem?_drop, Nat.add_zero]
        exact List.getElem?_eq_getElem h0))
      subst hs'
      obtain ⟨news, hseg⟩ := seg_of (G := G) (w := w) (n := s) (ys := (xs.drop off).take m) (β := β) (o := o + off * s) hn' (fun i j c hcc => by
        obtain ⟨hc2, hi⟩ := rowCell_seg _ _ _ _ _ _ hcc
        obtain ⟨h1, h2, h3⟩ := rowCell_lt hc2 g5
        have hlt : o + (off + i) * s + j < arr.size := by
          have : xs.length * s ≤ cap * s := Nat.mul_le_mul_right _ g3.2
          omega
        refine ⟨arr[o + (off + i) * s + j], ?_, g6 _ j c _ hc2 (Array.getElem?_eq_getElem hlt)⟩
        have e : o + off * s + i * s + j = o + (off + i) * s + j := by rw [Nat.add_mul]; omega
        rw [cell_of_heap g2, e]
        exact Array.getElem?_eq_getElem hlt)
      exact ⟨_, cap - off, news, by rw [hlen], hseg⟩
  | hend => 
    obtain ⟨xs, hxs, h⟩ := Option.bind_eq_some_iff.1 h
    obtain ⟨hin, h⟩ := ite_some' h
    obtain rfl := Option.some.inj h
    simp at hne
  | hnil =>
    obtain ⟨xs, hxs, h⟩ := Option.bind_eq_some_iff.1 h
    obtain ⟨hin, h⟩ := ite_some' h
    obtain rfl := Option.some.inj h
    simp at hne
  | _ => cases h
theorem execOp_append (e : Operand → Value) {s x : Operand} {t : TypeId} (ho : o.op = .call { callee := .builtin .append, args := #[s, x], argTypes := #[t, t] }) :
    execOp e o = (do pure (.value (← Builtin.append_ #[t, t] o.type #[e s, e x]))) := by
  rw [execOp_builtin e ho]; simp [builtin]
/-- What grows gets a new place. -/
theorem append_grow {t el : TypeId} {n : Nat} {i : TypeInfo} {z : Value} (ht : P.underlying t = some (.slice el)) (hi : P.info? el = some i) (hz : i.zero = some z) (hin : i.size = n) (hzn : z.cells.size = n)
    {G w} (hw : SimW G σ w) {es ys : List AV} {b : Addr} {sCap : Nat} {olds news : List Value} {a : Addr} {c : Nat} (ho : SegAs G w n es b olds) (hs : SegAs G w n ys a news) (hne : ys ≠ [])
    (hes : ∀ (i : Nat) x, es[i]? = some x → x.cells.length = n) (hys : ∀ (i : Nat) x, ys[i]? = some x → x.cells.length = n) (hg : sCap < es.length + ys.length) (hb : (es.length + ys.length) * i.bytes ≤ 140737488355328) (hsm : es.length + ys.length ≤ 9223372036854775807) (ty : TypeId) :
    ∃ v w', (Builtin.append_ #[t, t] ty #[.slice (some b) es.length sCap, .slice (some a) ys.length c]).run P w = .ok v w' ∧ ∃ G', Le G w G' w' ∧ SimW G' (σ.addSl (es ++ ys)) w' ∧ Rep G' w' (.hsl σ.next 0 (es ++ ys).length) v := by
  subst hin
  have hrun := run_append_grow (P := P) w t ty el i z ht hi hz b es.length sCap olds ho.1 ho.2.1 a ys.length c news hs.1 hs.2.1 hg (by omega) (growslice_fits hg hb)
  have hcap := grownCap_ge w (es.length + ys.length) sCap el
  refine ⟨_, _, hrun, ?_⟩
  rw [← List.length_append]
  have hbel : Below w.heap.size w w.drew := (Below.refl _ _).drew
  refine new_hsl (n := i.size) hw (fun k x hx => ?_) (fun k j cc v hc hv => ?_) (by simp; have := List.length_pos_iff.2 hne; omega) (by simpa using hcap) ?_ el w.drew hbel
  · rw [List.getElem?_append] at hx
    split at hx
    · exact hes _ _ hx
    · exact hys _ _ hx
  · rw [rowCell_append] at hc
    have hv' : (olds ++ news ++ (Builtin.zeroCells z.cells (grownCap w (es.length + ys.length) sCap el - (es.length + ys.length))).toList)[k * i.size + j]? = some v := by
      rw [← Array.getElem?_toList] at hv; simpa using hv
    split at hc
    · rename_i hk
      obtain ⟨_, _, hlt⟩ := rowCell_lt hc hes
      rw [List.append_assoc, List.getElem?_append_left (by rw [ho.1]; exact hlt)] at hv'
      exact ho.2.2 k j cc v hc hv'
    · rename_i hk
      obtain ⟨_, _, hlt⟩ := rowCell_lt hc hys
      have e : k * i.size = es.length * i.size + (k - es.length) * i.size := by rw [← Nat.add_mul]; congr 1; omega
      rw [List.append_assoc, List.getElem?_append_right (by rw [ho.1]; omega), List.getElem?_append_left (by rw [ho.1, hs.1]; omega)] at hv'
      rw [ho.1, show k * i.size + j - es.length * i.size = (k - es.length) * i.size + j by omega] at hv'
      exact hs.2.2 _ j cc v hc hv'
  · simp only [Array.size_append, List.size_toArray, size_zeroCells, hzn, ho.1, hs.1, ← Nat.add_mul, List.length_append]
    exact Nat.mul_le_mul_right _ (by omega)
/-- append onto a slice of the function's own. -/
theorem opq_append {s x : Operand} {t el : TypeId} (ho : o.op = .call { callee := .builtin .append, args := #[s, x], argTypes := #[t, t] }) {b off k : Nat} {xs ys : List AV} {n by_ : Nat} {g : Bool} {z : AV}
    (hs : ρ s = .hsl b off k) (hb : σ.sl b = some xs) (hk : off + k ≤ xs.length) (hx : asrc σ (ρ x) = some ys) (hne : ys ≠ []) (ht : telem P t = some (n, g, by_)) (hel : telemT P t = some el) (hz : tzero P el = some z) (hzn : z.cells.length = n)
    (hxs : ∀ y ∈ xs, y.cells.length = n) (hys : ∀ y ∈ ys, y.cells.length = n ∧ y.okv = true) (hB : (k + ys.length) * by_ ≤ 140737488355328) (hS : k + ys.length ≤ 9223372036854775807)
    (hr : R (.hsl σ.next 0 (k + ys.length)) ((σ.dropSl b).addSl ((xs.drop off).take k ++ ys))) : OpQ P o ρ σ R := by
  intro G e w he hw
  have hrs := he s
  rw [hs] at hrs
  obtain ⟨e', i', t1, t2, t3, rfl⟩ := telem_spec ht
  have hee : e' = el := by simpa [telemT, t1] using hel
  subst hee
  obtain ⟨it, zv, hi, hzv, rfl⟩ := tzero_spec hz
  obtain rfl := Option.some.inj (t2.symm.trans hi)
  obtain ⟨i2, d2, q1, q2, q3, _⟩ := tsize_spec t3
  obtain rfl := Option.some.inj (t2.symm.trans q1)
  rw [ofV_cells] at hzn
  obtain ⟨a, c, news, hv, hseg⟩ := asrc_spec hx hne (fun y hy => (hys y hy).1) hw (he x)
  have hys' : ∀ (i : Nat) x, ys[i]? = some x → x.cells.length = n := fun i x hx => (hys x (List.mem_of_getElem? hx)).1
  have hlen : ((xs.drop off).take k).length = k := by simp; omega
  have hes' : ∀ (i : Nat) x, ((xs.drop off).take k)[i]? = some x → x.cells.length = n := fun i x hx => by
    have := List.mem_of_getElem? hx
    exact hxs x (List.mem_of_mem_drop (List.mem_of_mem_take this))
  have hpos := List.length_pos_iff.2 hne
  rw [execOp_append e ho]
  have finish : ∀ v w', (Builtin.append_ #[t, t] o.type #[e s, e x]).run P w = .ok v w' → (∃ G', Le G w G' w' ∧ SimW G' ((σ.dropSl b).addSl ((xs.drop off).take k ++ ys)) w' ∧ Rep G' w' (.hsl σ.next 0 (k + ys.length)) v) →
      OutcN P G w R ((do pure (Next.value (← Builtin.append_ #[t, t] o.type #[e s, e x])) : Sem Next).run P w) := by
    rintro v w' h1 ⟨G', h2, h3, h4⟩
    simp only [Sem.run_bind, h1, Result.andThen_ok, Sem.run_pure]
    exact ⟨_, G', _, h2, h3, h4, hr⟩
  have hwd := hw.less (dropSl_le σ b)
  suffices hm : ∃ v w', (Builtin.append_ #[t, t] o.type #[e s, e x]).run P w = .ok v w' ∧ ∃ G', Le G w G' w' ∧ SimW G' ((σ.dropSl b).addSl ((xs.drop off).take k ++ ys)) w' ∧ Rep G' w' (.hsl σ.next 0 (k + ys.length)) v by
    obtain ⟨v, w', h1, h2⟩ := hm
    exact finish v w' h1 h2
  clear finish
  generalize e s = vs at hrs ⊢
  have grow0 : ∀ (a0 : Option Addr), vs = .slice a0 0 0 → k = 0 → ∃ v w', (Builtin.append_ #[t, t] o.type #[vs, e x]).run P w = .ok v w' ∧ ∃ G', Le G w G' w' ∧ SimW G' ((σ.dropSl b).addSl ((xs.drop off).take k ++ ys)) w' ∧ Rep G' w' (.hsl σ.next 0 (k + ys.length)) v := by
    intro a0 hv0 hk0
    subst hk0
    rw [hv0, hv]
    have hB0 : ys.length * i'.bytes ≤ 140737488355328 := by simpa using hB
    have hseg0 : SegAs G w n [] ⟨0, 0, none⟩ [] := ⟨by simp, fun k u hu => by simp at hu, fun i j c u hc => by simp [rowCell] at hc⟩
    cases a0 with
    | some a0 =>
      have hseg0 : SegAs G w n [] a0 [] := ⟨by simp, fun k u hu => by simp at hu, fun i j c u hc => by simp [rowCell] at hc⟩
      have := append_grow (σ := σ.dropSl b) t1 t2 hzv q3 hzn hwd (es := []) (sCap := 0) hseg0 hseg hne (fun i x hx => by simp at hx) hys' (by simpa using hpos) (by simpa using hB) (by simpa using hS) o.type (c := c)
      simpa using this
    | none =>
      have hrun := run_append_nil (P := P) w t o.type e' i' zv t1 t2 hzv a ys.length c news (by rw [q3]; exact hseg.1) hseg.2.1 hpos (by omega) (by omega)
      have hcap := grownCap_ge w ys.length 0 e'
      refine ⟨_, _, hrun, ?_⟩
      have hbel : Below w.heap.size w w.drew := (Below.refl _ _).drew
      have := new_hsl (σ := σ.dropSl b) (n := n) (es := ys) hwd (arr := news.toArray ++ Builtin.zeroCells zv.cells (grownCap w ys.length 0 e' - ys.length)) hys' (fun i j cc v hc hvv => by
        obtain ⟨_, _, hlt⟩ := rowCell_lt hc hys'
        rw [Array.getElem?_append_left (by rw [List.size_toArray, hseg.1]; exact hlt)] at hvv
        exact hseg.2.2 i j cc v hc (by simpa using hvv)) hpos hcap (by
          simp only [Array.size_append, List.size_toArray, size_zeroCells, hzn, hseg.1, ← Nat.add_mul]
          exact Nat.mul_le_mul_right _ (by omega)) e' w.drew hbel
      simpa using this
  cases hrs with
  | hsl _ _ _ β o' s' cap gb hle =>
    rcases hw.sl b xs hb with ⟨g1, _⟩ | ⟨β', o'', s'', cap', arr, elt, g1, g2, g3, g4, g5, g6⟩
    · rw [gb] at g1; cases g1
    · obtain ⟨rfl, rfl, rfl, rfl⟩ : β = β' ∧ o' = o'' ∧ s' = s'' ∧ cap = cap' := by rw [gb] at g1; simpa using g1
      have hs' : s' = n := (g5 0 _ (List.getElem?_eq_getElem g3.1)).symm.trans (hxs _ (List.getElem_mem g3.1))
      subst hs'
      by_cases hroom : k + ys.length ≤ cap - off
      · -- in place
        have hfit : o' + off * s' + k * s' + ys.length * s' ≤ arr.size := by
          have : (off + k + ys.length) * s' ≤ cap * s' := Nat.mul_le_mul_right _ (by omega)
          rw [Nat.add_mul, Nat.add_mul] at this; omega
        have hf := run_firstCells_some (P := P) w s' ys.length a ys.length c news hseg.1 hseg.2.1
        have hst := run_storeCells_at (P := P) β (o' + off * s' + k * s') elt news 0 arr w g2 (by rw [hseg.1]; omega) (seg_one hseg hys' fun y hy => (hys y hy).2)
        simp only [Nat.add_zero] at hst
        refine ⟨(.slice (some ⟨β, o' + off * s', none⟩) (k + ys.length) (cap - off)), (w.setRow β (arr.toList.take (o' + off * s' + k * s') ++ news ++ arr.toList.drop (o' + off * s' + k * s' + news.length)).toArray), ?_, ?_⟩
        · rw [hv]
          simp [Builtin.append_, run_underlying' t1, sizeOf, run_typeInfo' t2, Builtin.lenOf, hroom, q3, hf, addr_add, hst]
        · have ht := touch_setRow w β (arr.toList.take (o' + off * s' + k * s') ++ news ++ arr.toList.drop (o' + off * s' + k * s' + news.length)).toArray
          have hsl : Le G w (G.addSl σ.next (some (β, (o' + off * s', s', cap - off)))) (w.setRow β (arr.toList.take (o' + off * s' + k * s') ++ news ++ arr.toList.drop (o' + off * s' + k * s' + news.length)).toArray) →
              SlOK (G.addSl σ.next (some (β, (o' + off * s', s', cap - off)))) (w.setRow β (arr.toList.take (o' + off * s' + k * s') ++ news ++ arr.toList.drop (o' + off * s' + k * s' + news.length)).toArray) σ.next ((xs.drop off).take k ++ ys) := by
            intro hl
            refine .inr ⟨β, o' + off * s', s', cap - off, _, elt, upd_same _ _ _, setRow_new g2 _, ⟨by simp; omega, by simp; omega⟩, ?_, ?_, ?_⟩
            · have hcs : off * s' + (cap - off) * s' = cap * s' := by rw [← Nat.add_mul]; congr 1; omega
              simp [hseg.1]; omega
            · intro i y hy
              rw [List.getElem?_append] at hy
              split at hy
              · exact hes' _ _ hy
              · exact hys' _ _ hy
            · intro i j cc u hc hu
              have hu' : (arr.toList.take (o' + off * s' + k * s') ++ news ++ arr.toList.drop (o' + off * s' + k * s' + ys.length * s'))[o' + off * s' + i * s' + j]? = some u := by rw [← hseg.1]; simpa using hu
              rw [splice_get _ _ _ _ hseg.1 (by simp; omega)] at hu'
              rw [rowCell_append, hlen] at hc
              split at hc
              · rename_i hik
                obtain ⟨hc2, hi⟩ := rowCell_seg _ _ _ _ _ _ hc
                obtain ⟨p1, p2, p3⟩ := rowCell_lt hc2 g5
                have : (i + 1) * s' ≤ k * s' := Nat.mul_le_mul_right _ hi
                rw [Nat.add_mul] at this
                rw [if_neg (by omega), show o' + off * s' + i * s' + j = o' + (off + i) * s' + j by rw [Nat.add_mul]; omega] at hu'
                exact (g6 _ j cc u hc2 (by simpa using hu')).mono hl
              · rename_i hik
                obtain ⟨p1, p2, p3⟩ := rowCell_lt hc hys'
                have e1 : i * s' = k * s' + (i - k) * s' := by rw [← Nat.add_mul]; congr 1; omega
                rw [if_pos (by omega), show o' + off * s' + i * s' + j - (o' + off * s' + k * s') = (i - k) * s' + j by omega] at hu'
                exact (hseg.2.2 _ j cc u hc hu').mono hl
          obtain ⟨h1, h2⟩ := hw.rewriteSl hb gb ht hsl
          refine ⟨_, h1, h2, ?_⟩
          have := Rep.hsl (G := G.addSl σ.next (some (β, o' + off * s', s', cap - off))) (w := w.setRow β (arr.toList.take (o' + off * s' + k * s') ++ news ++ arr.toList.drop (o' + off * s' + k * s' + news.length)).toArray) σ.next 0 (k + ys.length) β (o' + off * s') s' (cap - off) (upd_same _ _ _) (by omega)
          simpa using this
      · -- elsewhere
        obtain ⟨olds, hold⟩ := seg_of (G := G) (w := w) (n := s') (ys := (xs.drop off).take k) (β := β) (o := o' + off * s') hes' (fun i j cc hcc => by
          obtain ⟨hc2, hi⟩ := rowCell_seg _ _ _ _ _ _ hcc
          obtain ⟨h1, h2, h3⟩ := rowCell_lt hc2 g5
          have hlt : o' + (off + i) * s' + j < arr.size := by
            have : xs.length * s' ≤ cap * s' := Nat.mul_le_mul_right _ g3.2
            omega
          refine ⟨arr[o' + (off + i) * s' + j], ?_, g6 _ j cc _ hc2 (Array.getElem?_eq_getElem hlt)⟩
          have e1 : o' + off * s' + i * s' + j = o' + (off + i) * s' + j := by rw [Nat.add_mul]; omega
          rw [cell_of_heap g2, e1]
          exact Array.getElem?_eq_getElem hlt)
        obtain ⟨v, w', h1, h2⟩ := append_grow (σ := σ.dropSl b) t1 t2 hzv q3 hzn hwd hold hseg hne hes' hys' (sCap := cap - off) (by rw [hlen]; omega) (by rw [hlen]; exact hB) (by rw [hlen]; exact hS) o.type (c := c)
        rw [hlen] at h1
        rw [List.length_append, hlen] at h2
        exact ⟨v, w', by rw [hv]; exact h1, h2⟩
  | hend _ _ a0 β o' s' cap gb hle =>
    exact grow0 a0 rfl rfl
  | hnil _ a0 gb =>
    exact grow0 a0 rfl rfl
end Go.AL
/-! What is closed; freezing; pure functions; calls; results. -/
namespace Go.AL
open Go.RowKit (Below)
set_option linter.unusedVariables false
set_option linter.unusedSimpArgs false
variable {P : Program} {o : Oper} {ρ : Operand → AV} {σ : ASt} {R : AV → ASt → Prop} {D : List Deferred} {Q : Exit → List AV → ASt → Prop} {fr : List AV}
/-! ### closed values -/
inductive Cl : AV → Prop where
  | p (x : Value) : Cl (.p x)
  | agg (cs : List AV) (h : ∀ c ∈ cs, Cl c) : Cl (.agg cs)
  | tup (cs : List AV) (h : ∀ c ∈ cs, Cl c) : Cl (.tup cs)
  | vsl (xs : List AV) (h : ∀ c ∈ xs, Cl c) : Cl (.vsl xs)
  | vel (xs : List AV) (i off : Nat) (h : ∀ c ∈ xs, Cl c) : Cl (.vel xs i off)
  | fn (f : Fn) (aa bs : List AV) (h1 : ∀ c ∈ aa, Cl c) (h2 : ∀ c ∈ bs, Cl c) : Cl (.fn f aa bs)
  | ifc (t : TypeId) (v : AV) (h : Cl v) : Cl (.ifc t v)
  | opt (b : Bool) (v : AV) (h : Cl v) : Cl (.opt b v)
  | any : Cl .any
  | ob (o : Obj) : Cl (.ob o)
  | vmp (ks vs : List AV) (h1 : ∀ c ∈ ks, Cl c) (h2 : ∀ c ∈ vs, Cl c) : Cl (.vmp ks vs)
theorem Cl.cells {x : AV} (h : Cl x) : ∀ c ∈ x.cells, Cl c := by
  cases h with
  | agg cs h => exact h
  | _ => intro c hc; simp only [AV.cells, List.mem_singleton] at hc; subst hc; first | exact .p _ | exact .ob _ | (apply Cl.vmp <;> assumption) | (apply Cl.tup; assumption) | (apply Cl.vsl; assumption) | (apply Cl.vel; assumption) | (apply Cl.fn <;> assumption) | (apply Cl.ifc; assumption) | (apply Cl.opt; assumption) | exact .any
theorem Cl.rowCell {xs : List AV} (h : ∀ c ∈ xs, Cl c) {i j : Nat} {c : AV} (hc : rowCell xs i j = some c) : Cl c := by
  unfold AL.rowCell at hc
  obtain ⟨x, hx, hj⟩ := Option.bind_eq_some_iff.1 hc
  exact (h x (List.mem_of_getElem? hx)).cells c (List.mem_of_getElem? hj)
/-- What is closed hangs on the cells that stay alone. -/
theorem Rep.closed {G G' w c v} (hst : ∀ β o, G.st β o → G'.st β o) (h : Rep G w c v) : Cl c → Rep G' w c v := by
  induction h with
  | p x => exact fun _ => .p x
  | agg cs vs hs _ ih => exact fun hc => by cases hc with | agg _ hc => exact .agg cs vs hs fun i c v a b => ih i c v a b (hc c (List.mem_of_getElem? a))
  | tup cs vs hs _ ih => exact fun hc => by cases hc with | tup _ hc => exact .tup cs vs hs fun i c v a b => ih i c v a b (hc c (List.mem_of_getElem? a))
  | vnil a cap => exact fun _ => .vnil a cap
  | vsl xs β o s cap val hcap hs h _ ih => exact fun hc => by cases hc with | vsl _ hc => exact .vsl xs β o s cap val hcap hs (fun i j c e => ⟨hst _ _ (h i j c e).1, (h i j c e).2⟩) fun i j c e => ih i j c e (Cl.rowCell hc e)
  | vel xs i off β o s val hs h _ ih => exact fun hc => by cases hc with | vel _ _ _ hc => exact .vel xs i off β o s val hs (fun i j c e => ⟨hst _ _ (h i j c e).1, (h i j c e).2⟩) fun i j c e => ih i j c e (Cl.rowCell hc e)
  | fn f aa bs us vs h1 h2 _ _ ih3 ih4 => exact fun hc => by cases hc with | fn _ _ _ c1 c2 => exact .fn f aa bs us vs h1 h2 (fun i c v a b => ih3 i c v a b (c1 c (List.mem_of_getElem? a))) (fun i c v a b => ih4 i c v a b (c2 c (List.mem_of_getElem? a)))
  | ifc t c v _ ih => exact fun hc => by cases hc with | ifc _ _ hc => exact .ifc t c v (ih hc)
  | opt b c v _ h0 ih => exact fun hc => by cases hc with | opt _ _ hc => exact .opt b c v (fun e => ih e hc) h0
  | any v => exact fun _ => .any v
  | vmp ks vs μ clock ents h1 h2 h3 h4 _ _ ih5 ih6 => exact fun hc => by cases hc with | vmp _ _ c1 c2 => exact .vmp ks vs μ clock ents (hst _ _ h1) h2 h3 h4 (fun i c e a b => ih5 i c e a b (c1 c (List.mem_of_getElem? a))) (fun i c e a b => ih6 i c e a b (c2 c (List.mem_of_getElem? a)))
  | _ => exact fun hc => by cases hc
/-! ### pure functions -/
/-- Nothing is known. -/
def σ0 : ASt := ⟨fun _ => none, fun _ => none, fun _ => none, 0⟩
structure APure (P : Program) (f : FuncId) (args : List AV) (r : AV) : Prop where
  out : ACall P f args σ0 fun r' _ => r' = r
theorem simW_σ0 {G σ w} (h : SimW G σ w) : SimW { base := w.heap.size, st := G.st, bx := fun _ => none, mp := fun _ => none, sl := fun _ => none } σ0 w where
  base := ⟨Nat.le_refl _, let ⟨w0, h1, h2, h3⟩ := h.base.ini; ⟨w0, h1, Nat.le_trans h2 h.base.le, h3⟩⟩
  bx := fun _ _ e => by cases e
  mp := fun _ _ e => by cases e
  sl := fun _ _ e => by cases e
  own := fun β k ho => by cases ho <;> rename_i e _ <;> cases e
  stIn := h.stIn
  fresh := fun _ _ => ⟨rfl, rfl, rfl, rfl, rfl, rfl⟩
theorem APure.call {f : FuncId} {args : List AV} {r : AV} (h : APure P f args r) (ha : ∀ a ∈ args, Cl a) (hr : Cl r) (σ : ASt) : ACall P f args σ fun r' σ' => r' = r ∧ σ' = σ := by
  intro G w vs hv hw
  have hs := simW_σ0 hw
  have h1 := h.out { base := w.heap.size, st := G.st, bx := fun _ => none, mp := fun _ => none, sl := fun _ => none } w vs ⟨hv.1, fun i c v a b => Rep.closed (G := G) (fun _ _ e => e) (hv.2 i c v a b) (ha c (List.mem_of_getElem? a))⟩ hs
  refine Calls.mono h1 fun e w' he => retOf_mono (fun v w1 ho => ?_) he
  obtain ⟨r', G1, σ1, hl, hw1, hr1, rfl⟩ := ho
  have hb : Below w.heap.size w w1 := hl.below
  have hst : ∀ β o, G.st β o → G1.st β o := hl.st
  have hl2 : Le G w { G with st := G1.st } w1 := ⟨rfl, fun _ _ e => e, fun _ _ e => e, fun _ _ e => e, hst, fun β o e => (hl.st2 β o e).imp id fun e => ⟨Nat.le_trans hw.base.le e.1, e.2⟩, hl.cell, hb.mono hw.base.le⟩
  refine ⟨r', { G with st := G1.st }, σ, hl2, ?_, Rep.closed (G := G1) (fun _ _ e => e) hr1 hr, rfl, rfl⟩
  refine ⟨hw.base.go hl2.below, fun b cs e => (hw.bx b cs e).mono hl2 fun β g => hb.block β ((hw.bx b cs e).lt g), fun b cs e => (hw.mp b cs e).mono hl2 fun β g => hb.block β ((hw.mp b cs e).lt g),
    fun b cs e => (hw.sl b cs e).mono hl2 fun β r g => hb.block β ((hw.sl b cs e).lt g), fun β k ho => ?_, hw1.stIn, hw.fresh⟩
  have own : ∀ β k, Owns { G with st := G1.st } σ β k → Owns G σ β k := by
    intro β k ho
    cases ho with
    | bx b β cs h g => exact .bx b β cs h g
    | mp b β cs h g => exact .mp b β cs h g
    | sl b β r cs h g => exact .sl b β r cs h g
  have ho' := own β k ho
  refine ⟨(hw.own β k ho').1, fun k' hk' => (hw.own β k ho').2.1 k' (own _ _ hk'), fun o e => ?_⟩
  rcases hl.st2 β o e with e | e
  · exact (hw.own β k ho').2.2 o e
  · have h2 : w.heap.size ≤ β := e.1
    have h3 := hw.own_lt ho'
    omega
end Go.AL
/-! Freezing; results; calls; the run of what is plain. -/
namespace Go.AL
open Go.RowKit (Below)
set_option linter.unusedVariables false
set_option linter.unusedSimpArgs false
variable {P : Program} {o : Oper} {ρ : Operand → AV} {σ : ASt} {R : AV → ASt → Prop} {D : List Deferred} {Q : Exit → List AV → ASt → Prop} {fr : List AV}
/-! ### a slice of one's own stays as it is from now on -/
def frz0 (b : Nat) (xs : List AV) : AV → AV
  | .hsl b' off n => if b' = b then (if off + n ≤ xs.length then .vsl ((xs.drop off).take n) else .any) else .hsl b' off n
  | v => v
def frz1 (b : Nat) (xs : List AV) : AV → AV
  | .agg cs => .agg (cs.map (frz0 b xs))
  | v => frz0 b xs v
def frz (b : Nat) (xs : List AV) : AV → AV
  | .tup cs => .tup (cs.map (frz1 b xs))
  | v => frz1 b xs v
theorem frz_rep {G G' w b xs} (hl : Le G w G' w) (h0 : ∀ off n u, Rep G w (.hsl b off n) u → Rep G' w (if off + n ≤ xs.length then .vsl ((xs.drop off).take n) else .any) u) : ∀ v u, Rep G w v u → Rep G' w (frz b xs v) u := by
  have f0 : ∀ v u, Rep G w v u → Rep G' w (frz0 b xs v) u := by
    intro v u hr
    have hr' := hr.mono hl
    by_cases hv : ∃ off n, v = .hsl b off n
    · obtain ⟨off, n, rfl⟩ := hv
      simp only [frz0, if_true]
      exact h0 off n u hr
    · have : frz0 b xs v = v := by
        cases v <;> first | rfl | skip
        rename_i b' off n
        simp only [frz0]
        rw [if_neg (fun e => hv ⟨off, n, by rw [e]⟩)]
      rw [this]; exact hr'
  have f1 : ∀ v u, Rep G w v u → Rep G' w (frz1 b xs v) u := by
    intro v u hr
    by_cases hv : ∃ cs, v = .agg cs
    · obtain ⟨cs, rfl⟩ := hv
      cases hr with
      | agg _ vs hs h =>
        refine .agg _ vs (by simpa using hs) fun i c v hc hv => ?_
        rw [List.getElem?_map] at hc
        obtain ⟨c', hc', rfl⟩ := Option.map_eq_some_iff.1 hc
        exact f0 _ _ (h i c' v hc' hv)
    · have : frz1 b xs v = frz0 b xs v := by cases v <;> first | rfl | exact absurd ⟨_, rfl⟩ hv
      rw [this]; exact f0 v u hr
  intro v u hr
  by_cases hv : ∃ cs, v = .tup cs
  · obtain ⟨cs, rfl⟩ := hv
    cases hr with
    | tup _ vs hs h =>
      refine .tup _ vs (by simpa using hs) fun i c v hc hv => ?_
      rw [List.getElem?_map] at hc
      obtain ⟨c', hc', rfl⟩ := Option.map_eq_some_iff.1 hc
      exact f1 _ _ (h i c' v hc' hv)
  · have : frz b xs v = frz1 b xs v := by cases v <;> first | rfl | exact absurd ⟨_, rfl⟩ hv
    rw [this]; exact f1 v u hr
theorem SimW.freeze {G σ w b xs} (h : SimW G σ w) (hb : σ.sl b = some xs) : ∃ G', Le G w G' w ∧ SimW G' (σ.dropSl b) w ∧ ∀ v u, Rep G w v u → Rep G' w (frz b xs v) u := by
  rcases h.sl b xs hb with ⟨g1, rfl⟩ | ⟨β, o, s, cap, arr, el, g1, g2, g3, g4, g5, g6⟩
  · refine ⟨G, Le.refl _ _, h.less (dropSl_le σ b), frz_rep (Le.refl _ _) fun off n u hr => ?_⟩
    cases hr with
    | hsl _ _ _ β o s cap g hle => rw [g1] at g; cases g
    | hend _ _ a β o s cap g hle => rw [g1] at g; cases g
    | hnil _ a g => simp only [List.length_nil, Nat.add_zero, Nat.le_refl, if_true, List.drop_nil, List.take_nil]; exact .vnil _ _
  · have ho : Owns G σ β (2, b) := .sl b β _ xs hb g1
    have hbase := (h.own _ _ ho).1
    have hl : Le G w (G.addSt fun γ _ => γ = β) w := ⟨rfl, fun _ _ e => e, fun _ _ e => e, fun _ _ e => e, fun _ _ e => .inl e, fun γ _ e => e.imp id fun (e : γ = β) => e ▸ ⟨hbase, (h.own _ _ ho).2.2⟩, fun _ _ _ => rfl, Below.refl _ _⟩
    refine ⟨_, hl, ?_, frz_rep hl fun off n u hr => ?_⟩
    · have hw := h.less (dropSl_le σ b)
      have hown : ∀ γ k, Owns (G.addSt fun γ _ => γ = β) (σ.dropSl b) γ k → Owns G (σ.dropSl b) γ k := by
        intro γ k hk
        cases hk with
        | bx b' β' cs2 h2 g2 => exact .bx _ _ cs2 h2 g2
        | mp b' β' cs2 h2 g2 => exact .mp _ _ cs2 h2 g2
        | sl b' β' r cs2 h2 g2 => exact .sl _ _ r cs2 h2 g2
      have hup : ∀ γ k, Owns G (σ.dropSl b) γ k → Owns G σ γ k := by
        intro γ k hk
        cases hk with
        | bx b' β' cs2 h2 g2 => exact .bx _ _ cs2 ((dropSl_le σ b).bx _ _ h2) g2
        | mp b' β' cs2 h2 g2 => exact .mp _ _ cs2 ((dropSl_le σ b).mp _ _ h2) g2
        | sl b' β' r cs2 h2 g2 => exact .sl _ _ r cs2 ((dropSl_le σ b).sl _ _ h2) g2
      refine ⟨hw.base, fun b' cs e => (hw.bx b' cs e).mono hl fun _ _ => rfl, fun b' cs e => (hw.mp b' cs e).mono hl fun _ _ => rfl, fun b' cs e => (hw.sl b' cs e).mono hl fun _ _ _ => rfl, fun γ k hk => ?_, fun γ o e => ?_, hw.fresh⟩
      · have hk1 := hown γ k hk
        refine ⟨(hw.own γ k hk1).1, fun k' hk' => (hw.own γ k hk1).2.1 k' (hown _ _ hk'), fun o e => ?_⟩
        rcases e with e | e
        · exact (hw.own γ k hk1).2.2 o e
        · subst e
          have hk2 := (h.own γ _ ho).2.1 _ (hup _ _ hk1)
          subst hk2
          cases hk1 with
          | sl b' β' r cs2 h2 g2 => simp [ASt.dropSl] at h2
      · rcases e with e | e
        · exact h.stIn _ _ e
        · subst e; exact h.own_lt ho
    · split
      · rename_i hin
        cases hr with
        | hsl _ _ _ β' o' s' cap' g hle =>
          obtain ⟨rfl, rfl, rfl, rfl⟩ : β = β' ∧ o = o' ∧ s = s' ∧ cap = cap' := by rw [g] at g1; simpa using g1.symm
          have hlen : ((xs.drop off).take n).length = n := by simp; omega
          have hc0 : n ≤ cap - off := by omega
          have hc1 : ((xs.drop off).take n).length ≤ cap - off := by rw [hlen]; exact hc0
          have hin2 : ∀ i j c, rowCell ((xs.drop off).take n) i j = some c → rowCell xs (off + i) j = some c ∧ o + (off + i) * s + j < arr.size := by
            intro i j c hc
            obtain ⟨hc2, hi⟩ := rowCell_seg _ _ _ _ _ _ hc
            obtain ⟨h1, h2, h3⟩ := rowCell_lt hc2 g5
            have : xs.length * s ≤ cap * s := Nat.mul_le_mul_right _ g3.2
            exact ⟨hc2, by omega⟩
          have key := Rep.vsl (G := G.addSt fun γ _ => γ = β) (w := w) ((xs.drop off).take n) β (o + off * s) s (cap - off) (fun i j => arr.getD (o + (off + i) * s + j) undef) hc1 (fun i x hx => by
            rw [List.getElem?_take] at hx
            split at hx
            · rw [List.getElem?_drop] at hx; exact g5 _ _ hx
            · cases hx) (fun i j c hc => ⟨.inr rfl, by
            obtain ⟨_, hlt⟩ := hin2 i j c hc
            have e : o + off * s + i * s + j = o + (off + i) * s + j := by rw [Nat.add_mul]; omega
            rw [cell_of_heap g2, e]
            simp [hlt]⟩) (fun i j c hc => by
            obtain ⟨hc2, hlt⟩ := hin2 i j c hc
            have := g6 (off + i) j c _ hc2 (Array.getElem?_eq_getElem hlt)
            simp only [Array.getD, hlt, dif_pos]
            exact this.mono hl)
          rw [hlen] at key; exact key
        | hend _ _ a β' o' s' cap' g hle => simp only [List.take_zero]; exact .vnil _ _
        | hnil _ a g => simp only [List.take_zero]; exact .vnil _ _
      · exact .any _
theorem Fin.freeze {r : AV} {b : Nat} {xs : List AV} (hb : σ.sl b = some xs) (h : Fin R (frz b xs r) (σ.dropSl b)) : Fin R r σ := by
  intro G w v hw hr
  obtain ⟨G', h1, h2, h3⟩ := hw.freeze hb
  obtain ⟨r', G2, σ2, k1, k2, k3, k4⟩ := h G' w v h2 (h3 _ _ hr)
  exact ⟨r', G2, σ2, h1.trans k1, k2, k3, k4⟩
theorem Sim.freeze {G D a w b xs} (hs : Sim G fr σ D a w) (hb : σ.sl b = some xs) : ∃ G', Le G w G' w ∧ Sim G' (fr.map (frz b xs)) (σ.dropSl b) D a w := by
  obtain ⟨G', h1, h2, h3⟩ := hs.w.freeze hb
  refine ⟨G', h1, ⟨by simpa using hs.tmps.1, fun i c v hc hv => ?_⟩, hs.defers.mono h1, h2⟩
  rw [List.getElem?_map] at hc
  obtain ⟨c', hc', rfl⟩ := Option.map_eq_some_iff.1 hc
  exact h3 _ _ (hs.tmps.2 i c' v hc' hv)
theorem aw_freeze {c : Code} {b : Nat} {xs : List AV} (hb : σ.sl b = some xs) (h : AW P D c Q (fr.map (frz b xs)) (σ.dropSl b)) : AW P D c Q fr σ := by
  intro _ _ G a w hs
  obtain ⟨G', h1, h2⟩ := hs.freeze hb
  exact wp_mono (h _ inferInstance G' a w h2) fun e a w h => lift_le h1 h
/-- A nil slice becomes one of the function's own. -/
theorem aw_open {c : Code} {i : Nat} (hi : fr[i]? = some (.p (.slice none 0 0))) (h : AW P D c Q (fr.set i (.hsl σ.next 0 0)) (σ.addSl [])) : AW P D c Q fr σ := by
  intro _ _ G a w hs
  obtain ⟨G', h1, h2, h3⟩ := new_nil hs.w w (Below.refl _ _) none
  refine wp_mono (h _ inferInstance G' a w ⟨⟨by simpa using hs.tmps.1, fun j c v hc hv => ?_⟩, hs.defers.mono h1, h2⟩) fun e a w h => lift_le h1 h
  rw [List.getElem?_set] at hc
  split at hc
  · rename_i e
    subst e
    split at hc
    · obtain rfl := Option.some.inj hc
      have := hs.tmps.2 i _ v hi hv
      cases this
      exact h3
    · cases hc
  · exact (hs.tmps.2 j c v hc hv).mono h1
/-! ### results -/
def ares (P : Program) (σ : ASt) (fr : List AV) : List ResultVar → Option (List AV)
  | [] => some []
  | .tmp t :: l => (ares P σ fr l).map fun r => fget fr t :: r
  | .cell a t :: l => (aload P σ t (fget fr a)).bind fun x => (ares P σ fr l).map fun r => x :: r
def tupOf : List AV → AV
  | [x] => x
  | l => .tup l
def resF (tmps : Array Value) : ResultVar → Sem Value
  | .tmp t => pure (tmps.getD t undef)
  | .cell x t => do loadVar t (← asAddr (tmps.getD x undef))
theorem results_eq (fn : Func) (tmps : Array Value) : results fn tmps = (do let vs ← fn.results.mapM (resF tmps); pure (if h : vs.size = 1 then vs[0] else .tuple vs)) := rfl
theorem run_results (P : Program) {G D a w} (hs : Sim G fr σ D a w) : ∀ (l : List ResultVar) (rs : List AV), ares P σ fr l = some rs →
    ∃ vs, (l.mapM (resF a.tmps)).run P w = .ok vs w ∧ RepL G w rs vs
  | [], rs, h => by
    obtain rfl := Option.some.inj h
    exact ⟨[], by simp, rfl, fun i c v h => by simp at h⟩
  | .tmp t :: l, rs, h => by
    obtain ⟨r, hr, rfl⟩ := Option.map_eq_some_iff.1 h
    obtain ⟨vs, h1, h2⟩ := run_results P hs l r hr
    refine ⟨a.tmps.getD t undef :: vs, by simp only [List.mapM_cons, Sem.run_bind, h1, resF, Sem.run_pure, Result.andThen_ok], by simpa using h2.1, fun i c v hc hv => ?_⟩
    cases i with
    | zero =>
      simp only [List.getElem?_cons_zero, Option.some.injEq] at hc hv
      subst hc; subst hv
      exact hs.ev (.tmp t)
    | succ i => exact h2.2 i c v (by simpa using hc) (by simpa using hv)
  | .cell x t :: l, rs, h => by
    obtain ⟨y, hy, h⟩ := Option.bind_eq_some_iff.1 h
    obtain ⟨r, hr, rfl⟩ := Option.map_eq_some_iff.1 h
    obtain ⟨vs, h1, h2⟩ := run_results P hs l r hr
    simp only [aload, Option.bind_eq_some_iff] at hy
    obtain ⟨⟨n, g⟩, hn, ⟨cs, off⟩, hc, hl⟩ := hy
    obtain ⟨β, o, hv, hcs⟩ := acells_spec hc hs.w (hs.ev (.tmp x))
    obtain ⟨v, k1, k2⟩ := run_loadVar_of hn hl hcs
    have hv : a.tmps.getD x undef = .pointer (some ⟨β, o + off, none⟩) := hv
    refine ⟨v :: vs, by simp only [List.mapM_cons, Sem.run_bind, h1, resF, hv, asAddr, k1, Sem.run_pure, Result.andThen_ok], by simpa using h2.1, fun i c u hc hu => ?_⟩
    cases i with
    | zero =>
      simp only [List.getElem?_cons_zero, Option.some.injEq] at hc hu
      subst hc; subst hu
      exact k2
    | succ i => exact h2.2 i c u (by simpa using hc) (by simpa using hu)
theorem aresults_of {fn : Func} {rs : List AV} (h : ares P σ fr fn.results.toList = some rs) : AResults P fn fr σ (tupOf rs) := by
  intro G D a w hs
  obtain ⟨vs, h1, h2⟩ := run_results P hs _ rs h
  have hrun : (results fn a.tmps).run P w = .ok (if hh : vs.toArray.size = 1 then vs.toArray[0] else .tuple vs.toArray) w := by
    rw [results_eq]
    simp only [Sem.run_bind, Array.mapM_eq_mapM_toList, Sem.run_map]
    rw [h1]
    rfl
  refine ⟨_, hrun, ?_⟩
  cases vs with
  | nil =>
    cases rs with
    | nil => exact .tup [] #[] rfl fun i c v h => by simp at h
    | cons _ _ => cases h2.1
  | cons v vs =>
    cases rs with
    | nil => cases h2.1
    | cons r rs =>
      cases vs with
      | nil =>
        cases rs with
        | nil => simpa [tupOf] using h2.2 0 r v rfl rfl
        | cons _ _ => have := h2.1; simp at this
      | cons v' vs =>
        cases rs with
        | nil => have := h2.1; simp at this
        | cons r' rs =>
          simp only [tupOf, List.size_toArray, List.length_cons]
          rw [dif_neg (by omega)]
          exact .tup _ _ (by simpa using h2.1) fun i c u hc hu => h2.2 i c u hc (by simpa using hu)
theorem ret_of {fn : Func} {e : Exit} (he : e = .normal ∨ e = .ret) {rs : List AV} (h : ares P σ fr fn.results.toList = some rs) (hf : Fin R (tupOf rs) σ) : RetQ P fn R e fr σ := by
  rcases he with rfl | rfl <;> exact ⟨_, aresults_of h, hf⟩
/-! ### calls -/
def callable (P : Program) (f : FuncId) : Bool := match P.funcs[f]? with | some fn => !(fn.name == "runtime.NumGoroutine") && fn.body.isSome | none => false
theorem run_callFunc {f : FuncId} (h : callable P f = true) (args : Array Value) (w : World) : (callFunc f args).run P w = .ok (.enter f args) w := by
  unfold callable at h
  cases hf : P.funcs[f]? with
  | none => rw [hf] at h; cases h
  | some fn =>
    rw [hf] at h
    simp only [Bool.and_eq_true, Bool.not_eq_true'] at h
    have hb : fn.body.isNone = false := by cases hb : fn.body <;> simp_all
    simp only [callFunc, Sem.run_bind, run_program, Result.andThen_ok, hf, h.1, hb, Bool.false_eq_true, if_false]
    rfl
def acallee : AV → Option (FuncId × List AV × List AV)
  | .p (.func (.func f) us vs) => if us.size = 0 ∧ vs.size = 0 then some (f, [], []) else none
  | .fn (.func f) aa bs => some (f, aa, bs)
  | _ => none
theorem RepL.append {G w aa us bs vs} (h1 : RepL G w aa us) (h2 : RepL G w bs vs) : RepL G w (aa ++ bs) (us ++ vs) := by
  refine ⟨by simp [h1.1, h2.1], fun i c v hc hv => ?_⟩
  rw [List.getElem?_append] at hc hv
  rw [← h1.1] at hv
  split at hc
  · rename_i hi; rw [if_pos hi] at hv; exact h1.2 i c v hc hv
  · rename_i hi; rw [if_neg hi] at hv; exact h2.2 _ c v hc hv
theorem opq_call {f : Operand} {aa : Array Operand} {ts : Array TypeId} (ho : o.op = .call { callee := .value f, args := aa, argTypes := ts }) {F : FuncId} {first cap : List AV} (hf : acallee (ρ f) = some (F, first, cap)) (hc : callable P F = true)
    (h : ACall P F (first ++ aa.toList.map ρ ++ cap) σ R) : OpQ P o ρ σ R := by
  intro G e w he hw
  have hrf := he f
  generalize ρ f = cf at hf hrf
  generalize hvf : e f = vf at hrf
  have hargs : RepL G w (aa.toList.map ρ) (aa.toList.map e) := ⟨by simp, fun i c v hc hv => by
    simp only [List.getElem?_map, Option.map_eq_some_iff] at hc hv
    obtain ⟨a, ha, rfl⟩ := hc
    obtain ⟨b, hb, rfl⟩ := hv
    obtain rfl := Option.some.inj (ha.symm.trans hb)
    exact he _⟩
  have go : ∀ us vs : Array Value, vf = .func (.func F) us vs → RepL G w first us.toList → RepL G w cap vs.toList → OutcN P G w R ((execOp e o).run P w) := by
    intro us vs hv h1 h2
    subst hv
    simp only [execOp, ho, resolve, hvf, Deferred.ofValue, Sem.run_bind, Sem.run_pure, Result.andThen_ok, invoke, run_callFunc hc]
    refine h G w _ ?_ hw
    simpa [List.append_assoc] using (h1.append (hargs.append h2))
  cases hrf with
  | p =>
    cases vf with
    | func q us vs =>
      cases q with
      | func q =>
        obtain ⟨⟨u0, v0⟩, hf⟩ := ite_some' hf
        simp only [Option.some.injEq, Prod.mk.injEq] at hf
        obtain ⟨rfl, rfl, rfl⟩ := hf
        have hu := Array.eq_empty_of_size_eq_zero u0
        have hv := Array.eq_empty_of_size_eq_zero v0
        exact go us vs rfl (by subst hu; exact ⟨rfl, fun i c v h => by simp at h⟩) (by subst hv; exact ⟨rfl, fun i c v h => by simp at h⟩)
      | _ => cases hf
    | _ => cases hf
  | fn q as' bs' us vs h1 h2 h3 h4 =>
    cases q with
    | func q =>
      simp only [acallee, Option.some.injEq, Prod.mk.injEq] at hf
      obtain ⟨rfl, rfl, rfl⟩ := hf
      exact go us vs rfl ⟨by simpa using h1, fun i c v hc hv => h3 i c v hc (by simpa using hv)⟩ ⟨by simpa using h2, fun i c v hc hv => h4 i c v hc (by simpa using hv)⟩
    | _ => cases hf
  | _ => cases hf
end Go.AL
