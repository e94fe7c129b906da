/- Parts of the proof of ShapeBack: the logic, contracts, plain laws. -/
import Derived.Test.YtadahjmamgidnaaZShapeBack14
import Derived.Test.YtadahjmamgidnaaZShapeBack13
import Derived.Test.YtadahjmamgidnaaZShapeBack12
/-! A call by a contract over some of what is known, which hands back what is closed, and leaves what is closed. -/
namespace Go.AL
open Go.RowKit (Below)
set_option linter.unusedVariables false
set_option linter.unusedSimpArgs false
variable {P : Program} {σ : ASt}
/-- What is known behind such a call. -/
def back0 (σ : ASt) (ids : List Nat) (τ : ASt) : ASt where
  bx b := match rfind b ids 0 with | some i => τ.bx i | none => σ.bx b
  mp b := match rfind b ids 0 with | some i => τ.mp i | none => σ.mp b
  sl b := match rfind b ids 0 with | some i => τ.sl i | none => σ.sl b
  next := σ.next
theorem ACall.frame0 {f : FuncId} {args : List AV} {σc : ASt} {R : AV → ASt → Prop} (ids : List Nat) (hk : σc.next = ids.length) (hok : σc.Ok) (hlt : ∀ b ∈ ids, b < σ.next) (hnd : ids.Nodup)
    (hb : ∀ i cs, σc.bx i = some cs → σ.bx (ridx ids σ.next i) = some (rens (ridx ids σ.next) cs)) (hm : ∀ i es, σc.mp i = some es → σ.mp (ridx ids σ.next i) = some (es.map (renE (ridx ids σ.next))))
    (hs : ∀ i xs, σc.sl i = some xs → σ.sl (ridx ids σ.next i) = some (rens (ridx ids σ.next) xs)) (h : ACall P f args σc R)
    (hcl : ∀ r τ, R r τ → Cl r ∧ (∀ i cs, τ.bx i = some cs → i < ids.length → ∀ c ∈ cs, Cl c) ∧ (∀ i es, τ.mp i = some es → i < ids.length → ∀ p ∈ es, Cl p.1 ∧ Cl p.2) ∧ (∀ i xs, τ.sl i = some xs → i < ids.length → ∀ c ∈ xs, Cl c)) :
    ACall P f (rens (ridx ids σ.next) args) σ fun r σ' => ∃ τ, R r τ ∧ σ' = back0 σ ids τ := by
  intro G w vs hv hw
  obtain ⟨ρ, hρ⟩ : ∃ ρ, ρ = ridx ids σ.next := ⟨_, rfl⟩
  rw [← hρ] at hb hm hs hv
  have hri : ∀ i, rinv ids σ.next (ρ i) = some i := fun i => by rw [hρ]; exact ridx_rinv hlt hnd i
  have hir : ∀ {b i}, rinv ids σ.next b = some i → ρ i = b := fun h => by rw [hρ]; exact rinv_ridx h
  have hinj : ∀ i j, ρ i = ρ j → i = j := fun i j e => by have h1 := hri i; rw [e, hri j] at h1; exact (Option.some.inj h1).symm
  have hge : ∀ i, ids.length ≤ i → σ.next ≤ ρ i := fun i hi => by rw [hρ]; unfold ridx; rw [if_neg (by omega)]; omega
  have hids : ∀ i, i < ids.length → ρ i ∈ ids := fun i hi => by
    rw [hρ]; unfold ridx; rw [if_pos hi, List.getD, List.getElem?_eq_getElem hi]; exact List.getElem_mem hi
  obtain ⟨q, hq⟩ : ∃ q : Nat → Prop, q = fun β => ∃ kk, Owns G σ β kk ∧ kk.2 ∉ ids := ⟨_, rfl⟩
  obtain ⟨Gc, hGc⟩ : ∃ Gc : Ghost, Gc = ⟨G.base, fun β o => G.st β o ∨ (q β ∧ w.cell? ⟨β, o, none⟩ = none), fun i => G.bx (ρ i), fun i => G.mp (ρ i), fun i => G.sl (ρ i)⟩ := ⟨_, rfl⟩
  have cbx : ∀ i, Gc.bx i = G.bx (ρ i) := fun i => by rw [hGc]
  have cmp : ∀ i, Gc.mp i = G.mp (ρ i) := fun i => by rw [hGc]
  have csl : ∀ i, Gc.sl i = G.sl (ρ i) := fun i => by rw [hGc]
  have cst : ∀ β o, Gc.st β o ↔ G.st β o ∨ (q β ∧ w.cell? ⟨β, o, none⟩ = none) := fun β o => by rw [hGc]
  have cbase : Gc.base = G.base := by rw [hGc]
  have of : ∀ {x v}, Rep G w (ren ρ x) v → Rep Gc w x v := fun {x v} hr => Rep.ren_of cbx cmp csl (fun β o e => (cst β o).2 (.inl e)) _ x (Nat.le_refl _) v hr
  have ownc : ∀ β kk, Owns Gc σc β kk → Owns G σ β (kk.1, ρ kk.2) ∧ kk.2 < ids.length := by
    intro β kk ho
    cases ho with
    | bx i β cs h1 h2 =>
      refine ⟨.bx _ _ _ (hb i cs h1) ((cbx i).symm.trans h2), ?_⟩
      rcases Nat.lt_or_ge i ids.length with hl | hl
      · exact hl
      · have := hok.bx i (by omega); rw [this] at h1; cases h1
    | mp i β cs h1 h2 =>
      refine ⟨.mp _ _ _ (hm i cs h1) ((cmp i).symm.trans h2), ?_⟩
      rcases Nat.lt_or_ge i ids.length with hl | hl
      · exact hl
      · have := hok.mp i (by omega); rw [this] at h1; cases h1
    | sl i β r cs h1 h2 =>
      refine ⟨.sl _ _ r _ (hs i cs h1) ((csl i).symm.trans h2), ?_⟩
      rcases Nat.lt_or_ge i ids.length with hl | hl
      · exact hl
      · have := hok.sl i (by omega); rw [this] at h1; cases h1
  have hwc : SimW Gc σc w := by
    refine ⟨by rw [cbase]; exact hw.base, fun i cs e => ?_, fun i es e => ?_, fun i xs e => ?_, fun β kk ho => ?_, fun β o e => ?_, fun i hi => ?_⟩
    · obtain ⟨β, arr, el, h1, h2, h3, h4⟩ := hw.bx _ _ (hb i cs e)
      rw [rens_len] at h3
      exact ⟨β, arr, el, (cbx i).trans h1, h2, h3, fun j c v hc hv => of (h4 j (ren ρ c) v (by rw [rens_get, hc]; rfl) hv)⟩
    · rcases hw.mp _ _ (hm i es e) with ⟨μ, ents, clock, h1, h2, h3, h4, h5⟩ | ⟨μ, ob, ofr, h1, h2, h3, h4⟩
      · rw [List.length_map] at h3
        refine .inl ⟨μ, ents, clock, (cmp i).trans h1, h2, h3, fun j k x en a b => ?_, h5⟩
        obtain ⟨e1, e2, e3⟩ := h4 j (ren ρ k) (ren ρ x) en (by rw [List.getElem?_map, a]; rfl) b
        exact ⟨of e1, of e2, e3⟩
      · obtain ⟨fr0, h5, h6⟩ := renE_obE h4
        subst h6
        exact .inr ⟨μ, ob, fr0, (cmp i).trans h1, h2, ObR.of (f := ren ρ) (fun x v hr => of hr) (by rw [← rens_map]; exact h3), h5⟩
    · rcases hw.sl _ _ (hs i xs e) with ⟨h1, h2⟩ | ⟨β, o, s, cap, arr, el, h1, h2, h3, h4, h5, h6⟩
      · refine .inl ⟨(csl i).trans h1, ?_⟩
        cases xs with
        | nil => rfl
        | cons => simp [rens] at h2
      · rw [rens_len] at h3
        refine .inr ⟨β, o, s, cap, arr, el, (csl i).trans h1, h2, h3, h4, fun j x hx => ?_, fun j k c v hc hv => of (h6 j k (ren ρ c) v (by rw [ren_rowCell, hc]; rfl) hv)⟩
        have := h5 j (ren ρ x) (by rw [rens_get, hx]; rfl)
        rw [ren_cells, rens_len] at this
        exact this
    · obtain ⟨ho', hi⟩ := ownc β kk ho
      obtain ⟨o1, o2, o3⟩ := hw.own _ _ ho'
      refine ⟨by rw [cbase]; exact o1, fun k' hk' => ?_, fun o e => ?_⟩
      · have := o2 _ (ownc β k' hk').1
        simp only [Prod.mk.injEq] at this
        exact Prod.ext this.1 (hinj _ _ this.2)
      · rcases (cst β o).1 e with e | ⟨e, _⟩
        · exact o3 o e
        · rw [hq] at e
          obtain ⟨k2, ho2, hn⟩ := e
          have := o2 _ ho2
          rw [this] at hn
          exact hn (hids _ hi)
    · rcases (cst β o).1 e with e | ⟨e, _⟩
      · exact hw.stIn β o e
      · rw [hq] at e
        obtain ⟨k2, ho2, _⟩ := e
        exact hw.own_lt ho2
    · have hi' : ids.length ≤ i := by omega
      obtain ⟨f1, f2, f3, f4, f5, f6⟩ := hw.fresh (ρ i) (hge i hi')
      exact ⟨(cbx i).trans f1, (cmp i).trans f2, (csl i).trans f3, hok.bx i hi, hok.mp i hi, hok.sl i hi⟩
  have hvc : RepL Gc w args vs.toList := ⟨by have := hv.1; rw [rens_len] at this; exact this, fun i c v hc hv' => of (hv.2 i (ren ρ c) v (by rw [rens_get, hc]; rfl) hv')⟩
  refine Calls.mono (h Gc w vs hvc hwc) fun e w' he => retOf_mono (fun v w1 ho => ?_) he
  obtain ⟨rc, G1, τ, hl, hw1, hr1, hR⟩ := ho
  have hqst : ∀ β, q β → ∃ o, Gc.st β o := fun β e => by
    obtain ⟨o, ho⟩ := cell_out w β
    exact ⟨o, (cst β o).2 (.inr ⟨e, ho⟩)⟩
  have hqb : ∀ β, q β → w1.heap[β]? = w.heap[β]? := fun β e => by
    obtain ⟨o, ho⟩ := hqst β e; exact hl.cell β o ho
  have hqown : ∀ {β}, q β → ∀ o, ¬ G.st β o := fun {β} e => by
    rw [hq] at e; obtain ⟨k2, ho2, _⟩ := e; exact (hw.own _ _ ho2).2.2
  obtain ⟨hcr, hcb, hcm, hcs⟩ := hcl rc τ hR
  obtain ⟨G2, hG2⟩ : ∃ G2 : Ghost, G2 = ⟨G.base, fun β o => G1.st β o ∧ ¬ q β, fun b => match rfind b ids 0 with | some i => G1.bx i | none => G.bx b, fun b => match rfind b ids 0 with | some i => G1.mp i | none => G.mp b, fun b => match rfind b ids 0 with | some i => G1.sl i | none => G.sl b⟩ := ⟨_, rfl⟩
  have dbase : G2.base = G.base := by rw [hG2]
  have dst : ∀ β o, G2.st β o ↔ G1.st β o ∧ ¬ q β := fun β o => by rw [hG2]
  have dbx : ∀ b, G2.bx b = match rfind b ids 0 with | some i => G1.bx i | none => G.bx b := fun b => by rw [hG2]
  have dmp : ∀ b, G2.mp b = match rfind b ids 0 with | some i => G1.mp i | none => G.mp b := fun b => by rw [hG2]
  have dsl : ∀ b, G2.sl b = match rfind b ids 0 with | some i => G1.sl i | none => G.sl b := fun b => by rw [hG2]
  have hfi : ∀ {b i}, rfind b ids 0 = some i → ρ i = b ∧ i < ids.length := fun {b i} h => by
    obtain ⟨_, h2⟩ := rfind_some h
    simp only [Nat.sub_zero] at h2
    obtain ⟨h3, h4⟩ := List.getElem?_eq_some_iff.1 h2
    refine ⟨?_, h3⟩
    rw [hρ]; unfold ridx; rw [if_pos h3, List.getD, h2]; rfl
  have hl2 : Le G w G2 w1 := by
    refine ⟨dbase, fun b β e => ?_, fun b β e => ?_, fun b r e => ?_, fun β o e => (dst β o).2 ⟨hl.st _ _ ((cst β o).2 (.inl e)), fun hqq => hqown hqq o e⟩, fun β o e => ?_, fun β o e => hl.cell _ _ ((cst β o).2 (.inl e)), ?_⟩
    · rw [dbx]
      cases hi : rfind b ids 0 with
      | none => exact e
      | some i => exact hl.bx _ _ (by rw [cbx, (hfi hi).1]; exact e)
    · rw [dmp]
      cases hi : rfind b ids 0 with
      | none => exact e
      | some i => exact hl.mp _ _ (by rw [cmp, (hfi hi).1]; exact e)
    · rw [dsl]
      cases hi : rfind b ids 0 with
      | none => exact e
      | some i => exact hl.sl _ _ (by rw [csl, (hfi hi).1]; exact e)
    · obtain ⟨e1, e2⟩ := (dst β o).1 e
      rcases hl.st2 β o e1 with e3 | ⟨e3, e4⟩
      · rcases (cst β o).1 e3 with e3 | ⟨e3, _⟩
        · exact .inl e3
        · exact absurd e3 e2
      · rw [cbase] at e3
        exact .inr ⟨e3, fun o' e' => e4 o' ((cst β o').2 (.inl e'))⟩
    · have := hl.below; rw [cbase] at this; exact this
  have to : ∀ {x v}, Cl x → Rep G1 w1 x v → Rep G2 w1 x v := fun {x v} hx hr => by
    have hr' : Rep ⟨G1.base, G1.st, fun _ => none, fun _ => none, fun _ => none⟩ w1 x v := Rep.closed (G := G1) (fun _ _ e => e) hr hx
    have := Rep.ren_to (G' := G2) (ρ := id) (fun i β e => by cases e) (fun i β e => by cases e) (fun i r e => by cases e) (fun β o e ⟨u, hu⟩ => (dst β o).2 ⟨e, fun hqq => by
      rcases hl.st2 β o e with e3 | ⟨_, e4⟩
      · rcases (cst β o).1 e3 with e3 | ⟨_, e3⟩
        · exact hqown hqq o e3
        · rw [cell_block (hqb β hqq), e3] at hu; cases hu
      · obtain ⟨o', ho'⟩ := hqst β hqq
        exact e4 o' ho'⟩) hr'
    rwa [ren_closed id hx] at this
  have own2 : ∀ β kk, Owns G2 (back0 σ ids τ) β kk → (∃ i, rfind kk.2 ids 0 = some i ∧ Owns G1 τ β (kk.1, i)) ∨ (rfind kk.2 ids 0 = none ∧ Owns G σ β kk) := by
    intro β kk ho
    cases ho with
    | bx b β cs h1 h2 =>
      rw [dbx] at h2
      simp only [back0] at h1
      cases hi : rfind b ids 0 with
      | none => rw [hi] at h1 h2; exact .inr ⟨rfl, .bx _ _ _ h1 h2⟩
      | some i => rw [hi] at h1 h2; exact .inl ⟨i, rfl, .bx _ _ _ h1 h2⟩
    | mp b β cs h1 h2 =>
      rw [dmp] at h2
      simp only [back0] at h1
      cases hi : rfind b ids 0 with
      | none => rw [hi] at h1 h2; exact .inr ⟨rfl, .mp _ _ _ h1 h2⟩
      | some i => rw [hi] at h1 h2; exact .inl ⟨i, rfl, .mp _ _ _ h1 h2⟩
    | sl b β r cs h1 h2 =>
      rw [dsl] at h2
      simp only [back0] at h1
      cases hi : rfind b ids 0 with
      | none => rw [hi] at h1 h2; exact .inr ⟨rfl, .sl _ _ _ _ h1 h2⟩
      | some i => rw [hi] at h1 h2; exact .inl ⟨i, rfl, .sl _ _ _ _ h1 h2⟩
  have qof : ∀ {β kk}, rfind kk.2 ids 0 = none → Owns G σ β kk → q β := fun {β kk} h1 h2 => by
    rw [hq]; exact ⟨kk, h2, rfind_none h1⟩
  refine ⟨_, G2, back0 σ ids τ, hl2, ?_, to hcr hr1, τ, hR, rfl⟩
  refine ⟨by rw [dbase]; exact hw.base.go hl2.below, fun b cs e => ?_, fun b es e => ?_, fun b xs e => ?_, fun β kk ho => ?_, fun β o e => hw1.stIn β o ((dst β o).1 e).1, fun b hbn => ?_⟩
  · simp only [back0] at e
    cases hi : rfind b ids 0 with
    | none =>
      rw [hi] at e
      exact (hw.bx b cs e).mono hl2 fun β g => hqb β (qof (kk := (0, b)) hi (.bx b β cs e g))
    | some i =>
      rw [hi] at e
      have hci := hcb i cs e (hfi hi).2
      obtain ⟨β, arr, el, h1, h2, h4, h5⟩ := hw1.bx i cs e
      exact ⟨β, arr, el, by rw [dbx, hi]; exact h1, h2, h4, fun j c v hc hv' => to (hci c (List.mem_of_getElem? hc)) (h5 j c v hc hv')⟩
  · simp only [back0] at e
    cases hi : rfind b ids 0 with
    | none =>
      rw [hi] at e
      exact (hw.mp b es e).mono hl2 fun β g => hqb β (qof (kk := (1, b)) hi (.mp b β es e g))
    | some i =>
      rw [hi] at e
      have hci := hcm i es e (hfi hi).2
      rcases hw1.mp i es e with ⟨μ, ents, clock, h1, h2, h4, h5, h6⟩ | ⟨μ, ob, ofr, h1, h2, h3, h4⟩
      · refine .inl ⟨μ, ents, clock, by rw [dmp, hi]; exact h1, h2, h4, fun j k x en a b => ?_, h6⟩
        obtain ⟨e3, e4, e5⟩ := h5 j k x en a b
        have := hci (k, x) (List.mem_of_getElem? a)
        exact ⟨to this.1 e3, to this.2 e4, e5⟩
      · have hcf : ∀ c ∈ ofr, Cl c := by
          have := (hci (noV, .tup [.ob (erO ob), .agg ofr]) (by rw [h4]; exact List.mem_cons_self)).2
          cases this with
          | tup _ h => have := h (.agg ofr) (by simp); cases this with | agg _ h => exact h
        refine .inr ⟨μ, ob, ofr, by rw [dmp, hi]; exact h1, h2, ?_, h4⟩
        have := ObR.to (f := fun x => x) (fun x hx v hr => to (hcf x hx) hr) h3
        simpa using this
  · simp only [back0] at e
    cases hi : rfind b ids 0 with
    | none =>
      rw [hi] at e
      exact (hw.sl b xs e).mono hl2 fun β r g => hqb β (qof (kk := (2, b)) hi (.sl b β r xs e g))
    | some i =>
      rw [hi] at e
      have hci := hcs i xs e (hfi hi).2
      rcases hw1.sl i xs e with ⟨h1, h2⟩ | ⟨β, o, s, cap, arr, el, h1, h2, h4, h5, h6, h7⟩
      · exact .inl ⟨by rw [dsl, hi]; exact h1, h2⟩
      · refine .inr ⟨β, o, s, cap, arr, el, by rw [dsl, hi]; exact h1, h2, h4, h5, h6, fun j k c v hc hv' => to ?_ (h7 j k c v hc hv')⟩
        exact Cl.rowCell hci hc
  · rcases own2 β kk ho with ⟨i, hi, ho1⟩ | ⟨hn, ho1⟩
    · obtain ⟨o1, o2, o3⟩ := hw1.own _ _ ho1
      refine ⟨by rw [dbase, ← cbase, ← hl.base]; exact o1, fun k' hk' => ?_, fun o e => o3 o ((dst β o).1 e).1⟩
      rcases own2 β k' hk' with ⟨j, hj, ho2⟩ | ⟨hn, ho2⟩
      · have := o2 _ ho2
        simp only [Prod.mk.injEq] at this
        refine Prod.ext this.1 ?_
        rw [← (hfi hi).1, ← (hfi hj).1, this.2]
      · exfalso
        obtain ⟨o, hst⟩ := hqst β (qof hn ho2)
        exact o3 o (hl.st _ _ hst)
    · obtain ⟨o1, o2, o3⟩ := hw.own _ _ ho1
      have hqq := qof hn ho1
      refine ⟨by rw [dbase]; exact o1, fun k' hk' => ?_, fun o e => ((dst β o).1 e).2 hqq⟩
      rcases own2 β k' hk' with ⟨j, hj, ho2⟩ | ⟨_, ho2⟩
      · exfalso
        obtain ⟨o, hst⟩ := hqst β hqq
        exact (hw1.own _ _ ho2).2.2 o (hl.st _ _ hst)
      · exact o2 _ ho2
  · have hb1 : σ.next ≤ b := hbn
    have hi : rfind b ids 0 = none := by
      cases hf : rfind b ids 0 with
      | none => rfl
      | some i =>
        obtain ⟨_, h2⟩ := rfind_some hf
        have := hlt b (List.mem_of_getElem? h2)
        omega
    obtain ⟨f1, f2, f3, f4, f5, f6⟩ := hw.fresh b hb1
    refine ⟨by rw [dbx, hi]; exact f1, by rw [dmp, hi]; exact f2, by rw [dsl, hi]; exact f3, ?_, ?_, ?_⟩
    · simp only [back0, hi]; exact f4
    · simp only [back0, hi]; exact f5
    · simp only [back0, hi]; exact f6
end Go.AL
/-! Functions with one variable of the caller's, by its address. -/
namespace Go.AL
set_option linter.unusedVariables false
set_option linter.unusedSimpArgs false
variable {P : Program} {σ : ASt} {R : AV → ASt → Prop} {D : List Deferred} {Q : Exit → List AV → ASt → Prop} {fr : List AV} {ops : Array Oper}
/-- With the variable number 0, which holds cs: it hands back r, and leaves cs'. -/
def BC (P : Program) (f : FuncId) (args cs : List AV) (r : AV) (cs' : List AV) : Prop := ACall P f args (mkSt [(0, cs)] [] 1) fun r' σ' => r' = r ∧ σ'.bx 0 = some cs'
theorem Outc.low {G w} {R R' : AV → ASt → Prop} {v w'} (h : Outc G w R v w') (hr : ∀ r σ, R r σ → ∃ τ, ASt.Le τ σ ∧ R' r τ) : Outc G w R' v w' := by
  obtain ⟨r, G', σ', h1, h2, h3, h4⟩ := h
  obtain ⟨τ, hl, h5⟩ := hr r σ' h4
  exact ⟨r, G', τ, h1, h2.less hl, h3, h5⟩
theorem ACall.low {f : FuncId} {args : List AV} {R R' : AV → ASt → Prop} (h : ACall P f args σ R) (hr : ∀ r σ, R r σ → ∃ τ, ASt.Le τ σ ∧ R' r τ) : ACall P f args σ R' :=
  fun G w vs hv hw => Calls.mono (h G w vs hv hw) fun e w' he => retOf_mono (fun v w1 ho => ho.low hr) he
theorem rens_closed {ρ : Nat → Nat} {l : List AV} (h : ∀ c ∈ l, Cl c) : rens ρ l = l := by
  rw [rens_map]; conv => rhs; rw [← List.map_id l]
  exact List.map_congr_left fun c hc => ren_closed ρ (h c hc)
/-- The arguments: the variable's own address, and what is closed. -/
inductive ArgB (b : Nat) : AV → AV → Prop where
  | ptr (off : Nat) : ArgB b (.ptr 0 off) (.ptr b off)
  | cl {x : AV} (h : Cl x) : ArgB b x x
inductive ArgBs (b : Nat) : List AV → List AV → Prop where
  | nil : ArgBs b [] []
  | cons {x y : AV} {xs ys : List AV} (h : ArgB b x y) (t : ArgBs b xs ys) : ArgBs b (x :: xs) (y :: ys)
theorem ArgBs.rens {b n : Nat} {xs ys : List AV} (h : ArgBs b xs ys) : rens (ridx [b] n) xs = ys := by
  induction h with
  | nil => rfl
  | cons h t ih =>
    cases h with
    | ptr off => simp [Go.AL.rens, ren, ridx, ih]
    | cl h => simp [Go.AL.rens, ren_closed _ h, ih]
theorem BC.call {f : FuncId} {args args' cs cs' : List AV} {r : AV} {b : Nat} (h : BC P f args cs r cs') (ha : ArgBs b args args') (hcs : ∀ c ∈ cs, Cl c) (hcs' : ∀ c ∈ cs', Cl c) (hr : Cl r) (hb : σ.bx b = some cs) (hbm : σ.mp b = none) (hbs : σ.sl b = none) :
    ACall P f args' σ fun r' σ' => r' = r ∧ σ' = { σ with bx := upd σ.bx b (some cs') } := by
  refine acall_ok fun hok => ?_
  have hbn : b < σ.next := by
    rcases Nat.lt_or_ge b σ.next with h' | h'
    · exact h'
    · rw [hok.bx b h'] at hb; cases hb
  have h0 : ACall P f args (mkSt [(0, cs)] [] 1) fun r' σ' => (r' = r ∧ σ'.bx 0 = some cs') ∧ σ'.mp 0 = none ∧ σ'.sl 0 = none := by
    refine h.low fun r' τ ⟨e1, e2⟩ => ⟨⟨τ.bx, fun _ => none, fun _ => none, τ.next⟩, ⟨fun _ _ e => e, fun _ _ e => (nomatch e), fun _ _ e => (nomatch e), Nat.le_refl _⟩, ⟨e1, e2⟩, rfl, rfl⟩
  have h1 := ACall.frame0 (σ := σ) (ids := [b]) (h := h0) rfl ⟨fun i hi => by
      have : 1 ≤ i := hi
      show List.lookup i [(0, cs)] = none
      rw [List.lookup_cons]
      have : (i == 0) = false := by simp; omega
      rw [this]; rfl, fun _ _ => rfl, fun _ _ => rfl⟩ (by simpa using hbn) (by simp) (fun i cs0 e => by
      have h2 : (0, cs) = (i, cs0) ∨ False := by
        have := lookup_mem (l := [(0, cs)]) (b := i) (c := cs0) e
        simp at this
        exact .inl (by rw [this.1, this.2])
      simp only [or_false, Prod.mk.injEq] at h2
      obtain ⟨rfl, rfl⟩ := h2
      rw [rens_closed hcs]
      simpa [ridx] using hb) (fun i es e => by cases e) (fun i xs e => by
      have : List.lookup i ([] : List (Nat × List AV)) = some xs := e
      cases this) (fun r' τ ⟨⟨e1, e2⟩, e3, e4⟩ => by
      subst e1
      refine ⟨hr, fun i cs0 e hi => ?_, fun i es e hi => ?_, fun i xs e hi => ?_⟩
      all_goals
        obtain rfl : i = 0 := by simp at hi; omega
      · rw [e2] at e; obtain rfl := Option.some.inj e; exact hcs'
      · rw [e3] at e; cases e
      · rw [e4] at e; cases e)
  rw [ha.rens] at h1
  refine h1.mono fun r' σ' ⟨τ, ⟨⟨e1, e2⟩, e3, e4⟩, e5⟩ => ⟨e1, ?_⟩
  rw [e5]
  unfold back0
  congr 1
  · funext c
    unfold upd
    by_cases hc : c = b
    · subst hc; simp [rfind, e2]
    · simp [rfind, hc]
  · funext c
    by_cases hc : c = b
    · subst hc; simp [rfind, e3, hbm]
    · simp [rfind, hc]
  · funext c
    by_cases hc : c = b
    · subst hc; simp [rfind, e4, hbs]
    · simp [rfind, hc]
/-- Such a call, next in a run. -/
theorem awl_box {o : Oper} {rest : List Oper} {f : Operand} {aa : Array Operand} {ts : Array TypeId} (mu : List Nat) (ho : o.op = .call { callee := .value f, args := aa, argTypes := ts }) (hw : awanted ops o fr = some true)
    {F : FuncId} {first cap : List AV} (hf : acallee (aev fr f) = some (F, first, cap)) (hc : callable P F = true) {args args' cs cs' : List AV} {r : AV} {b : Nat} (h : BC P F args cs r cs') (he : first ++ aa.toList.map (aev fr) ++ cap = args') (ha : ArgBs b args args')
    (hcs : ∀ c ∈ cs, Cl c) (hcs' : ∀ c ∈ cs', Cl c) (hr : Cl r) (hb : σ.bx b = some cs) (hbm : σ.mp b = none) (hbs : σ.sl b = none)
    (hk : Shut (ARun P D ops Q mu rest (aput fr o.dst r) { σ with bx := upd σ.bx b (some cs') })) : AWL P D ops Q (o :: rest) fr σ :=
  awl_cons hw (opq_call ho hf hc (by rw [he]; exact (h.call ha hcs hcs' hr hb hbm hbs).mono fun r' τ' ⟨e1, e2⟩ => by subst e1; subst e2; exact awl_run' mu hk))
theorem bc_of {f : FuncId} {fn : Func} {c : Code} {n : Nat} {args cs cs' : List AV} {r : AV} (hf : P.funcs[f]? = some fn) (hn : fn.ntmps = n) (hb : fn.body = some c) (h : AW P [] c (RetQ P fn fun r' σ' => r' = r ∧ σ'.bx 0 = some cs') (args ++ List.replicate (n - args.length) (.p undef)) (mkSt [(0, cs)] [] 1)) : BC P f args cs r cs' :=
  acall_of hf hn hb h
end Go.AL
/-! What is not carried out, in regions that draw their order. -/
namespace Go.AL
set_option linter.unusedVariables false
set_option linter.unusedSimpArgs false
variable {P : Program} {σ : ASt} {R : AV → ASt → Prop} {D : List Deferred} {Q : Exit → List AV → ASt → Prop} {fr : List AV} {ops : Array Oper}
theorem yld_not {o : Oper} (hc : gcond ops o fr = some false) : Yld P ops σ o fr (.opt false (.p undef)) := by
  intro G a w ha hw
  have hg := gcond_agree hc ha
  exact ⟨fun h => by rw [hg] at h; (cases h), fun _ => .opt false _ _ (fun h => by cases h) fun _ => rfl⟩
theorem yl_skip {K : List AV → Prop} {o : Oper} {rest : List Oper} (hc : gcond ops o fr = some false) (hk : Shut (YRun P ops σ K rest (aput fr o.dst (.opt false (.p undef))))) : YL P ops σ K (o :: rest) fr :=
  ⟨_, yld_not hc, yl_run hk.out⟩
theorem zl_skip {mu imp : List Nat} {l : List Oper} {K : List AV → ASt → Prop} {i : Nat} {old : List ASt} {pd : List Pend} {o : Oper} {rest : List Oper} (hz : zst mu imp o = false) (hc : gcond l.toArray o fr = some false)
    (hk : Shut (ZRun P mu imp l K (i + 1) rest (aput fr o.dst (.opt false (.p undef))) σ old pd)) : ZS P mu imp l K i (o :: rest) fr σ old pd := by
  intro hok
  unfold ZL; rw [if_neg (by rw [hz]; decide)]
  exact ⟨_, .inl ⟨fun σ' => yld_not hc, zl_run hk.out hok⟩⟩
/-- Such a contract, over what is closed. -/
structure BK (P : Program) (f : FuncId) (args cs : List AV) (r : AV) (cs' : List AV) : Prop where
  call : BC P f args cs r cs'
  cl : ∀ c ∈ cs, Cl c
  cl' : ∀ c ∈ cs', Cl c
  clr : Cl r
theorem awl_boxK {o : Oper} {rest : List Oper} {f : Operand} {aa : Array Operand} {ts : Array TypeId} (mu : List Nat) (ho : o.op = .call { callee := .value f, args := aa, argTypes := ts }) (hw : awanted ops o fr = some true)
    {F : FuncId} {first cap : List AV} (hf : acallee (aev fr f) = some (F, first, cap)) (hc : callable P F = true) {args args' cs cs' : List AV} {r : AV} {b : Nat} (h : BK P F args cs r cs') (he : first ++ aa.toList.map (aev fr) ++ cap = args') (ha : ArgBs b args args')
    (hb : σ.bx b = some cs) (hbm : σ.mp b = none) (hbs : σ.sl b = none)
    (hk : Shut (ARun P D ops Q mu rest (aput fr o.dst r) { σ with bx := upd σ.bx b (some cs') })) : AWL P D ops Q (o :: rest) fr σ :=
  awl_box mu ho hw hf hc h.call he ha h.cl h.cl' h.clr hb hbm hbs hk
end Go.AL
/-! Contracts: gridironref05.Reader's small functions. -/
namespace Go.AL
open Go.Proofs
set_option linter.unusedSimpArgs false
set_option linter.unusedVariables false
/-- A reader's state: where it is, whether it failed, where. -/
structure RS where
  at_ : Nat
  fl : Bool
  wh : Nat
def rdc (ts : List (Tok × Nat)) (en : Nat) (s : RS) : List AV := [.vsl (ts.map tokA), vi (s.at_ : Nat), vi (en : Nat), vb s.fl, vi (s.wh : Nat)]
@[simp] theorem rdc_cl (ts : List (Tok × Nat)) (en : Nat) (s : RS) : ∀ c ∈ rdc ts en s, Cl c := by
  intro c hc
  simp [rdc] at hc
  rcases hc with rfl | rfl | rfl | rfl | rfl
  · exact .vsl _ fun c hc => by
      obtain ⟨p, _, rfl⟩ := List.mem_map.1 hc
      exact tok_cl _ _
  all_goals exact .p _
def isMark (ts : List (Tok × Nat)) (i : Nat) (m : ByteArray) : Bool := match ts[i]? with | some p => decide (p.1.k = 5) && decide (p.1.t = m) | none => false
def markP (ts : List (Tok × Nat)) (s : RS) (more : Nat) (m : ByteArray) : Bool := !s.fl && isMark ts (s.at_ + more) m
def failS (ts : List (Tok × Nat)) (en : Nat) (s : RS) : RS := if s.fl = true then s else ⟨s.at_, true, match ts[s.at_]? with | some p => p.2 | none => en⟩
def RS.next (s : RS) : RS := ⟨s.at_ + 1, s.fl, s.wh⟩
def mustS (ts : List (Tok × Nat)) (en : Nat) (s : RS) (m : ByteArray) : RS := if markP ts s 0 m = true then s.next else failS ts en s
def lvl (t : ByteArray) : Int := if t = ⟨#[60]⟩ ∨ t = ⟨#[60, 61]⟩ ∨ t = ⟨#[61]⟩ ∨ t = ⟨#[60, 62]⟩ ∨ t = ⟨#[62, 61]⟩ ∨ t = ⟨#[62]⟩ then 1 else if t = ⟨#[43]⟩ ∨ t = ⟨#[45]⟩ then 2 else if t = ⟨#[42]⟩ ∨ t = ⟨#[47]⟩ then 3 else 0
def levelP (ts : List (Tok × Nat)) (s : RS) : Int := if s.fl = true then 0 else match ts[s.at_]? with | some p => if p.1.k = 5 then lvl p.1.t else 0 | none => 0
def endP (ts : List (Tok × Nat)) (s : RS) : Bool := !s.fl && match ts[s.at_]? with | some p => decide (p.1.k = 2) || decide (p.1.k = 3) | none => false
set_option maxHeartbeats 4000000 in
set_option maxRecDepth 100000 in
theorem rmark5_ok (ts : List (Tok × Nat)) (en : Nat) (s : RS) (more : Nat) (m : ByteArray) (h1 : s.at_ ≤ ts.length) (h2 : ts.length ≤ 100000) (h3 : more ≤ 1) :
    BK Try.prog 130 [.ptr 0 0, vi (more : Nat), vs m] (rdc ts en s) (vb (markP ts s more m)) (rdc ts en s) := by
  obtain ⟨i, fl, wh⟩ := s
  have w1 : IntKind.i64.wrap ((i : Int) + (more : Int)) = (i : Int) + (more : Int) := wrap_id (by simp at h1; omega) (by simp at h1; omega)
  have p1 : (0 : Int) ≤ (i : Int) + (more : Int) := by omega
  have p2 : ((i : Int) + (more : Int)).toNat = i + more := by omega
  refine ⟨?_, rdc_cl _ _ _, rdc_cl _ _ _, by first | exact .p _ | exact .tup _ (by simp)⟩
  unfold rdc
  refine bc_of Try.func130 Try.ntmps130 rfl ?_
  simp only [List.length_cons, List.length_nil, List.cons_append, List.nil_append, List.replicate]
  cases fl with
  | true =>
    by_cases hlt : i + more < ts.length
    · have hlti : (i : Int) + (more : Int) < ts.length := by omega
      repeat' (first
        | refine aw_seq ?_
        | ((first | refine aw_run [] ?_ | refine aw_ymix [] draws (by decide +kernel) ?_); try simp -implicitDefEqProofs (maxSteps := 1000000) [rdc, w1, p1, p2, hlt, hlti, tokA, Tok.av])
        | ((first | refine aw_zrun [] [] draws (by decide +kernel) (by decide +kernel) ?_ | refine zl_skip (by simp) rfl ?_); try simp -implicitDefEqProofs (maxSteps := 1000000) [rdc, w1, p1, p2, hlt, hlti, tokA, Tok.av]; repeat first | refine zcurL (by decide +kernel) ?_ | refine zcurH (by decide +kernel) ?_ | refine zcurL' (by decide +kernel) ?_ | refine zcurH' (by decide +kernel) ?_)
        | ((first | refine aw_yrun draws (by kernel_rfl) ?_ | refine awl_skip' [] rfl ?_ | refine yl_skip rfl ?_ | refine aw_skip ?_ | refine aw_exit ?_); try simp -implicitDefEqProofs (maxSteps := 1000000) [rdc, w1, p1, p2, hlt, hlti, tokA, Tok.av])
        | (refine aw_cond rfl (fun h => ?_) (fun h => ?_) <;> try (with_reducible first | exact ff_tt h | exact tt_ff h))
        | refine aw_block ?_
        | refine aw_ret (ret_of (.inr rfl) (by simp [Try.results130]; rfl) (Fin.of ?_))
        | refine ret_of (.inl rfl) (by simp [Try.results130]; rfl) (Fin.of ?_))
      exact ⟨rfl, rfl⟩
    · have hlti : ¬ (i : Int) + (more : Int) < ts.length := by omega
      repeat' (first
        | refine aw_seq ?_
        | ((first | refine aw_run [] ?_ | refine aw_ymix [] draws (by decide +kernel) ?_); try simp -implicitDefEqProofs (maxSteps := 1000000) [rdc, w1, p1, p2, hlt, hlti])
        | ((first | refine aw_zrun [] [] draws (by decide +kernel) (by decide +kernel) ?_ | refine zl_skip (by simp) rfl ?_); try simp -implicitDefEqProofs (maxSteps := 1000000) [rdc, w1, p1, p2, hlt, hlti]; repeat first | refine zcurL (by decide +kernel) ?_ | refine zcurH (by decide +kernel) ?_ | refine zcurL' (by decide +kernel) ?_ | refine zcurH' (by decide +kernel) ?_)
        | ((first | refine aw_yrun draws (by kernel_rfl) ?_ | refine awl_skip' [] rfl ?_ | refine yl_skip rfl ?_ | refine aw_skip ?_ | refine aw_exit ?_); try simp -implicitDefEqProofs (maxSteps := 1000000) [rdc, w1, p1, p2, hlt, hlti])
        | (refine aw_cond rfl (fun h => ?_) (fun h => ?_) <;> try (with_reducible first | exact ff_tt h | exact tt_ff h))
        | refine aw_block ?_
        | refine aw_ret (ret_of (.inr rfl) (by simp [Try.results130]; rfl) (Fin.of ?_))
        | refine ret_of (.inl rfl) (by simp [Try.results130]; rfl) (Fin.of ?_))
      exact ⟨rfl, rfl⟩
  | false =>
    by_cases hlt : i + more < ts.length
    · obtain ⟨q, hq⟩ : ∃ q, ts[i + more] = q := ⟨_, rfl⟩
      have hlti : (i : Int) + (more : Int) < ts.length := by omega
      repeat' (first
        | refine aw_seq ?_
        | ((first | refine aw_run [] ?_ | refine aw_ymix [] draws (by decide +kernel) ?_); try simp -implicitDefEqProofs (maxSteps := 1000000) [rdc, w1, p1, p2, hlt, hlti, hq, tokA, Tok.av])
        | ((first | refine aw_zrun [] [] draws (by decide +kernel) (by decide +kernel) ?_ | refine zl_skip (by simp) rfl ?_); try simp -implicitDefEqProofs (maxSteps := 1000000) [rdc, w1, p1, p2, hlt, hlti, hq, tokA, Tok.av]; repeat first | refine zcurL (by decide +kernel) ?_ | refine zcurH (by decide +kernel) ?_ | refine zcurL' (by decide +kernel) ?_ | refine zcurH' (by decide +kernel) ?_)
        | ((first | refine aw_yrun draws (by kernel_rfl) ?_ | refine awl_skip' [] rfl ?_ | refine yl_skip rfl ?_ | refine aw_skip ?_ | refine aw_exit ?_); try simp -implicitDefEqProofs (maxSteps := 1000000) [rdc, w1, p1, p2, hlt, hlti, hq, tokA, Tok.av])
        | (refine aw_cond rfl (fun h => ?_) (fun h => ?_) <;> try (with_reducible first | exact ff_tt h | exact tt_ff h))
        | refine aw_block ?_
        | refine aw_ret (ret_of (.inr rfl) (by simp [Try.results130]; rfl) (Fin.of ?_))
        | refine ret_of (.inl rfl) (by simp [Try.results130]; rfl) (Fin.of ?_))
      refine ⟨?_, rfl⟩
      simp [tupOf, markP, isMark, hlt, hq]
    · have hlti : ¬ (i : Int) + (more : Int) < ts.length := by omega
      repeat' (first
        | refine aw_seq ?_
        | ((first | refine aw_run [] ?_ | refine aw_ymix [] draws (by decide +kernel) ?_); try simp -implicitDefEqProofs (maxSteps := 1000000) [rdc, w1, p1, p2, hlt, hlti])
        | ((first | refine aw_zrun [] [] draws (by decide +kernel) (by decide +kernel) ?_ | refine zl_skip (by simp) rfl ?_); try simp -implicitDefEqProofs (maxSteps := 1000000) [rdc, w1, p1, p2, hlt, hlti]; repeat first | refine zcurL (by decide +kernel) ?_ | refine zcurH (by decide +kernel) ?_ | refine zcurL' (by decide +kernel) ?_ | refine zcurH' (by decide +kernel) ?_)
        | ((first | refine aw_yrun draws (by kernel_rfl) ?_ | refine awl_skip' [] rfl ?_ | refine yl_skip rfl ?_ | refine aw_skip ?_ | refine aw_exit ?_); try simp -implicitDefEqProofs (maxSteps := 1000000) [rdc, w1, p1, p2, hlt, hlti])
        | (refine aw_cond rfl (fun h => ?_) (fun h => ?_) <;> try (with_reducible first | exact ff_tt h | exact tt_ff h))
        | refine aw_block ?_
        | refine aw_ret (ret_of (.inr rfl) (by simp [Try.results130]; rfl) (Fin.of ?_))
        | refine ret_of (.inl rfl) (by simp [Try.results130]; rfl) (Fin.of ?_))
      refine ⟨?_, rfl⟩
      simp [tupOf, markP, isMark, hlt]
set_option maxHeartbeats 4000000 in
set_option maxRecDepth 100000 in
theorem rfail5_ok (ts : List (Tok × Nat)) (en : Nat) (s : RS) (h1 : s.at_ ≤ ts.length) (h2 : ts.length ≤ 100000) :
    BK Try.prog 67 [.ptr 0 0] (rdc ts en s) (.tup []) (rdc ts en (failS ts en s)) := by
  obtain ⟨i, fl, wh⟩ := s
  have h1 : i ≤ ts.length := h1
  refine ⟨?_, rdc_cl _ _ _, rdc_cl _ _ _, by first | exact .p _ | exact .tup _ (by simp)⟩
  unfold rdc
  refine bc_of Try.func67 Try.ntmps67 rfl ?_
  simp only [List.length_cons, List.length_nil, List.cons_append, List.nil_append, List.replicate]
  cases fl with
  | true =>
    repeat' (first
      | refine aw_seq ?_
      | ((first | refine aw_run [] ?_ | refine aw_ymix [] draws (by decide +kernel) ?_); try simp -implicitDefEqProofs (maxSteps := 1000000) [rdc])
      | ((first | refine aw_zrun [] [] draws (by decide +kernel) (by decide +kernel) ?_ | refine zl_skip (by simp) rfl ?_); try simp -implicitDefEqProofs (maxSteps := 1000000) [rdc]; repeat first | refine zcurL (by decide +kernel) ?_ | refine zcurH (by decide +kernel) ?_ | refine zcurL' (by decide +kernel) ?_ | refine zcurH' (by decide +kernel) ?_)
      | ((first | refine aw_yrun draws (by kernel_rfl) ?_ | refine awl_skip' [] rfl ?_ | refine yl_skip rfl ?_ | refine aw_skip ?_ | refine aw_exit ?_); try simp -implicitDefEqProofs (maxSteps := 1000000) [rdc])
      | (refine aw_cond rfl (fun h => ?_) (fun h => ?_) <;> try (with_reducible first | exact ff_tt h | exact tt_ff h))
      | refine aw_block ?_
      | refine aw_ret (ret_of (.inr rfl) (by simp [Try.results67]; rfl) (Fin.of ?_))
      | refine ret_of (.inl rfl) (by simp [Try.results67]; rfl) (Fin.of ?_))
    all_goals exact ⟨rfl, rfl⟩
  | false =>
    by_cases hlt : i < ts.length
    · obtain ⟨q, hq⟩ : ∃ q, ts[i] = q := ⟨_, rfl⟩
      have hlti : (i : Int) < ts.length := by omega
      repeat' (first
        | refine aw_seq ?_
        | ((first | refine aw_run [] ?_ | refine aw_ymix [] draws (by decide +kernel) ?_); try simp -implicitDefEqProofs (maxSteps := 1000000) [rdc, hlt, hlti, hq, tokA, Tok.av])
        | ((first | refine aw_zrun [] [] draws (by decide +kernel) (by decide +kernel) ?_ | refine zl_skip (by simp) rfl ?_); try simp -implicitDefEqProofs (maxSteps := 1000000) [rdc, hlt, hlti, hq, tokA, Tok.av]; repeat first | refine zcurL (by decide +kernel) ?_ | refine zcurH (by decide +kernel) ?_ | refine zcurL' (by decide +kernel) ?_ | refine zcurH' (by decide +kernel) ?_)
        | ((first | refine aw_yrun draws (by kernel_rfl) ?_ | refine awl_skip' [] rfl ?_ | refine yl_skip rfl ?_ | refine aw_skip ?_ | refine aw_exit ?_); try simp -implicitDefEqProofs (maxSteps := 1000000) [rdc, hlt, hlti, hq, tokA, Tok.av])
        | (refine aw_cond rfl (fun h => ?_) (fun h => ?_) <;> try (with_reducible first | exact ff_tt h | exact tt_ff h))
        | refine aw_block ?_
        | refine aw_ret (ret_of (.inr rfl) (by simp [Try.results67]; rfl) (Fin.of ?_))
        | refine ret_of (.inl rfl) (by simp [Try.results67]; rfl) (Fin.of ?_))
      simp [tupOf, failS, hlt, hq]
    · have hlti : ¬ (i : Int) < ts.length := by omega
      repeat' (first
        | refine aw_seq ?_
        | ((first | refine aw_run [] ?_ | refine aw_ymix [] draws (by decide +kernel) ?_); try simp -implicitDefEqProofs (maxSteps := 1000000) [rdc, hlt, hlti])
        | ((first | refine aw_zrun [] [] draws (by decide +kernel) (by decide +kernel) ?_ | refine zl_skip (by simp) rfl ?_); try simp -implicitDefEqProofs (maxSteps := 1000000) [rdc, hlt, hlti]; repeat first | refine zcurL (by decide +kernel) ?_ | refine zcurH (by decide +kernel) ?_ | refine zcurL' (by decide +kernel) ?_ | refine zcurH' (by decide +kernel) ?_)
        | ((first | refine aw_yrun draws (by kernel_rfl) ?_ | refine awl_skip' [] rfl ?_ | refine yl_skip rfl ?_ | refine aw_skip ?_ | refine aw_exit ?_); try simp -implicitDefEqProofs (maxSteps := 1000000) [rdc, hlt, hlti])
        | (refine aw_cond rfl (fun h => ?_) (fun h => ?_) <;> try (with_reducible first | exact ff_tt h | exact tt_ff h))
        | refine aw_block ?_
        | refine aw_ret (ret_of (.inr rfl) (by simp [Try.results67]; rfl) (Fin.of ?_))
        | refine ret_of (.inl rfl) (by simp [Try.results67]; rfl) (Fin.of ?_))
      simp [tupOf, failS, hlt]
theorem markP_lt {ts : List (Tok × Nat)} {s : RS} {m : ByteArray} (h : markP ts s 0 m = true) : s.at_ < ts.length := by
  unfold markP isMark at h
  simp only [Bool.and_eq_true, Nat.add_zero] at h
  cases hq : ts[s.at_]? with
  | none => rw [hq] at h; simp at h
  | some q => exact (List.getElem?_eq_some_iff.1 hq).1
set_option maxHeartbeats 4000000 in
set_option maxRecDepth 100000 in
theorem rmust5_ok (ts : List (Tok × Nat)) (en : Nat) (s : RS) (m : ByteArray) (h1 : s.at_ ≤ ts.length) (h2 : ts.length ≤ 100000) :
    BK Try.prog 160 [.ptr 0 0, vs m] (rdc ts en s) (.tup []) (rdc ts en (mustS ts en s m)) := by
  have hm : BK Try.prog 130 [.ptr 0 0, vi 0, vs m] (rdc ts en s) (vb (markP ts s 0 m)) (rdc ts en s) := rmark5_ok ts en s 0 m h1 h2 (by omega)
  have hf := rfail5_ok ts en s h1 h2
  have hlt := markP_lt (ts := ts) (s := s) (m := m)
  refine ⟨?_, rdc_cl _ _ _, rdc_cl _ _ _, .tup _ (by simp)⟩
  unfold mustS
  cases hb : markP ts s 0 m with
  | true =>
    rw [hb] at hm
    have hlt := hlt hb
    have w1 : IntKind.i64.wrap ((s.at_ : Int) + 1) = (s.at_ : Int) + 1 := wrap_id (by omega) (by omega)
    refine bc_of Try.func160 Try.ntmps160 rfl ?_
    simp only [List.length_cons, List.length_nil, List.cons_append, List.nil_append, List.replicate]
    unfold rdc at hm ⊢
    repeat' (first
      | refine aw_seq ?_
      | (refine aw_run [] ?_; try simp -implicitDefEqProofs (maxSteps := 1000000) [w1])
      | ((first | refine awl_skip' [] rfl ?_ | refine aw_skip ?_ | refine aw_exit ?_); try simp -implicitDefEqProofs (maxSteps := 1000000) [w1])
      | (refine awl_boxK [] rfl rfl rfl (by first | assumption | kernel_rfl) (hm) rfl (by repeat (first | exact .nil | refine .cons (.ptr _) ?_ | refine .cons (.cl (by simp)) ?_)) ?_ ?_ ?_ ?_; (iterate 3 (focus (simp [σ0]; done))); simp -implicitDefEqProofs (maxSteps := 1000000) [w1])
      | (refine aw_cond rfl (fun h => ?_) (fun h => ?_) <;> try (with_reducible first | exact ff_tt h | exact tt_ff h))
      | refine aw_block ?_
      | refine aw_ret (ret_of (.inr rfl) (by simp [Try.results160]; rfl) (Fin.of ?_))
      | refine ret_of (.inl rfl) (by simp [Try.results160]; rfl) (Fin.of ?_))
    simp [tupOf, RS.next]
  | false =>
    rw [hb] at hm
    refine bc_of Try.func160 Try.ntmps160 rfl ?_
    simp only [List.length_cons, List.length_nil, List.cons_append, List.nil_append, List.replicate]
    repeat' (first
      | refine aw_seq ?_
      | (refine aw_run [] ?_; try simp -implicitDefEqProofs (maxSteps := 1000000))
      | ((first | refine awl_skip' [] rfl ?_ | refine aw_skip ?_ | refine aw_exit ?_); try simp -implicitDefEqProofs (maxSteps := 1000000))
      | (refine awl_boxK [] rfl rfl rfl (by first | assumption | kernel_rfl) (hm) rfl (by repeat (first | exact .nil | refine .cons (.ptr _) ?_ | refine .cons (.cl (by simp)) ?_)) ?_ ?_ ?_ ?_; (iterate 3 (focus (simp [σ0]; done))); simp -implicitDefEqProofs (maxSteps := 1000000))
      | (refine awl_boxK [] rfl rfl rfl (by first | assumption | kernel_rfl) (hf) rfl (by repeat (first | exact .nil | refine .cons (.ptr _) ?_ | refine .cons (.cl (by simp)) ?_)) ?_ ?_ ?_ ?_; (iterate 3 (focus (simp [σ0]; done))); simp -implicitDefEqProofs (maxSteps := 1000000))
      | (refine aw_cond rfl (fun h => ?_) (fun h => ?_) <;> try (with_reducible first | exact ff_tt h | exact tt_ff h))
      | refine aw_block ?_
      | refine aw_ret (ret_of (.inr rfl) (by simp [Try.results160]; rfl) (Fin.of ?_))
      | refine ret_of (.inl rfl) (by simp [Try.results160]; rfl) (Fin.of ?_))
    simp [tupOf]
set_option maxHeartbeats 4000000 in
set_option maxRecDepth 100000 in
theorem rlevel_of (t : ByteArray) : APure Try.prog 81 [vs t] (vi (lvl t)) := by
  refine apure_of Try.func81 Try.ntmps81 rfl ?_
  simp only [List.length_cons, List.length_nil, List.cons_append, List.nil_append, List.replicate]
  repeat' (first
    | refine aw_seq ?_
    | (refine aw_run [] ?_; try simp -implicitDefEqProofs (maxSteps := 1000000))
    | ((first | refine awl_skip' [] rfl ?_ | refine aw_skip ?_ | refine aw_exit ?_); try simp -implicitDefEqProofs (maxSteps := 1000000))
    | (refine aw_cond rfl (fun h => ?_) (fun h => ?_) <;> try (with_reducible first | exact ff_tt h | exact tt_ff h))
    | refine aw_block ?_
    | refine aw_ret (ret_of (.inr rfl) (by simp [Try.results81]; rfl) (Fin.of ?_))
    | refine ret_of (.inl rfl) (by simp [Try.results81]; rfl) (Fin.of ?_))
  all_goals simp_all [tupOf, lvl]
end Go.AL
/-! Contracts: gridironref05.Reader's level, end. -/
namespace Go.AL
open Go.Proofs
set_option linter.unusedSimpArgs false
set_option linter.unusedVariables false
set_option maxHeartbeats 4000000 in
set_option maxRecDepth 100000 in
theorem rlevel5_ok (ts : List (Tok × Nat)) (en : Nat) (s : RS) (h1 : s.at_ ≤ ts.length) (h2 : ts.length ≤ 100000) :
    BK Try.prog 96 [.ptr 0 0] (rdc ts en s) (vi (levelP ts s)) (rdc ts en s) := by
  obtain ⟨i, fl, wh⟩ := s
  have h1 : i ≤ ts.length := h1
  refine ⟨?_, rdc_cl _ _ _, rdc_cl _ _ _, .p _⟩
  unfold rdc
  refine bc_of Try.func96 Try.ntmps96 rfl ?_
  simp only [List.length_cons, List.length_nil, List.cons_append, List.nil_append, List.replicate]
  by_cases hlt : i < ts.length
  · obtain ⟨q, hq⟩ : ∃ q, ts[i] = q := ⟨_, rfl⟩
    have hlti : ¬ (ts.length : Int) ≤ i := by omega
    cases fl with
    | true =>
      repeat' (first
        | refine aw_seq ?_
        | ((first | refine aw_run [] ?_ | refine aw_ymix [] draws (by decide +kernel) ?_); try simp -implicitDefEqProofs (maxSteps := 1000000) [hlt, hlti, hq, tokA, Tok.av])
        | ((first | refine aw_zrun [] [] draws (by decide +kernel) (by decide +kernel) ?_ | refine zl_skip (by simp) rfl ?_); try simp -implicitDefEqProofs (maxSteps := 1000000) [hlt, hlti, hq, tokA, Tok.av]; repeat first | refine zcurL (by decide +kernel) ?_ | refine zcurH (by decide +kernel) ?_ | refine zcurL' (by decide +kernel) ?_ | refine zcurH' (by decide +kernel) ?_)
        | ((first | refine aw_yrun draws (by kernel_rfl) ?_ | refine awl_skip' [] rfl ?_ | refine yl_skip rfl ?_ | refine aw_skip ?_ | refine aw_exit ?_); try simp -implicitDefEqProofs (maxSteps := 1000000) [hlt, hlti, hq, tokA, Tok.av])
        | (refine aw_cond rfl (fun h => ?_) (fun h => ?_) <;> try (with_reducible first | exact ff_tt h | exact tt_ff h))
        | refine aw_block ?_
        | refine aw_ret (ret_of (.inr rfl) (by simp [Try.results96]; rfl) (Fin.of ?_))
        | refine ret_of (.inl rfl) (by simp [Try.results96]; rfl) (Fin.of ?_))
      simp [tupOf, levelP]
    | false =>
      by_cases hk : q.1.k = 5
      · have hl := rlevel_of q.1.t
        repeat' (first
          | refine aw_seq ?_
          | ((first | refine aw_run [] ?_ | refine aw_ymix [] draws (by decide +kernel) ?_); try simp -implicitDefEqProofs (maxSteps := 1000000) [hlt, hlti, hq, tokA, Tok.av, hk])
          | ((first | refine aw_zrun [] [] draws (by decide +kernel) (by decide +kernel) ?_ | refine zl_skip (by simp) rfl ?_ | refine zl_pure_guard (by simp) rfl rfl rfl (by first | assumption | kernel_rfl) rfl (fun hc => by first | exact hl) (by simp) (by simp) (by simp) ?_ | refine zl_pure (by simp) rfl rfl rfl (by first | assumption | kernel_rfl) rfl (by first | exact hl) (by simp) (by simp) ?_); try simp -implicitDefEqProofs (maxSteps := 1000000) [hlt, hlti, hq, tokA, Tok.av, hk]; repeat first | refine zcurL (by decide +kernel) ?_ | refine zcurH (by decide +kernel) ?_ | refine zcurL' (by decide +kernel) ?_ | refine zcurH' (by decide +kernel) ?_)
          | ((first | refine aw_yrun draws (by kernel_rfl) ?_ | refine awl_skip' [] rfl ?_ | refine yl_skip rfl ?_ | refine awl_pure_guard [] rfl rfl rfl (by first | assumption | kernel_rfl) rfl (fun hc => by first | exact hl) (by simp) (by simp) (by simp) ?_ | refine yl_pureG rfl rfl rfl (by first | assumption | kernel_rfl) rfl (fun hc => by first | exact hl) (by simp) (by simp) (by simp) ?_ | refine awl_pure' [] rfl rfl rfl (by first | assumption | kernel_rfl) rfl (by first | exact hl) (by simp) (by simp) ?_ | refine yl_pure rfl rfl rfl (by first | assumption | kernel_rfl) rfl (by first | exact hl) (by simp) (by simp) ?_ | refine aw_skip ?_ | refine aw_exit ?_); try simp -implicitDefEqProofs (maxSteps := 1000000) [hlt, hlti, hq, tokA, Tok.av, hk])
          | (refine aw_cond rfl (fun h => ?_) (fun h => ?_) <;> try (with_reducible first | exact ff_tt h | exact tt_ff h))
          | refine aw_block ?_
          | refine aw_ret (ret_of (.inr rfl) (by simp [Try.results96]; rfl) (Fin.of ?_))
          | refine ret_of (.inl rfl) (by simp [Try.results96]; rfl) (Fin.of ?_))
        simp [tupOf, levelP, hlt, hq, hk]
      · repeat' (first
          | refine aw_seq ?_
          | ((first | refine aw_run [] ?_ | refine aw_ymix [] draws (by decide +kernel) ?_); try simp -implicitDefEqProofs (maxSteps := 1000000) [hlt, hlti, hq, tokA, Tok.av, hk])
          | ((first | refine aw_zrun [] [] draws (by decide +kernel) (by decide +kernel) ?_ | refine zl_skip (by simp) rfl ?_); try simp -implicitDefEqProofs (maxSteps := 1000000) [hlt, hlti, hq, tokA, Tok.av, hk]; repeat first | refine zcurL (by decide +kernel) ?_ | refine zcurH (by decide +kernel) ?_ | refine zcurL' (by decide +kernel) ?_ | refine zcurH' (by decide +kernel) ?_)
          | ((first | refine aw_yrun draws (by kernel_rfl) ?_ | refine awl_skip' [] rfl ?_ | refine yl_skip rfl ?_ | refine aw_skip ?_ | refine aw_exit ?_); try simp -implicitDefEqProofs (maxSteps := 1000000) [hlt, hlti, hq, tokA, Tok.av, hk])
          | (refine aw_cond rfl (fun h => ?_) (fun h => ?_) <;> try (with_reducible first | exact ff_tt h | exact tt_ff h))
          | refine aw_block ?_
          | refine aw_ret (ret_of (.inr rfl) (by simp [Try.results96]; rfl) (Fin.of ?_))
          | refine ret_of (.inl rfl) (by simp [Try.results96]; rfl) (Fin.of ?_))
        simp [tupOf, levelP, hlt, hq, hk]
  · have hlti : (ts.length : Int) ≤ i := by omega
    cases fl with
    | true =>
      repeat' (first
        | refine aw_seq ?_
        | ((first | refine aw_run [] ?_ | refine aw_ymix [] draws (by decide +kernel) ?_); try simp -implicitDefEqProofs (maxSteps := 1000000) [hlt, hlti])
        | ((first | refine aw_zrun [] [] draws (by decide +kernel) (by decide +kernel) ?_ | refine zl_skip (by simp) rfl ?_); try simp -implicitDefEqProofs (maxSteps := 1000000) [hlt, hlti]; repeat first | refine zcurL (by decide +kernel) ?_ | refine zcurH (by decide +kernel) ?_ | refine zcurL' (by decide +kernel) ?_ | refine zcurH' (by decide +kernel) ?_)
        | ((first | refine aw_yrun draws (by kernel_rfl) ?_ | refine awl_skip' [] rfl ?_ | refine yl_skip rfl ?_ | refine aw_skip ?_ | refine aw_exit ?_); try simp -implicitDefEqProofs (maxSteps := 1000000) [hlt, hlti])
        | (refine aw_cond rfl (fun h => ?_) (fun h => ?_) <;> try (with_reducible first | exact ff_tt h | exact tt_ff h))
        | refine aw_block ?_
        | refine aw_ret (ret_of (.inr rfl) (by simp [Try.results96]; rfl) (Fin.of ?_))
        | refine ret_of (.inl rfl) (by simp [Try.results96]; rfl) (Fin.of ?_))
      simp [tupOf, levelP]
    | false =>
      repeat' (first
        | refine aw_seq ?_
        | ((first | refine aw_run [] ?_ | refine aw_ymix [] draws (by decide +kernel) ?_); try simp -implicitDefEqProofs (maxSteps := 1000000) [hlt, hlti])
        | ((first | refine aw_zrun [] [] draws (by decide +kernel) (by decide +kernel) ?_ | refine zl_skip (by simp) rfl ?_); try simp -implicitDefEqProofs (maxSteps := 1000000) [hlt, hlti]; repeat first | refine zcurL (by decide +kernel) ?_ | refine zcurH (by decide +kernel) ?_ | refine zcurL' (by decide +kernel) ?_ | refine zcurH' (by decide +kernel) ?_)
        | ((first | refine aw_yrun draws (by kernel_rfl) ?_ | refine awl_skip' [] rfl ?_ | refine yl_skip rfl ?_ | refine aw_skip ?_ | refine aw_exit ?_); try simp -implicitDefEqProofs (maxSteps := 1000000) [hlt, hlti])
        | (refine aw_cond rfl (fun h => ?_) (fun h => ?_) <;> try (with_reducible first | exact ff_tt h | exact tt_ff h))
        | refine aw_block ?_
        | refine aw_ret (ret_of (.inr rfl) (by simp [Try.results96]; rfl) (Fin.of ?_))
        | refine ret_of (.inl rfl) (by simp [Try.results96]; rfl) (Fin.of ?_))
      simp [tupOf, levelP, hlt]
set_option maxHeartbeats 4000000 in
set_option maxRecDepth 100000 in
theorem rend5_ok (ts : List (Tok × Nat)) (en : Nat) (s : RS) (h1 : s.at_ ≤ ts.length) (h2 : ts.length ≤ 100000) :
    BK Try.prog 171 [.ptr 0 0] (rdc ts en s) (vb (endP ts s)) (rdc ts en s) := by
  obtain ⟨i, fl, wh⟩ := s
  have h1 : i ≤ ts.length := h1
  refine ⟨?_, rdc_cl _ _ _, rdc_cl _ _ _, .p _⟩
  unfold rdc
  refine bc_of Try.func171 Try.ntmps171 rfl ?_
  simp only [List.length_cons, List.length_nil, List.cons_append, List.nil_append, List.replicate]
  by_cases hlt : i < ts.length
  · obtain ⟨q, hq⟩ : ∃ q, ts[i] = q := ⟨_, rfl⟩
    have hlti : (i : Int) < ts.length := by omega
    cases fl with
    | true =>
      repeat' (first
        | refine aw_seq ?_
        | ((first | refine aw_run [] ?_ | refine aw_ymix [] draws (by decide +kernel) ?_); try simp -implicitDefEqProofs (maxSteps := 1000000) [hlt, hlti, hq, tokA, Tok.av])
        | ((first | refine aw_zrun [] [] draws (by decide +kernel) (by decide +kernel) ?_ | refine zl_skip (by simp) rfl ?_); try simp -implicitDefEqProofs (maxSteps := 1000000) [hlt, hlti, hq, tokA, Tok.av]; repeat first | refine zcurL (by decide +kernel) ?_ | refine zcurH (by decide +kernel) ?_ | refine zcurL' (by decide +kernel) ?_ | refine zcurH' (by decide +kernel) ?_)
        | ((first | refine aw_yrun draws (by kernel_rfl) ?_ | refine awl_skip' [] rfl ?_ | refine yl_skip rfl ?_ | refine aw_skip ?_ | refine aw_exit ?_); try simp -implicitDefEqProofs (maxSteps := 1000000) [hlt, hlti, hq, tokA, Tok.av])
        | (refine aw_cond rfl (fun h => ?_) (fun h => ?_) <;> try (with_reducible first | exact ff_tt h | exact tt_ff h))
        | refine aw_block ?_
        | refine aw_ret (ret_of (.inr rfl) (by simp [Try.results171]; rfl) (Fin.of ?_))
        | refine ret_of (.inl rfl) (by simp [Try.results171]; rfl) (Fin.of ?_))
      simp [tupOf, endP]
    | false =>
      by_cases hk : q.1.k = 2
      · repeat' (first
          | refine aw_seq ?_
          | ((first | refine aw_run [] ?_ | refine aw_ymix [] draws (by decide +kernel) ?_); try simp -implicitDefEqProofs (maxSteps := 1000000) [hlt, hlti, hq, tokA, Tok.av, hk])
          | ((first | refine aw_zrun [] [] draws (by decide +kernel) (by decide +kernel) ?_ | refine zl_skip (by simp) rfl ?_); try simp -implicitDefEqProofs (maxSteps := 1000000) [hlt, hlti, hq, tokA, Tok.av, hk]; repeat first | refine zcurL (by decide +kernel) ?_ | refine zcurH (by decide +kernel) ?_ | refine zcurL' (by decide +kernel) ?_ | refine zcurH' (by decide +kernel) ?_)
          | ((first | refine aw_yrun draws (by kernel_rfl) ?_ | refine awl_skip' [] rfl ?_ | refine yl_skip rfl ?_ | refine aw_skip ?_ | refine aw_exit ?_); try simp -implicitDefEqProofs (maxSteps := 1000000) [hlt, hlti, hq, tokA, Tok.av, hk])
          | (refine aw_cond rfl (fun h => ?_) (fun h => ?_) <;> try (with_reducible first | exact ff_tt h | exact tt_ff h))
          | refine aw_block ?_
          | refine aw_ret (ret_of (.inr rfl) (by simp [Try.results171]; rfl) (Fin.of ?_))
          | refine ret_of (.inl rfl) (by simp [Try.results171]; rfl) (Fin.of ?_))
        simp [tupOf, endP, hlt, hq, hk]
      · repeat' (first
          | refine aw_seq ?_
          | ((first | refine aw_run [] ?_ | refine aw_ymix [] draws (by decide +kernel) ?_); try simp -implicitDefEqProofs (maxSteps := 1000000) [hlt, hlti, hq, tokA, Tok.av, hk])
          | ((first | refine aw_zrun [] [] draws (by decide +kernel) (by decide +kernel) ?_ | refine zl_skip (by simp) rfl ?_); try simp -implicitDefEqProofs (maxSteps := 1000000) [hlt, hlti, hq, tokA, Tok.av, hk]; repeat first | refine zcurL (by decide +kernel) ?_ | refine zcurH (by decide +kernel) ?_ | refine zcurL' (by decide +kernel) ?_ | refine zcurH' (by decide +kernel) ?_)
          | ((first | refine aw_yrun draws (by kernel_rfl) ?_ | refine awl_skip' [] rfl ?_ | refine yl_skip rfl ?_ | refine aw_skip ?_ | refine aw_exit ?_); try simp -implicitDefEqProofs (maxSteps := 1000000) [hlt, hlti, hq, tokA, Tok.av, hk])
          | (refine aw_cond rfl (fun h => ?_) (fun h => ?_) <;> try (with_reducible first | exact ff_tt h | exact tt_ff h))
          | refine aw_block ?_
          | refine aw_ret (ret_of (.inr rfl) (by simp [Try.results171]; rfl) (Fin.of ?_))
          | refine ret_of (.inl rfl) (by simp [Try.results171]; rfl) (Fin.of ?_))
        simp [tupOf, endP, hlt, hq, hk]
  · have hlti : ¬ (i : Int) < ts.length := by omega
    cases fl with
    | true =>
      repeat' (first
        | refine aw_seq ?_
        | ((first | refine aw_run [] ?_ | refine aw_ymix [] draws (by decide +kernel) ?_); try simp -implicitDefEqProofs (maxSteps := 1000000) [hlt, hlti])
        | ((first | refine aw_zrun [] [] draws (by decide +kernel) (by decide +kernel) ?_ | refine zl_skip (by simp) rfl ?_); try simp -implicitDefEqProofs (maxSteps := 1000000) [hlt, hlti]; repeat first | refine zcurL (by decide +kernel) ?_ | refine zcurH (by decide +kernel) ?_ | refine zcurL' (by decide +kernel) ?_ | refine zcurH' (by decide +kernel) ?_)
        | ((first | refine aw_yrun draws (by kernel_rfl) ?_ | refine awl_skip' [] rfl ?_ | refine yl_skip rfl ?_ | refine aw_skip ?_ | refine aw_exit ?_); try simp -implicitDefEqProofs (maxSteps := 1000000) [hlt, hlti])
        | (refine aw_cond rfl (fun h => ?_) (fun h => ?_) <;> try (with_reducible first | exact ff_tt h | exact tt_ff h))
        | refine aw_block ?_
        | refine aw_ret (ret_of (.inr rfl) (by simp [Try.results171]; rfl) (Fin.of ?_))
        | refine ret_of (.inl rfl) (by simp [Try.results171]; rfl) (Fin.of ?_))
      simp [tupOf, endP]
    | false =>
      repeat' (first
        | refine aw_seq ?_
        | ((first | refine aw_run [] ?_ | refine aw_ymix [] draws (by decide +kernel) ?_); try simp -implicitDefEqProofs (maxSteps := 1000000) [hlt, hlti])
        | ((first | refine aw_zrun [] [] draws (by decide +kernel) (by decide +kernel) ?_ | refine zl_skip (by simp) rfl ?_); try simp -implicitDefEqProofs (maxSteps := 1000000) [hlt, hlti]; repeat first | refine zcurL (by decide +kernel) ?_ | refine zcurH (by decide +kernel) ?_ | refine zcurL' (by decide +kernel) ?_ | refine zcurH' (by decide +kernel) ?_)
        | ((first | refine aw_yrun draws (by kernel_rfl) ?_ | refine awl_skip' [] rfl ?_ | refine yl_skip rfl ?_ | refine aw_skip ?_ | refine aw_exit ?_); try simp -implicitDefEqProofs (maxSteps := 1000000) [hlt, hlti])
        | (refine aw_cond rfl (fun h => ?_) (fun h => ?_) <;> try (with_reducible first | exact ff_tt h | exact tt_ff h))
        | refine aw_block ?_
        | refine aw_ret (ret_of (.inr rfl) (by simp [Try.results171]; rfl) (Fin.of ?_))
        | refine ret_of (.inl rfl) (by simp [Try.results171]; rfl) (Fin.of ?_))
      simp [tupOf, endP, hlt]
end Go.AL
