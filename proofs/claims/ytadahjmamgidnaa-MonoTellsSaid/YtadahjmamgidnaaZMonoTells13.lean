/- Parts of the proof of MonoTells: the logic, contracts, plain laws. -/
import Derived.Test.YtadahjmamgidnaaZMonoTells12
import Derived.Test.YtadahjmamgidnaaZMonoTells11
/-! A call by a contract over some of what is known, which hands back what is closed, and leaves what is closed. -/
namespace Go.AL
open Go.RowKit (Below)
set_option linter.unusedVariables false
set_option linter.unusedSimpArgs false
variable {P : Program} {σ : ASt}
/-- What is known behind such a call. -/
def back0 (σ : ASt) (ids : List Nat) (τ : ASt) : ASt where
  bx b := match rfind b ids 0 with | some i => τ.bx i | none => σ.bx b
  mp b := match rfind b ids 0 with | some i => τ.mp i | none => σ.mp b
  sl b := match rfind b ids 0 with | some i => τ.sl i | none => σ.sl b
  next := σ.next
theorem ACall.frame0 {f : FuncId} {args : List AV} {σc : ASt} {R : AV → ASt → Prop} (ids : List Nat) (hk : σc.next = ids.length) (hok : σc.Ok) (hlt : ∀ b ∈ ids, b < σ.next) (hnd : ids.Nodup)
    (hb : ∀ i cs, σc.bx i = some cs → σ.bx (ridx ids σ.next i) = some (rens (ridx ids σ.next) cs)) (hm : ∀ i es, σc.mp i = some es → σ.mp (ridx ids σ.next i) = some (es.map (renE (ridx ids σ.next))))
    (hs : ∀ i xs, σc.sl i = some xs → σ.sl (ridx ids σ.next i) = some (rens (ridx ids σ.next) xs)) (h : ACall P f args σc R)
    (hcl : ∀ r τ, R r τ → Cl r ∧ (∀ i cs, τ.bx i = some cs → i < ids.length → ∀ c ∈ cs, Cl c) ∧ (∀ i es, τ.mp i = some es → i < ids.length → ∀ p ∈ es, Cl p.1 ∧ Cl p.2) ∧ (∀ i xs, τ.sl i = some xs → i < ids.length → ∀ c ∈ xs, Cl c)) :
    ACall P f (rens (ridx ids σ.next) args) σ fun r σ' => ∃ τ, R r τ ∧ σ' = back0 σ ids τ := by
  intro G w vs hv hw
  obtain ⟨ρ, hρ⟩ : ∃ ρ, ρ = ridx ids σ.next := ⟨_, rfl⟩
  rw [← hρ] at hb hm hs hv
  have hri : ∀ i, rinv ids σ.next (ρ i) = some i := fun i => by rw [hρ]; exact ridx_rinv hlt hnd i
  have hir : ∀ {b i}, rinv ids σ.next b = some i → ρ i = b := fun h => by rw [hρ]; exact rinv_ridx h
  have hinj : ∀ i j, ρ i = ρ j → i = j := fun i j e => by have h1 := hri i; rw [e, hri j] at h1; exact (Option.some.inj h1).symm
  have hge : ∀ i, ids.length ≤ i → σ.next ≤ ρ i := fun i hi => by rw [hρ]; unfold ridx; rw [if_neg (by omega)]; omega
  have hids : ∀ i, i < ids.length → ρ i ∈ ids := fun i hi => by
    rw [hρ]; unfold ridx; rw [if_pos hi, List.getD, List.getElem?_eq_getElem hi]; exact List.getElem_mem hi
  obtain ⟨q, hq⟩ : ∃ q : Nat → Prop, q = fun β => ∃ kk, Owns G σ β kk ∧ kk.2 ∉ ids := ⟨_, rfl⟩
  obtain ⟨Gc, hGc⟩ : ∃ Gc : Ghost, Gc = ⟨G.base, fun β o => G.st β o ∨ (q β ∧ w.cell? ⟨β, o, none⟩ = none ∧ o ≠ 0), fun i => G.bx (ρ i), fun i => G.mp (ρ i), fun i => G.sl (ρ i)⟩ := ⟨_, rfl⟩
  have cbx : ∀ i, Gc.bx i = G.bx (ρ i) := fun i => by rw [hGc]
  have cmp : ∀ i, Gc.mp i = G.mp (ρ i) := fun i => by rw [hGc]
  have csl : ∀ i, Gc.sl i = G.sl (ρ i) := fun i => by rw [hGc]
  have cst : ∀ β o, Gc.st β o ↔ G.st β o ∨ (q β ∧ w.cell? ⟨β, o, none⟩ = none ∧ o ≠ 0) := fun β o => by rw [hGc]
  have cbase : Gc.base = G.base := by rw [hGc]
  have of : ∀ {x v}, Rep G w (ren ρ x) v → Rep Gc w x v := fun {x v} hr => Rep.ren_of cbx cmp csl (fun β o e => (cst β o).2 (.inl e)) _ x (Nat.le_refl _) v hr
  have ownc : ∀ β kk, Owns Gc σc β kk → Owns G σ β (kk.1, ρ kk.2) ∧ kk.2 < ids.length := by
    intro β kk ho
    cases ho with
    | bx i β cs h1 h2 =>
      refine ⟨.bx _ _ _ (hb i cs h1) ((cbx i).symm.trans h2), ?_⟩
      rcases Nat.lt_or_ge i ids.length with hl | hl
      · exact hl
      · have := hok.bx i (by omega); rw [this] at h1; cases h1
    | mp i β cs h1 h2 =>
      refine ⟨.mp _ _ _ (hm i cs h1) ((cmp i).symm.trans h2), ?_⟩
      rcases Nat.lt_or_ge i ids.length with hl | hl
      · exact hl
      · have := hok.mp i (by omega); rw [this] at h1; cases h1
    | sl i β r cs h1 h2 =>
      refine ⟨.sl _ _ r _ (hs i cs h1) ((csl i).symm.trans h2), ?_⟩
      rcases Nat.lt_or_ge i ids.length with hl | hl
      · exact hl
      · have := hok.sl i (by omega); rw [this] at h1; cases h1
  have hwc : SimW Gc σc w := by
    refine ⟨by rw [cbase]; exact hw.base, fun i cs e => ?_, fun i es e => ?_, fun i xs e => ?_, fun β kk ho => ?_, fun β o e => ?_, fun i hi => ?_⟩
    · obtain ⟨β, arr, el, h1, h2, h3, h4⟩ := hw.bx _ _ (hb i cs e)
      rw [rens_len] at h3
      exact ⟨β, arr, el, (cbx i).trans h1, h2, h3, fun j c v hc hv => of (h4 j (ren ρ c) v (by rw [rens_get, hc]; rfl) hv)⟩
    · rcases hw.mp _ _ (hm i es e) with ⟨μ, ents, clock, h1, h2, h3, h4, h5⟩ | ⟨μ, ob, ofr, h1, h2, h3, h4⟩
      · rw [List.length_map] at h3
        refine .inl ⟨μ, ents, clock, (cmp i).trans h1, h2, h3, fun j k x en a b => ?_, h5⟩
        obtain ⟨e1, e2, e3⟩ := h4 j (ren ρ k) (ren ρ x) en (by rw [List.getElem?_map, a]; rfl) b
        exact ⟨of e1, of e2, e3⟩
      · obtain ⟨fr0, h5, h6⟩ := renE_obE h4
        subst h6
        exact .inr ⟨μ, ob, fr0, (cmp i).trans h1, h2, ObR.of (f := ren ρ) (fun x v hr => of hr) (by rw [← rens_map]; exact h3), h5⟩
    · rcases hw.sl _ _ (hs i xs e) with ⟨h1, h2⟩ | ⟨β, o, s, cap, arr, el, h1, h2, h3, h4, h5, h6⟩
      · refine .inl ⟨(csl i).trans h1, ?_⟩
        cases xs with
        | nil => rfl
        | cons => simp [rens] at h2
      · rw [rens_len] at h3
        refine .inr ⟨β, o, s, cap, arr, el, (csl i).trans h1, h2, h3, h4, fun j x hx => ?_, fun j k c v hc hv => of (h6 j k (ren ρ c) v (by rw [ren_rowCell, hc]; rfl) hv)⟩
        have := h5 j (ren ρ x) (by rw [rens_get, hx]; rfl)
        rw [ren_cells, rens_len] at this
        exact this
    · obtain ⟨ho', hi⟩ := ownc β kk ho
      obtain ⟨o1, o2, o3⟩ := hw.own _ _ ho'
      refine ⟨by rw [cbase]; exact o1, fun k' hk' => ?_, fun o e => ?_⟩
      · have := o2 _ (ownc β k' hk').1
        simp only [Prod.mk.injEq] at this
        exact Prod.ext this.1 (hinj _ _ this.2)
      · rcases (cst β o).1 e with e | ⟨e, _⟩
        · exact o3 o e
        · rw [hq] at e
          obtain ⟨k2, ho2, hn⟩ := e
          have := o2 _ ho2
          rw [this] at hn
          exact hn (hids _ hi)
    · rcases (cst β o).1 e with e | ⟨e, _⟩
      · exact hw.stIn β o e
      · rw [hq] at e
        obtain ⟨k2, ho2, _⟩ := e
        exact hw.own_lt ho2
    · have hi' : ids.length ≤ i := by omega
      obtain ⟨f1, f2, f3, f4, f5, f6⟩ := hw.fresh (ρ i) (hge i hi')
      exact ⟨(cbx i).trans f1, (cmp i).trans f2, (csl i).trans f3, hok.bx i hi, hok.mp i hi, hok.sl i hi⟩
  have hvc : RepL Gc w args vs.toList := ⟨by have := hv.1; rw [rens_len] at this; exact this, fun i c v hc hv' => of (hv.2 i (ren ρ c) v (by rw [rens_get, hc]; rfl) hv')⟩
  refine Calls.mono (h Gc w vs hvc hwc) fun e w' he => retOf_mono (fun v w1 ho => ?_) he
  obtain ⟨rc, G1, τ, hl, hw1, hr1, hR⟩ := ho
  have hqst : ∀ β, q β → ∃ o, Gc.st β o := fun β e => by
    obtain ⟨o, ho⟩ := cell_out w β
    exact ⟨o, (cst β o).2 (.inr ⟨e, ho⟩)⟩
  have hqb : ∀ β, q β → w1.heap[β]? = w.heap[β]? := fun β e => by
    obtain ⟨o, ho⟩ := hqst β e; exact hl.cell β o ho
  have hqown : ∀ {β}, q β → ∀ o, ¬ G.st β o := fun {β} e => by
    rw [hq] at e; obtain ⟨k2, ho2, _⟩ := e; exact (hw.own _ _ ho2).2.2
  obtain ⟨hcr, hcb, hcm, hcs⟩ := hcl rc τ hR
  obtain ⟨G2, hG2⟩ : ∃ G2 : Ghost, G2 = ⟨G.base, fun β o => G1.st β o ∧ ¬ q β, fun b => match rfind b ids 0 with | some i => G1.bx i | none => G.bx b, fun b => match rfind b ids 0 with | some i => G1.mp i | none => G.mp b, fun b => match rfind b ids 0 with | some i => G1.sl i | none => G.sl b⟩ := ⟨_, rfl⟩
  have dbase : G2.base = G.base := by rw [hG2]
  have dst : ∀ β o, G2.st β o ↔ G1.st β o ∧ ¬ q β := fun β o => by rw [hG2]
  have dbx : ∀ b, G2.bx b = match rfind b ids 0 with | some i => G1.bx i | none => G.bx b := fun b => by rw [hG2]
  have dmp : ∀ b, G2.mp b = match rfind b ids 0 with | some i => G1.mp i | none => G.mp b := fun b => by rw [hG2]
  have dsl : ∀ b, G2.sl b = match rfind b ids 0 with | some i => G1.sl i | none => G.sl b := fun b => by rw [hG2]
  have hfi : ∀ {b i}, rfind b ids 0 = some i → ρ i = b ∧ i < ids.length := fun {b i} h => by
    obtain ⟨_, h2⟩ := rfind_some h
    simp only [Nat.sub_zero] at h2
    obtain ⟨h3, h4⟩ := List.getElem?_eq_some_iff.1 h2
    refine ⟨?_, h3⟩
    rw [hρ]; unfold ridx; rw [if_pos h3, List.getD, h2]; rfl
  have hl2 : Le G w G2 w1 := by
    refine ⟨dbase, fun b β e => ?_, fun b β e => ?_, fun b r e => ?_, fun β o e => (dst β o).2 ⟨hl.st _ _ ((cst β o).2 (.inl e)), fun hqq => hqown hqq o e⟩, fun β o e => ?_, fun β o e => hl.cell _ _ ((cst β o).2 (.inl e)), ?_⟩
    · rw [dbx]
      cases hi : rfind b ids 0 with
      | none => exact e
      | some i => exact hl.bx _ _ (by rw [cbx, (hfi hi).1]; exact e)
    · rw [dmp]
      cases hi : rfind b ids 0 with
      | none => exact e
      | some i => exact hl.mp _ _ (by rw [cmp, (hfi hi).1]; exact e)
    · rw [dsl]
      cases hi : rfind b ids 0 with
      | none => exact e
      | some i => exact hl.sl _ _ (by rw [csl, (hfi hi).1]; exact e)
    · obtain ⟨e1, e2⟩ := (dst β o).1 e
      rcases hl.st2 β o e1 with e3 | ⟨e3, e4⟩
      · rcases (cst β o).1 e3 with e3 | ⟨e3, _⟩
        · exact .inl e3
        · exact absurd e3 e2
      · rw [cbase] at e3
        exact .inr ⟨e3, fun o' e' => e4 o' ((cst β o').2 (.inl e'))⟩
    · have := hl.below; rw [cbase] at this; exact this
  have to : ∀ {x v}, Cl x → Rep G1 w1 x v → Rep G2 w1 x v := fun {x v} hx hr => by
    have hr' : Rep ⟨G1.base, G1.st, fun _ => none, fun _ => none, fun _ => none⟩ w1 x v := Rep.closed (G := G1) (fun _ _ e => e) hr hx
    have := Rep.ren_to (G := ⟨G1.base, G1.st, fun _ => none, fun _ => none, fun _ => none⟩) (G' := G2) (w := w1) (ρ := id) (fun i β e => by cases e) (fun i β e => by cases e) (fun i r e => by cases e) (fun β o e hue => (dst β o).2 ⟨e, fun hqq => by
      rcases hl.st2 β o e with e3 | ⟨_, e4⟩
      · rcases (cst β o).1 e3 with e3 | ⟨_, e3, e30⟩
        · exact hqown hqq o e3
        · rcases hue with ⟨u, hu⟩ | h0
          · rw [cell_block (hqb β hqq), e3] at hu; cases hu
          · exact e30 h0
      · obtain ⟨o', ho'⟩ := hqst β hqq
        exact e4 o' ho'⟩) hr'
    rwa [ren_closed id hx] at this
  have own2 : ∀ β kk, Owns G2 (back0 σ ids τ) β kk → (∃ i, rfind kk.2 ids 0 = some i ∧ Owns G1 τ β (kk.1, i)) ∨ (rfind kk.2 ids 0 = none ∧ Owns G σ β kk) := by
    intro β kk ho
    cases ho with
    | bx b β cs h1 h2 =>
      rw [dbx] at h2
      simp only [back0] at h1
      cases hi : rfind b ids 0 with
      | none => rw [hi] at h1 h2; exact .inr ⟨rfl, .bx _ _ _ h1 h2⟩
      | some i => rw [hi] at h1 h2; exact .inl ⟨i, rfl, .bx _ _ _ h1 h2⟩
    | mp b β cs h1 h2 =>
      rw [dmp] at h2
      simp only [back0] at h1
      cases hi : rfind b ids 0 with
      | none => rw [hi] at h1 h2; exact .inr ⟨rfl, .mp _ _ _ h1 h2⟩
      | some i => rw [hi] at h1 h2; exact .inl ⟨i, rfl, .mp _ _ _ h1 h2⟩
    | sl b β r cs h1 h2 =>
      rw [dsl] at h2
      simp only [back0] at h1
      cases hi : rfind b ids 0 with
      | none => rw [hi] at h1 h2; exact .inr ⟨rfl, .sl _ _ _ _ h1 h2⟩
      | some i => rw [hi] at h1 h2; exact .inl ⟨i, rfl, .sl _ _ _ _ h1 h2⟩
  have qof : ∀ {β kk}, rfind kk.2 ids 0 = none → Owns G σ β kk → q β := fun {β kk} h1 h2 => by
    rw [hq]; exact ⟨kk, h2, rfind_none h1⟩
  refine ⟨_, G2, back0 σ ids τ, hl2, ?_, to hcr hr1, τ, hR, rfl⟩
  refine ⟨by rw [dbase]; exact hw.base.go hl2.below, fun b cs e => ?_, fun b es e => ?_, fun b xs e => ?_, fun β kk ho => ?_, fun β o e => hw1.stIn β o ((dst β o).1 e).1, fun b hbn => ?_⟩
  · simp only [back0] at e
    cases hi : rfind b ids 0 with
    | none =>
      rw [hi] at e
      exact (hw.bx b cs e).mono hl2 fun β g => hqb β (qof (kk := (0, b)) hi (.bx b β cs e g))
    | some i =>
      rw [hi] at e
      have hci := hcb i cs e (hfi hi).2
      obtain ⟨β, arr, el, h1, h2, h4, h5⟩ := hw1.bx i cs e
      exact ⟨β, arr, el, by rw [dbx, hi]; exact h1, h2, h4, fun j c v hc hv' => to (hci c (List.mem_of_getElem? hc)) (h5 j c v hc hv')⟩
  · simp only [back0] at e
    cases hi : rfind b ids 0 with
    | none =>
      rw [hi] at e
      exact (hw.mp b es e).mono hl2 fun β g => hqb β (qof (kk := (1, b)) hi (.mp b β es e g))
    | some i =>
      rw [hi] at e
      have hci := hcm i es e (hfi hi).2
      rcases hw1.mp i es e with ⟨μ, ents, clock, h1, h2, h4, h5, h6⟩ | ⟨μ, ob, ofr, h1, h2, h3, h4⟩
      · refine .inl ⟨μ, ents, clock, by rw [dmp, hi]; exact h1, h2, h4, fun j k x en a b => ?_, h6⟩
        obtain ⟨e3, e4, e5⟩ := h5 j k x en a b
        have := hci (k, x) (List.mem_of_getElem? a)
        exact ⟨to this.1 e3, to this.2 e4, e5⟩
      · have hcf : ∀ c ∈ ofr, Cl c := by
          have := (hci (noV, .tup [.ob (erO ob), .agg ofr]) (by rw [h4]; exact List.mem_cons_self)).2
          cases this with
          | tup _ h => have := h (.agg ofr) (by simp); cases this with | agg _ h => exact h
        refine .inr ⟨μ, ob, ofr, by rw [dmp, hi]; exact h1, h2, ?_, h4⟩
        have := ObR.to (f := fun x => x) (fun x hx v hr => to (hcf x hx) hr) h3
        simpa using this
  · simp only [back0] at e
    cases hi : rfind b ids 0 with
    | none =>
      rw [hi] at e
      exact (hw.sl b xs e).mono hl2 fun β r g => hqb β (qof (kk := (2, b)) hi (.sl b β r xs e g))
    | some i =>
      rw [hi] at e
      have hci := hcs i xs e (hfi hi).2
      rcases hw1.sl i xs e with ⟨h1, h2⟩ | ⟨β, o, s, cap, arr, el, h1, h2, h4, h5, h6, h7⟩
      · exact .inl ⟨by rw [dsl, hi]; exact h1, h2⟩
      · refine .inr ⟨β, o, s, cap, arr, el, by rw [dsl, hi]; exact h1, h2, h4, h5, h6, fun j k c v hc hv' => to ?_ (h7 j k c v hc hv')⟩
        exact Cl.rowCell hci hc
  · rcases own2 β kk ho with ⟨i, hi, ho1⟩ | ⟨hn, ho1⟩
    · obtain ⟨o1, o2, o3⟩ := hw1.own _ _ ho1
      refine ⟨by rw [dbase, ← cbase, ← hl.base]; exact o1, fun k' hk' => ?_, fun o e => o3 o ((dst β o).1 e).1⟩
      rcases own2 β k' hk' with ⟨j, hj, ho2⟩ | ⟨hn, ho2⟩
      · have := o2 _ ho2
        simp only [Prod.mk.injEq] at this
        refine Prod.ext this.1 ?_
        rw [← (hfi hi).1, ← (hfi hj).1, this.2]
      · exfalso
        obtain ⟨o, hst⟩ := hqst β (qof hn ho2)
        exact o3 o (hl.st _ _ hst)
    · obtain ⟨o1, o2, o3⟩ := hw.own _ _ ho1
      have hqq := qof hn ho1
      refine ⟨by rw [dbase]; exact o1, fun k' hk' => ?_, fun o e => ((dst β o).1 e).2 hqq⟩
      rcases own2 β k' hk' with ⟨j, hj, ho2⟩ | ⟨_, ho2⟩
      · exfalso
        obtain ⟨o, hst⟩ := hqst β hqq
        exact (hw1.own _ _ ho2).2.2 o (hl.st _ _ hst)
      · exact o2 _ ho2
  · have hb1 : σ.next ≤ b := hbn
    have hi : rfind b ids 0 = none := by
      cases hf : rfind b ids 0 with
      | none => rfl
      | some i =>
        obtain ⟨_, h2⟩ := rfind_some hf
        have := hlt b (List.mem_of_getElem? h2)
        omega
    obtain ⟨f1, f2, f3, f4, f5, f6⟩ := hw.fresh b hb1
    refine ⟨by rw [dbx, hi]; exact f1, by rw [dmp, hi]; exact f2, by rw [dsl, hi]; exact f3, ?_, ?_, ?_⟩
    · simp only [back0, hi]; exact f4
    · simp only [back0, hi]; exact f5
    · simp only [back0, hi]; exact f6
end Go.AL
/-! Functions with one variable of the caller's, by its address. -/
namespace Go.AL
set_option linter.unusedVariables false
set_option linter.unusedSimpArgs false
variable {P : Program} {σ : ASt} {R : AV → ASt → Prop} {D : List Deferred} {Q : Exit → List AV → ASt → Prop} {fr : List AV} {ops : Array Oper}
/-- With the variable number 0, which holds cs: it hands back r, and leaves cs'. -/
def BC (P : Program) (f : FuncId) (args cs : List AV) (r : AV) (cs' : List AV) : Prop := ACall P f args (mkSt [(0, cs)] [] 1) fun r' σ' => r' = r ∧ σ'.bx 0 = some cs'
theorem Outc.low {G w} {R R' : AV → ASt → Prop} {v w'} (h : Outc G w R v w') (hr : ∀ r σ, R r σ → ∃ τ, ASt.Le τ σ ∧ R' r τ) : Outc G w R' v w' := by
  obtain ⟨r, G', σ', h1, h2, h3, h4⟩ := h
  obtain ⟨τ, hl, h5⟩ := hr r σ' h4
  exact ⟨r, G', τ, h1, h2.less hl, h3, h5⟩
theorem ACall.low {f : FuncId} {args : List AV} {R R' : AV → ASt → Prop} (h : ACall P f args σ R) (hr : ∀ r σ, R r σ → ∃ τ, ASt.Le τ σ ∧ R' r τ) : ACall P f args σ R' :=
  fun G w vs hv hw => Calls.mono (h G w vs hv hw) fun e w' he => retOf_mono (fun v w1 ho => ho.low hr) he
theorem rens_closed {ρ : Nat → Nat} {l : List AV} (h : ∀ c ∈ l, Cl c) : rens ρ l = l := by
  rw [rens_map]; conv => rhs; rw [← List.map_id l]
  exact List.map_congr_left fun c hc => ren_closed ρ (h c hc)
/-- The arguments: the variable's own address, and what is closed. -/
inductive ArgB (b : Nat) : AV → AV → Prop where
  | ptr (off : Nat) : ArgB b (.ptr 0 off) (.ptr b off)
  | cl {x : AV} (h : Cl x) : ArgB b x x
inductive ArgBs (b : Nat) : List AV → List AV → Prop where
  | nil : ArgBs b [] []
  | cons {x y : AV} {xs ys : List AV} (h : ArgB b x y) (t : ArgBs b xs ys) : ArgBs b (x :: xs) (y :: ys)
theorem ArgBs.rens {b n : Nat} {xs ys : List AV} (h : ArgBs b xs ys) : rens (ridx [b] n) xs = ys := by
  induction h with
  | nil => rfl
  | cons h t ih =>
    cases h with
    | ptr off => simp [Go.AL.rens, ren, ridx, ih]
    | cl h => simp [Go.AL.rens, ren_closed _ h, ih]
theorem BC.call {f : FuncId} {args args' cs cs' : List AV} {r : AV} {b : Nat} (h : BC P f args cs r cs') (ha : ArgBs b args args') (hcs : ∀ c ∈ cs, Cl c) (hcs' : ∀ c ∈ cs', Cl c) (hr : Cl r) (hb : σ.bx b = some cs) (hbm : σ.mp b = none) (hbs : σ.sl b = none) :
    ACall P f args' σ fun r' σ' => r' = r ∧ σ' = { σ with bx := upd σ.bx b (some cs') } := by
  refine acall_ok fun hok => ?_
  have hbn : b < σ.next := by
    rcases Nat.lt_or_ge b σ.next with h' | h'
    · exact h'
    · rw [hok.bx b h'] at hb; cases hb
  have h0 : ACall P f args (mkSt [(0, cs)] [] 1) fun r' σ' => (r' = r ∧ σ'.bx 0 = some cs') ∧ σ'.mp 0 = none ∧ σ'.sl 0 = none := by
    refine h.low fun r' τ ⟨e1, e2⟩ => ⟨⟨τ.bx, fun _ => none, fun _ => none, τ.next⟩, ⟨fun _ _ e => e, fun _ _ e => (nomatch e), fun _ _ e => (nomatch e), Nat.le_refl _⟩, ⟨e1, e2⟩, rfl, rfl⟩
  have h1 := ACall.frame0 (σ := σ) (ids := [b]) (h := h0) rfl ⟨fun i hi => by
      have : 1 ≤ i := hi
      show List.lookup i [(0, cs)] = none
      rw [List.lookup_cons]
      have : (i == 0) = false := by simp; omega
      rw [this]; rfl, fun _ _ => rfl, fun _ _ => rfl⟩ (by simpa using hbn) (by simp) (fun i cs0 e => by
      have h2 : (0, cs) = (i, cs0) ∨ False := by
        have := lookup_mem (l := [(0, cs)]) (b := i) (c := cs0) e
        simp at this
        exact .inl (by rw [this.1, this.2])
      simp only [or_false, Prod.mk.injEq] at h2
      obtain ⟨rfl, rfl⟩ := h2
      rw [rens_closed hcs]
      simpa [ridx] using hb) (fun i es e => by cases e) (fun i xs e => by
      have : List.lookup i ([] : List (Nat × List AV)) = some xs := e
      cases this) (fun r' τ ⟨⟨e1, e2⟩, e3, e4⟩ => by
      subst e1
      refine ⟨hr, fun i cs0 e hi => ?_, fun i es e hi => ?_, fun i xs e hi => ?_⟩
      all_goals
        obtain rfl : i = 0 := by simp at hi; omega
      · rw [e2] at e; obtain rfl := Option.some.inj e; exact hcs'
      · rw [e3] at e; cases e
      · rw [e4] at e; cases e)
  rw [ha.rens] at h1
  refine h1.mono fun r' σ' ⟨τ, ⟨⟨e1, e2⟩, e3, e4⟩, e5⟩ => ⟨e1, ?_⟩
  rw [e5]
  unfold back0
  congr 1
  · funext c
    unfold upd
    by_cases hc : c = b
    · subst hc; simp [rfind, e2]
    · simp [rfind, hc]
  · funext c
    by_cases hc : c = b
    · subst hc; simp [rfind, e3, hbm]
    · simp [rfind, hc]
  · funext c
    by_cases hc : c = b
    · subst hc; simp [rfind, e4, hbs]
    · simp [rfind, hc]
/-- Such a call, next in a run. -/
theorem awl_box {o : Oper} {rest : List Oper} {f : Operand} {aa : Array Operand} {ts : Array TypeId} (mu : List Nat) (ho : o.op = .call { callee := .value f, args := aa, argTypes := ts }) (hw : awanted ops o fr = some true)
    {F : FuncId} {first cap : List AV} (hf : acallee (aev fr f) = some (F, first, cap)) (hc : callable P F = true) {args args' cs cs' : List AV} {r : AV} {b : Nat} (h : BC P F args cs r cs') (he : first ++ aa.toList.map (aev fr) ++ cap = args') (ha : ArgBs b args args')
    (hcs : ∀ c ∈ cs, Cl c) (hcs' : ∀ c ∈ cs', Cl c) (hr : Cl r) (hb : σ.bx b = some cs) (hbm : σ.mp b = none) (hbs : σ.sl b = none)
    (hk : Shut (ARun P D ops Q mu rest (aput fr o.dst r) { σ with bx := upd σ.bx b (some cs') })) : AWL P D ops Q (o :: rest) fr σ :=
  awl_cons hw (opq_call ho hf hc (by rw [he]; exact (h.call ha hcs hcs' hr hb hbm hbs).mono fun r' τ' ⟨e1, e2⟩ => by subst e1; subst e2; exact awl_run' mu hk))
theorem bc_of {f : FuncId} {fn : Func} {c : Code} {n : Nat} {args cs cs' : List AV} {r : AV} (hf : P.funcs[f]? = some fn) (hn : fn.ntmps = n) (hb : fn.body = some c) (h : AW P [] c (RetQ P fn fun r' σ' => r' = r ∧ σ'.bx 0 = some cs') (args ++ List.replicate (n - args.length) (.p undef)) (mkSt [(0, cs)] [] 1)) : BC P f args cs r cs' :=
  acall_of hf hn hb h
end Go.AL
/-! What is not carried out, in regions that draw their order. -/
namespace Go.AL
set_option linter.unusedVariables false
set_option linter.unusedSimpArgs false
variable {P : Program} {σ : ASt} {R : AV → ASt → Prop} {D : List Deferred} {Q : Exit → List AV → ASt → Prop} {fr : List AV} {ops : Array Oper}
theorem yld_not {o : Oper} (hc : gcond ops o fr = some false) : Yld P ops σ o fr (.opt false (.p undef)) := by
  intro G a w ha hw
  have hg := gcond_agree hc ha
  exact ⟨fun h => by rw [hg] at h; (cases h), fun _ => .opt false _ _ (fun h => by cases h) fun _ => rfl⟩
theorem yl_skip {K : List AV → Prop} {o : Oper} {rest : List Oper} (hc : gcond ops o fr = some false) (hk : Shut (YRun P ops σ K rest (aput fr o.dst (.opt false (.p undef))))) : YL P ops σ K (o :: rest) fr :=
  ⟨_, yld_not hc, yl_run hk.out⟩
theorem zl_skip {mu imp : List Nat} {l : List Oper} {K : List AV → ASt → Prop} {i : Nat} {old : List ASt} {pd : List Pend} {o : Oper} {rest : List Oper} (hz : zst mu imp o = false) (hc : gcond l.toArray o fr = some false)
    (hk : Shut (ZRun P mu imp l K (i + 1) rest (aput fr o.dst (.opt false (.p undef))) σ old pd)) : ZS P mu imp l K i (o :: rest) fr σ old pd := by
  intro hok
  unfold ZL; rw [if_neg (by rw [hz]; decide)]
  exact ⟨_, .inl ⟨fun σ' => yld_not hc, zl_run hk.out hok⟩⟩
/-- Such a contract, over what is closed. -/
structure BK (P : Program) (f : FuncId) (args cs : List AV) (r : AV) (cs' : List AV) : Prop where
  call : BC P f args cs r cs'
  cl : ∀ c ∈ cs, Cl c
  cl' : ∀ c ∈ cs', Cl c
  clr : Cl r
theorem awl_boxK {o : Oper} {rest : List Oper} {f : Operand} {aa : Array Operand} {ts : Array TypeId} (mu : List Nat) (ho : o.op = .call { callee := .value f, args := aa, argTypes := ts }) (hw : awanted ops o fr = some true)
    {F : FuncId} {first cap : List AV} (hf : acallee (aev fr f) = some (F, first, cap)) (hc : callable P F = true) {args args' cs cs' : List AV} {r : AV} {b : Nat} (h : BK P F args cs r cs') (he : first ++ aa.toList.map (aev fr) ++ cap = args') (ha : ArgBs b args args')
    (hb : σ.bx b = some cs) (hbm : σ.mp b = none) (hbs : σ.sl b = none)
    (hk : Shut (ARun P D ops Q mu rest (aput fr o.dst r) { σ with bx := upd σ.bx b (some cs') })) : AWL P D ops Q (o :: rest) fr σ :=
  awl_box mu ho hw hf hc h.call he ha h.cl h.cl' h.clr hb hbm hbs hk
end Go.AL
/-! append of nothing; all that is one's own stays as it is. -/
namespace Go.AL
open Go.RowKit (Below)
set_option linter.unusedVariables false
set_option linter.unusedSimpArgs false
variable {P : Program} {σ : ASt} {R : AV → ASt → Prop} {D : List Deferred} {Q : Exit → List AV → ASt → Prop} {fr : List AV} {ops : Array Oper} {o : Oper} {ρ : Operand → AV}
theorem run_append0 {t el ty : TypeId} {n : Nat} {g : Bool} (ht : P.underlying t = some (.slice el)) (hn : tsize P el = some (n, g)) {b a : Option Addr} {l c c2 : Nat} (hle : l ≤ c) (w : World) :
    (Builtin.append_ #[t, t] ty #[.slice b l c, .slice a 0 c2]).run P w = .ok (.slice b l c) w := by
  unfold Builtin.append_
  have h1 := run_underlying' ht w
  have h2 := run_sizeOf' hn w
  cases a <;> cases b <;> simp [h1, h2, Builtin.lenOf, Builtin.firstCells, loadCells, loadCellsFrom, storeCells, hle]
theorem opq_append0 {s x : Operand} {t el : TypeId} (ho : o.op = .call { callee := .builtin .append, args := #[s, x], argTypes := #[t, t] }) {b off k n : Nat} {g : Bool}
    (hs : ρ s = .hsl b off k) (hx : ρ x = .vsl [] ∨ ∃ c, ρ x = .p (.slice none 0 c)) (hel : telemT P t = some el) (hn : tsize P el = some (n, g)) (hr : R (.hsl b off k) σ) : OpQ P o ρ σ R := by
  have ht : P.underlying t = some (.slice el) := by
    unfold telemT at hel
    split at hel
    · rename_i h; rw [h]; simpa using hel
    · cases hel
  refine opq_v (s := fun e => Builtin.append_ #[t, t] o.type #[e s, e x]) (fun e => execOp_append e ho) _ hr fun G e w he hw => ?_
  have h1 := he s
  rw [hs] at h1
  have h2 := he x
  have h3 : ∃ a c2, e x = .slice a 0 c2 := by
    rcases hx with hx | ⟨c, hx⟩
    · rw [hx] at h2
      generalize e x = v at h2
      generalize hys : ([] : List AV) = ys at h2
      cases h2 with
      | vnil a cap => exact ⟨_, _, rfl⟩
      | vsl xs β o s cap val hcap hs h hr => subst hys; exact ⟨_, _, rfl⟩
    · rw [hx] at h2
      generalize e x = v at h2
      cases h2; exact ⟨_, _, rfl⟩
  obtain ⟨a, c2, h3⟩ := h3
  rw [h3]
  generalize e s = v at h1
  cases h1 with
  | hsl _ _ _ β o s cap h hle => exact ⟨_, run_append0 ht hn (by omega) w, .hsl b off k β o s cap h hle⟩
  | hend _ _ a β o s cap h hle => exact ⟨_, run_append0 ht hn (by omega) w, .hend b off a β o s cap h hle⟩
  | hnil _ a h => exact ⟨_, run_append0 ht hn (by omega) w, .hnil b a h⟩
theorem awl_append0 {rest : List Oper} {s x : Operand} {t el : TypeId} (mu : List Nat) (ho : o.op = .call { callee := .builtin .append, args := #[s, x], argTypes := #[t, t] }) (hw : awanted ops o fr = some true) {b off k n : Nat} {g : Bool}
    (hs : aev fr s = .hsl b off k) (hx : aev fr x = .vsl [] ∨ ∃ c, aev fr x = .p (.slice none 0 c)) (hel : telemT P t = some el) (hn : tsize P el = some (n, g))
    (hk2 : Shut (ARun P D ops Q mu rest (aput fr o.dst (.hsl b off k)) σ)) : AWL P D ops Q (o :: rest) fr σ :=
  awl_cons hw (opq_append0 ho hs hx hel hn (awl_run' mu hk2))
theorem zl_append0 {mu imp : List Nat} {l : List Oper} {K : List AV → ASt → Prop} {i : Nat} {old : List ASt} {pd : List Pend} {rest : List Oper} {s x : Operand} {t el : TypeId} (hz : zst mu imp o = true) (ho : o.op = .call { callee := .builtin .append, args := #[s, x], argTypes := #[t, t] }) (hg : o.guard = none) {b off k n : Nat} {g : Bool}
    (hs : aev fr s = .hsl b off k) (hx : aev fr x = .vsl [] ∨ ∃ c, aev fr x = .p (.slice none 0 c)) (hel : telemT P t = some el) (hn : tsize P el = some (n, g))
    (hk2 : pendOk P mu imp l (old.length + 1) σ pd ∧ Shut (ZRun P mu imp l K (i + 1) rest (aput fr o.dst (.hsl b off k)) σ (σ :: old) pd)) : ZS P mu imp l K i (o :: rest) fr σ old pd := by
  intro hok
  unfold ZL; rw [if_pos hz]
  refine ⟨_, _, yldT_opq hg fun ρ hρ => ?_, pendOk_yld hok hk2.1, zl_run hk2.2.out hok⟩
  have h1 : ρ s = aev fr s := hρ s (by rw [ho]; simp [Op.operands, Call.operands])
  have h2 : ρ x = aev fr x := hρ x (by rw [ho]; simp [Op.operands, Call.operands])
  exact opq_append0 ho (by rw [h1]; exact hs) (by rw [h2]; exact hx) hel hn ⟨rfl, rfl⟩
/-! ### all slices of one's own stay as they are from now on -/
def ASt.shut (σ : ASt) : ASt where
  bx b := (σ.bx b).map fun cs => cs.map (clo0 σ)
  mp b := σ.mp b
  sl _ := none
  next := σ.next
theorem SimW.shut {G σ w} (h : SimW G σ w) : ∃ G', Le G w G' w ∧ SimW G' σ.shut w ∧ ∀ v u, Rep G w v u → Rep G' w (clo σ v) u := by
  obtain ⟨G', h1, h2, h3⟩ := h.close
  refine ⟨G', h1, ?_, h3⟩
  have own : ∀ β k, Owns G' σ.shut β k → Owns G' σ.noSl β k := by
    intro β k ho
    cases ho with
    | bx b β cs e g =>
      obtain ⟨cs0, e0, _⟩ := Option.map_eq_some_iff.1 e
      exact .bx b β cs0 e0 g
    | mp b β es e g => exact .mp b β es e g
    | sl b β r xs e g => cases e
  refine ⟨h2.base, fun b cs e => ?_, fun b es e => h2.mp b es e, fun b xs e => (nomatch e), fun β k ho => ?_, h2.stIn, fun b hb => ?_⟩
  · obtain ⟨cs0, e0, rfl⟩ := Option.map_eq_some_iff.1 e
    obtain ⟨β, arr, el, g1, g2, g3, g4⟩ := h2.bx b cs0 e0
    obtain ⟨β', arr', el', k1, k2, k3, k4⟩ := h.bx b cs0 e0
    obtain rfl : β' = β := Option.some.inj ((h1.bx _ _ k1).symm.trans g1)
    rw [g2] at k2
    obtain ⟨rfl, rfl⟩ : arr = arr' ∧ el = el' := by simpa using k2
    refine ⟨β', arr, el, g1, g2, by rw [List.length_map]; exact g3, fun i c v hc hv => ?_⟩
    rw [List.getElem?_map] at hc
    obtain ⟨c0, hc0, rfl⟩ := Option.map_eq_some_iff.1 hc
    have hr := k4 i c0 v hc0 hv
    -- one cell
    have key : ∀ c0 : AV, Rep G w c0 v → Rep G' w (clo0 σ c0) v := by
      intro c0 hr
      by_cases ha : (∃ l, c0 = .agg l) ∨ ∃ l, c0 = .tup l
      · have : clo0 σ c0 = c0 := by
          rcases ha with ⟨l, rfl⟩ | ⟨l, rfl⟩ <;> rfl
        rw [this]; exact hr.mono h1
      · have : clo σ c0 = clo0 σ c0 := by
          cases c0 <;> first | rfl | (exfalso; exact ha (.inl ⟨_, rfl⟩)) | (exfalso; exact ha (.inr ⟨_, rfl⟩))
        rw [← this]; exact h3 _ _ hr
    exact key c0 hr
  · have ho' := own β k ho
    exact ⟨(h2.own β k ho').1, fun k' hk' => (h2.own β k ho').2.1 k' (own _ _ hk'), (h2.own β k ho').2.2⟩
  · obtain ⟨f1, f2, f3, f4, f5, f6⟩ := h2.fresh b hb
    refine ⟨f1, f2, f3, ?_, f5, rfl⟩
    have f4' : σ.bx b = none := f4
    show (σ.bx b).map _ = none
    rw [f4']; rfl
theorem aw_shut {c : Code} (h : AW P D c Q (fr.map (clo σ)) σ.shut) : AW P D c Q fr σ := by
  intro _ _ G a w hs
  obtain ⟨G', h1, h2, h3⟩ := hs.w.shut
  refine wp_mono (h _ inferInstance G' a w ⟨⟨by simpa using hs.tmps.1, fun i c v hc hv => ?_⟩, hs.defers.mono h1, h2⟩) fun e a w h => lift_le h1 h
  rw [List.getElem?_map] at hc
  obtain ⟨c', hc', rfl⟩ := Option.map_eq_some_iff.1 hc
  exact h3 _ _ (hs.tmps.2 i c' v hc' hv)
attribute [simp] ASt.shut
end Go.AL
/-! Regions that draw, make one variable and fill it; a nil slice within a variable becomes one's own. -/
namespace Go.AL
open Go.Proofs
variable {P : Program} {σ : ASt} {D : List Deferred} {Q : Exit → List AV → ASt → Prop} {fr : List AV}
theorem aw_new {id : Nat} {l : List Oper} (A S : Nat) (z v : List AV) (hm : P.follows .mixedOrders = true) (hB : specB l A S = true)
    (h : Shut (YR2 P l.toArray A S σ (σ.addBx z) { σ.addBx z with bx := upd (σ.addBx z).bx σ.next (some v) } (fun fr => Q .normal fr { σ.addBx z with bx := upd (σ.addBx z).bx σ.next (some v) }) 0 l fr)) : AW P D (.region id l.toArray true) Q fr σ :=
  aw_draw2' A S _ _ hm hB h
theorem aw_openBx {c : Code} {b i : Nat} {cs : List AV} (hb : σ.bx b = some cs) (hi : cs[i]? = some (.p (.slice none 0 0)))
    (h : AW P D c Q fr { σ.addSl [] with bx := upd σ.bx b (some (cs.set i (.hsl σ.next 0 0))) }) : AW P D c Q fr σ := by
  intro _ _ G a w hs
  obtain ⟨G', h1, h2, h3⟩ := new_nil hs.w w (Go.RowKit.Below.refl _ _) none
  have own : ∀ β k, Owns G' { σ.addSl [] with bx := upd σ.bx b (some (cs.set i (.hsl σ.next 0 0))) } β k → Owns G' (σ.addSl []) β k := by
    intro β k ho
    cases ho with
    | bx b' β cs' e g =>
      by_cases hbb : b' = b
      · subst hbb; exact .bx b' β cs hb g
      · rw [show ({ σ.addSl [] with bx := upd σ.bx b (some (cs.set i (.hsl σ.next 0 0))) } : ASt).bx b' = σ.bx b' from upd_ne _ _ hbb] at e
        exact .bx b' β cs' e g
    | mp b' β es e g => exact .mp b' β es e g
    | sl b' β r xs e g => exact .sl b' β r xs e g
  have h4 : SimW G' { σ.addSl [] with bx := upd σ.bx b (some (cs.set i (.hsl σ.next 0 0))) } w := by
    refine ⟨h2.base, fun b' cs' e => ?_, fun b' es e => h2.mp b' es e, fun b' xs e => h2.sl b' xs e, fun β k ho => ?_, h2.stIn, fun b' hb' => ?_⟩
    · by_cases hbb : b' = b
      · subst hbb
        obtain rfl : cs.set i (.hsl σ.next 0 0) = cs' := by simpa using e
        obtain ⟨β, arr, el, g1, g2, g3, g4⟩ := h2.bx b' cs hb
        refine ⟨β, arr, el, g1, g2, by simpa using g3, fun j c v hc hv => ?_⟩
        rw [List.getElem?_set] at hc
        split at hc
        · rename_i hij
          subst hij
          split at hc
          · obtain rfl := Option.some.inj hc
            have := g4 i _ v hi hv
            cases this
            exact h3
          · cases hc
        · exact g4 j c v hc hv
      · rw [show ({ σ.addSl [] with bx := upd σ.bx b (some (cs.set i (.hsl σ.next 0 0))) } : ASt).bx b' = σ.bx b' from upd_ne _ _ hbb] at e
        exact h2.bx b' cs' e
    · have ho' := own β k ho
      exact ⟨(h2.own β k ho').1, fun k' hk' => (h2.own β k ho').2.1 k' (own _ _ hk'), (h2.own β k ho').2.2⟩
    · obtain ⟨f1, f2, f3, f4, f5, f6⟩ := h2.fresh b' hb'
      refine ⟨f1, f2, f3, ?_, f5, f6⟩
      have hne : b' ≠ b := fun e => by subst e; rw [show (σ.addSl []).bx b' = σ.bx b' from rfl, hb] at f4; cases f4
      rw [show ({ σ.addSl [] with bx := upd σ.bx b (some (cs.set i (.hsl σ.next 0 0))) } : ASt).bx b' = σ.bx b' from upd_ne _ _ hne]
      exact f4
  exact wp_mono (h _ inferInstance G' a w ⟨⟨hs.tmps.1, fun j c v hc hv => (hs.tmps.2 j c v hc hv).mono h1⟩, hs.defers.mono h1, h4⟩) fun e a w h => lift_le h1 h
end Go.AL
/-! Ranges over functions: calls of yield; small contracts over one variable and a loop's record; leaving with marks. -/
namespace Go.AL
open Go.RowKit (Below)
set_option linter.unusedVariables false
set_option linter.unusedSimpArgs false
variable {P : Program} {σ : ASt} {R : AV → ASt → Prop} {D : List Deferred} {Q : Exit → List AV → ASt → Prop} {fr : List AV} {ops : Array Oper} {o : Oper} {ρ : Operand → AV}
/-! ### leaving with marks -/
theorem Rep.move {G w G' w'} (hb : ∀ b β, G.bx b = some β → G'.bx b = some β) (hm : ∀ b β, G.mp b = some β → G'.mp b = some β) (hs : ∀ b β, G.sl b = some β → G'.sl b = some β)
    (hc : ∀ β o v, G.st β o → w.cell? ⟨β, o, none⟩ = some v → G'.st β o ∧ w'.cell? ⟨β, o, none⟩ = some v) (hp : ∀ β e n, G.st β 0 → w.heap[β]? = some (.map e n) → G'.st β 0 ∧ w'.heap[β]? = some (.map e n)) {c v} (h : Rep G w c v) : Rep G' w' c v := by
  induction h with
  | p x => exact .p x
  | agg cs vs hs _ ih => exact .agg cs vs hs ih
  | tup cs vs hs _ ih => exact .tup cs vs hs ih
  | ptr b off β h => exact .ptr b off β (hb _ _ h)
  | vnil a cap => exact .vnil a cap
  | vsl xs β o s cap val hcap hs h _ ih => exact .vsl xs β o s cap val hcap hs (fun i j c e => hc _ _ _ (h i j c e).1 (h i j c e).2) ih
  | vel xs i off β o s val hs h _ ih => exact .vel xs i off β o s val hs (fun i j c e => hc _ _ _ (h i j c e).1 (h i j c e).2) ih
  | hsl b off len β o s cap h hle => exact .hsl b off len β o s cap (hs _ _ h) hle
  | hend b off a β o s cap h hle => exact .hend b off a β o s cap (hs _ _ h) hle
  | hnil b a h => exact .hnil b a (hs _ _ h)
  | hel b i off β o s cap h => exact .hel b i off β o s cap (hs _ _ h)
  | map m μ h => exact .map m μ (hm _ _ h)
  | it m μ h => exact .it m μ (hm _ _ h)
  | yld m μ h => exact .yld m μ (hm _ _ h)
  | vmp ks vs μ clock ents h1 h2 h3 h4 _ _ ih5 ih6 => exact .vmp ks vs μ clock ents (hp _ _ _ h1 h2).1 (hp _ _ _ h1 h2).2 h3 h4 ih5 ih6
  | fn f aa bs us vs h1 h2 _ _ ih3 ih4 => exact .fn f aa bs us vs h1 h2 ih3 ih4
  | ifc t c v _ ih => exact .ifc t c v ih
  | opt b c v _ h0 ih => exact .opt b c v ih h0
  | any v => exact .any v
theorem cell_def {w : World} {β : Nat} {o : Obj} (h : w.heap[β]? = some o) (ho : o.isCells = false) (i : Nat) : w.cell? ⟨β, i, none⟩ = none := by
  unfold World.cell?
  simp only [h]
  cases o <;> first | rfl | cases ho
/-- The marks' blocks are shut. -/
def shutM (w : World) : List Nat → World
  | [] => w
  | μ :: ms => shutM (w.putObj μ (.deferred none)) ms
theorem shutM_spec : ∀ (ms : List Nat) (w : World), (shutM w ms).os = w.os ∧ (shutM w ms).tape = w.tape ∧ (shutM w ms).output = w.output ∧ (shutM w ms).heap.size = w.heap.size ∧ ∀ k, k ∉ ms → (shutM w ms).heap[k]? = w.heap[k]?
  | [], w => ⟨rfl, rfl, rfl, rfl, fun _ _ => rfl⟩
  | μ :: ms, w => by
    obtain ⟨h1, h2, h3, h4, h5⟩ := shutM_spec ms (w.putObj μ (.deferred none))
    refine ⟨h1, h2, h3, h4.trans World.putObj_size, fun k hk => ?_⟩
    simp only [List.mem_cons, not_or] at hk
    exact (h5 k hk.2).trans (World.putObj_heap_other hk.1)
theorem leaves_marks {fn : Func} {tmps : Array Value} {R : Ending → World → Prop} : ∀ (ms : List Nat) (w : World), ms.Nodup → (∀ μ ∈ ms, w.heap[μ]? = some (.deferred (some []))) →
    (∃ v, (results fn tmps).run P (shutM w ms) = .ok v (shutM w ms) ∧ R (.returned v) (shutM w ms)) → LeavesInM Fence.wide 2 P fn tmps R (ms.map colD) .returning w
  | [], w, _, _, h => h
  | μ :: ms, w, hnd, hm, h => by
    refine ⟨by simp, .inl ⟨μ, _, rfl, run_takeDeferred (hm μ List.mem_cons_self), ?_⟩⟩
    refine leaves_marks ms _ (List.nodup_cons.1 hnd).2 (fun k hk => ?_) h
    exact (World.putObj_heap_other (fun (e : k = μ) => (List.nodup_cons.1 hnd).1 (by rw [← e]; exact hk))).trans (hm k (List.mem_cons_of_mem _ hk))
theorem SimW.shutM {G w} {ms : List Nat} (h : SimW G σ w) (hms : ∀ μ ∈ ms, G.base ≤ μ ∧ G.st μ 0 ∧ w.heap[μ]? = some (.deferred (some []))) :
    SimW { G with st := fun β o => G.st β o ∧ β ∉ ms } σ (Go.AL.shutM w ms) ∧ (∀ c v, Rep G w c v → Rep { G with st := fun β o => G.st β o ∧ β ∉ ms } (Go.AL.shutM w ms) c v) ∧ Below G.base w (Go.AL.shutM w ms) := by
  obtain ⟨k1, k2, k3, k4, k5⟩ := shutM_spec ms w
  obtain ⟨w', hw'⟩ : ∃ w', w' = Go.AL.shutM w ms := ⟨_, rfl⟩
  rw [← hw'] at k1 k2 k3 k4 k5 ⊢
  have hb : Below G.base w w' := ⟨k1, k2, k3, Nat.le_of_eq k4.symm, fun k hk => k5 k fun hm => by have := (hms k hm).1; omega⟩
  have mv : ∀ c v, Rep G w c v → Rep { G with st := fun β o => G.st β o ∧ β ∉ ms } w' c v := fun c v hr =>
    Rep.move (G := G) (w := w) (G' := { G with st := fun β o => G.st β o ∧ β ∉ ms }) (w' := w') (fun _ _ e => e) (fun _ _ e => e) (fun _ _ e => e) (fun β o v hst hc => by
      have hn : β ∉ ms := fun hm => by rw [cell_def (hms β hm).2.2 rfl] at hc; cases hc
      exact ⟨⟨hst, hn⟩, (cell_block (k5 β hn)).trans hc⟩) (fun β e n hst hh => by
      have hn : β ∉ ms := fun hm => by rw [(hms β hm).2.2] at hh; cases hh
      exact ⟨⟨hst, hn⟩, (k5 β hn).trans hh⟩) hr
  have own : ∀ β k, Owns { G with st := fun β o => G.st β o ∧ β ∉ ms } σ β k → Owns G σ β k := by
    intro β k ho
    cases ho with
    | bx b β cs h1 h2 => exact .bx b β cs h1 h2
    | mp b β es h1 h2 => exact .mp b β es h1 h2
    | sl b β r xs h1 h2 => exact .sl b β r xs h1 h2
  have hnm : ∀ β k, Owns G σ β k → w'.heap[β]? = w.heap[β]? := fun β k ho => k5 β fun hm => (h.own β k ho).2.2 0 (hms β hm).2.1
  refine ⟨⟨h.base.go hb, fun b cs e => ?_, fun b es e => ?_, fun b xs e => ?_, fun β k ho => ?_, fun β o e => ?_, h.fresh⟩, mv, hb⟩
  · obtain ⟨β, arr, el, h1, h2, h3, h4⟩ := h.bx b cs e
    exact ⟨β, arr, el, h1, (hnm β _ (.bx b β cs e h1)).trans h2, h3, fun i c v a b => mv _ _ (h4 i c v a b)⟩
  · rcases h.mp b es e with ⟨μ, ents, clock, h1, h2, h3, h4, h5⟩ | ⟨μ, ob, ofr, h1, h2, h3, h4⟩
    · exact .inl ⟨μ, ents, clock, h1, (hnm μ _ (.mp b μ es e h1)).trans h2, h3, fun i k x en a b => ⟨mv _ _ (h4 i k x en a b).1, mv _ _ (h4 i k x en a b).2.1, (h4 i k x en a b).2.2⟩, h5⟩
    · refine .inr ⟨μ, ob, ofr, h1, (hnm μ _ (.mp b μ es e h1)).trans h2, ?_, h4⟩
      have := ObR.to (f := fun x => x) (fun x _ v hr => mv x v hr) h3
      simpa using this
  · rcases h.sl b xs e with ⟨h1, h2⟩ | ⟨β, o, s, cap, arr, el, h1, h2, h3, h4, h5, h6⟩
    · exact .inl ⟨h1, h2⟩
    · exact .inr ⟨β, o, s, cap, arr, el, h1, (hnm β _ (.sl b β _ xs e h1)).trans h2, h3, h4, h5, fun i j c v a b => mv _ _ (h6 i j c v a b)⟩
  · have ho' := own β k ho
    exact ⟨(h.own β k ho').1, fun k' hk' => (h.own β k ho').2.1 k' (own _ _ hk'), fun o e => (h.own β k ho').2.2 o e.1⟩
  · have := h.stIn β o e.1
    show β < w'.heap.size
    omega
/-- A pure function whose body holds ranges over functions. -/
theorem apure_marks {f : FuncId} {fn : Func} {c : Code} {n : Nat} {args : List AV} {r : AV} (hf : P.funcs[f]? = some fn) (hn : fn.ntmps = n) (hb : fn.body = some c) (hcl : ∀ a ∈ args, Cl a) (hr : Cl r)
    (h : AW P mkD c (RetQ P fn fun r' _ => r' = r) (args ++ List.replicate (n - args.length) (.p undef)) σ0) : APure P f args r := by
  subst hn
  intro G w vs hv hw
  have hs0 := simW_σ0 hw
  obtain ⟨Gb, hGb⟩ : ∃ Gb : Ghost, Gb = { base := w.heap.size, st := G.st, bx := fun _ => none, mp := fun _ => none, sl := fun _ => none } := ⟨_, rfl⟩
  rw [← hGb] at hs0
  have hstb : Gb.st = G.st := by rw [hGb]
  have hbb : Gb.base = w.heap.size := by rw [hGb]
  have hv0 : RepL Gb w args vs.toList := ⟨hv.1, fun i c v a b => Rep.closed (G := G) (fun _ _ e => by rw [hstb]; exact e) (hv.2 i c v a b) (hcl c (List.mem_of_getElem? a))⟩
  have hlen : args.length = vs.size := by simpa using hv.1
  have hs : Sim Gb (args ++ List.replicate (fn.ntmps - args.length) (.p undef)) σ0 mkD { tmps := vs ++ Array.replicate (fn.ntmps - vs.size) undef, defers := [] } w := by
    refine ⟨⟨by simp [hlen], fun i c v hc hv2 => ?_⟩, .inr ⟨rfl, [], rfl, List.nodup_nil, fun _ h => nomatch h⟩, hs0⟩
    simp only [Array.toList_append, Array.toList_replicate] at hv2
    rw [← hlen] at hv2
    by_cases hi : i < args.length
    · rw [List.getElem?_append_left hi] at hc
      rw [List.getElem?_append_left (by simpa [← hlen] using hi)] at hv2
      exact hv0.2 i c v hc hv2
    · rw [List.getElem?_append_right (by omega)] at hc
      rw [List.getElem?_append_right (by simp; omega)] at hv2
      rw [List.getElem?_replicate] at hc hv2
      split at hc
      · split at hv2
        · obtain rfl := Option.some.inj hc
          obtain rfl := Option.some.inj hv2
          exact .p _
        · cases hv2
      · cases hc
  have fin : ∀ (fr' : List AV) (σ' : ASt) (a' : Act) (w' : World) (G' : Ghost), Le Gb w G' w' → Sim G' fr' σ' mkD a' w' → (∃ r', AResults P fn fr' σ' r' ∧ Fin (fun r' _ => r' = r) r' σ') →
      LeavesInM Fence.wide 2 P fn a'.tmps (retOf (Outc G w fun r' _ => r' = r)) a'.defers .returning w' := by
    rintro fr' σ' a' w' G' hl hs' ⟨r', hres, hfin⟩
    rcases hs'.defers with ⟨h1, _⟩ | ⟨_, ms, hd, hnd, hms⟩
    · exact absurd rfl h1
    rw [hd]
    refine leaves_marks ms w' hnd (fun μ hm => (hms μ hm).2.2) ?_
    obtain ⟨q1, q2, q3⟩ := hs'.w.shutM hms
    obtain ⟨v, e1, e2⟩ := hres _ [] { tmps := a'.tmps, defers := [] } _ ⟨⟨hs'.tmps.1, fun i c v a b => q2 _ _ (hs'.tmps.2 i c v a b)⟩, .inl ⟨by simp [mkD], rfl⟩, q1⟩
    refine ⟨v, e1, ?_⟩
    obtain ⟨r2, G2, σ2, hl2, hw2, hr2, rfl⟩ := hfin _ _ v q1 e2
    obtain ⟨k1, k2, k3, k4, k5⟩ := shutM_spec ms w'
    have hbase : G'.base = w.heap.size := hl.base.trans hbb
    have hbel : Below w.heap.size w (shutM w' ms) := by
      have h1 := hl.below; rw [hbb] at h1
      rw [hbase] at q3
      exact h1.trans q3
    have hb2 := hbel
    have hst : ∀ β o, G.st β o → G2.st β o := fun β o e => hl2.st _ _ ⟨hl.st _ _ (by rw [hstb]; exact e), fun hm => by have := hw.stIn β o e; have := (hms β hm).1; omega⟩
    have hle : Le G w { G with st := G2.st } _ := ⟨rfl, fun _ _ e => e, fun _ _ e => e, fun _ _ e => e, hst, fun β o e => by
      rcases hl2.st2 β o e with e | ⟨e, e'⟩
      · rcases hl.st2 β o e.1 with e | ⟨e, e'⟩
        · exact .inl (by rw [← hstb]; exact e)
        · exact .inr ⟨by have := hw.base.le; rw [hbb] at e; omega, fun o' => by rw [← hstb]; exact e' o'⟩
      · refine .inr ⟨by have := hw.base.le; rw [show ({ G' with st := fun β o => G'.st β o ∧ β ∉ ms } : Ghost).base = G'.base from rfl, hbase] at e; omega, fun o' e2 => e' o' ⟨hl.st _ _ (by rw [hstb]; exact e2), fun hm => by have := hw.stIn β o' e2; have := (hms β hm).1; omega⟩⟩,
      fun β o e => hb2.block β (hw.stIn β o e), hb2.mono hw.base.le⟩
    refine ⟨_, { G with st := G2.st }, σ0, hle, ?_, Rep.closed (G := G2) (fun _ _ e => e) hr2 hr, rfl⟩
    refine ⟨hw.base.go hle.below, fun _ _ e => (nomatch e), fun _ _ e => (nomatch e), fun _ _ e => (nomatch e), fun β k ho => ?_, hw2.stIn, hw.fresh⟩
    cases ho with
    | bx b β cs h g => cases h
    | mp b β cs h g => cases h
    | sl b β r cs h g => cases h
  refine callsIn_wide.1 (callsIn_of_wp_marks (F := Fence.wide) (n := 2) hf hb trivial ?_)
  refine wpIn_mono (h ⟨none⟩ (@FitD.mk ⟨none⟩ _ (.inr rfl)) Gb _ w hs) ?_
  rintro e a' w' ⟨G', fr', σ', hl, hs', hq⟩
  cases e with
  | normal => exact fin fr' σ' a' w' G' hl hs' hq
  | ret => exact fin fr' σ' a' w' G' hl hs' hq
  | _ => exact hq.elim
end Go.AL
/-! Ranges over functions: yield; small contracts over one variable and a loop's record; the statement. -/
namespace Go.AL
open Go.RowKit (Below)
set_option linter.unusedVariables false
set_option linter.unusedSimpArgs false
variable {P : Program} {σ : ASt} {R : AV → ASt → Prop} {D : List Deferred} {Q : Exit → List AV → ASt → Prop} {fr : List AV} {ops : Array Oper} {o : Oper} {ρ : Operand → AV}
/-! ### a call of yield -/
def AYield (P : Program) (m : Nat) (args : List AV) (σ : ASt) (R : AV → ASt → Prop) : Prop :=
  ∀ G w (vs : Array Value) μ, RepL G w args vs.toList → SimW G σ w → G.mp m = some μ →
    ∃ fn tmps assign body, (Instr.yield μ vs).run P w = .ok (.round μ fn tmps assign body) w ∧ RoundIn Fence.wide 1 P μ fn tmps assign body w (retOf (Outc G w R))
theorem opq_yield {f : Operand} {aa : Array Operand} {ts : Array TypeId} (ho : o.op = .call { callee := .value f, args := aa, argTypes := ts }) {m : Nat} (hf : ρ f = .yld m) (h : AYield P m (aa.toList.map ρ) σ R) : OpQ P o ρ σ R := by
  intro G e w he hw
  have hrf := he f
  rw [hf] at hrf
  generalize hvf : e f = vf at hrf
  have hargs : RepL G w (aa.toList.map ρ) (aa.toList.map e) := ⟨by simp, fun i c v hc hv => by
    simp only [List.getElem?_map, Option.map_eq_some_iff] at hc hv
    obtain ⟨a, ha, rfl⟩ := hc
    obtain ⟨b, hb, rfl⟩ := hv
    obtain rfl := Option.some.inj (ha.symm.trans hb)
    exact he _⟩
  obtain ⟨μ, rfl, g⟩ : ∃ μ, vf = .func (.yield μ) #[] #[] ∧ G.mp m = some μ := by cases hrf; exact ⟨_, rfl, by assumption⟩
  obtain ⟨fn, tmps, assign, body, h1, h2⟩ := h G w (aa.map e) μ (by simpa using hargs) hw g
  have run : (execOp e o).run P w = .ok (.round μ fn tmps assign body) w := by
    simp only [execOp, ho, resolve, hvf, Deferred.ofValue, Sem.run_bind, Sem.run_pure, Result.andThen_ok, invoke]
    simpa using h1
  rw [run]
  exact h2
theorem awl_yield {rest : List Oper} {f : Operand} {aa : Array Operand} {ts : Array TypeId} (ho : o.op = .call { callee := .value f, args := aa, argTypes := ts }) (hw : awanted ops o fr = some true) {m : Nat} (hf : aev fr f = .yld m) {args : List AV} (ha : aa.toList.map (aev fr) = args)
    (h : AYield P m args σ fun r σ' => AWL P D ops Q rest (aput fr o.dst r) σ') : AWL P D ops Q (o :: rest) fr σ :=
  awl_cons hw (opq_yield ho hf (by rw [ha]; exact h))
theorem awl_acall {rest : List Oper} {f : Operand} {aa : Array Operand} {ts : Array TypeId} (ho : o.op = .call { callee := .value f, args := aa, argTypes := ts }) (hw : awanted ops o fr = some true)
    {F : FuncId} {first cap : List AV} (hf : acallee (aev fr f) = some (F, first, cap)) (hc : callable P F = true) {args : List AV} (ha : first ++ aa.toList.map (aev fr) ++ cap = args) (h : ACall P F args σ fun r σ' => AWL P D ops Q rest (aput fr o.dst r) σ') : AWL P D ops Q (o :: rest) fr σ :=
  awl_cons hw (opq_call ho hf hc (by rw [ha]; exact h))
theorem AYield.mono {m args} {R' : AV → ASt → Prop} (h : AYield P m args σ R) (hr : ∀ r σ, R r σ → R' r σ) : AYield P m args σ R' := fun G w vs μ h1 h2 h3 => by
  obtain ⟨fn, tmps, assign, body, k1, k2⟩ := h G w vs μ h1 h2 h3
  exact ⟨fn, tmps, assign, body, k1, RoundIn.mono k2 fun e w' he => retOf_mono (fun v w' h => Outc.mono h hr) he⟩
/-! ### the record turns -/
theorem rec_turn {G w m} {r0 : Loop} {fs : List AV} (hw : SimW G σ w) (hm : σ.mp m = some (obE (.loop r0) fs)) :
    ∃ μ r, G.mp m = some μ ∧ w.heap[μ]? = some (.loop r) ∧ erL r = r0 ∧ RepL G w fs r.tmps.toList ∧ ∀ r', r'.tmps = r.tmps → Le G w G (w.putObj μ (.loop r')) ∧ SimW G { σ with mp := upd σ.mp m (some (obE (.loop (erL r')) fs)) } (w.putObj μ (.loop r')) := by
  obtain ⟨μ, o', g, hh, hr, he⟩ := mp_ob (hw.mp m _ hm)
  cases o' <;> simp only [erO, reduceCtorEq, Obj.loop.injEq] at he
  rename_i r
  have hown : Owns G σ μ (1, m) := .mp m μ _ hm g
  have hlt := hw.own_lt hown
  refine ⟨μ, r, g, hh, he, hr, fun r' ht => ?_⟩
  have htouch : Touch w (w.putObj μ (.loop r')) μ := ⟨rfl, rfl, rfl, World.putObj_size, fun k hk => World.putObj_heap_other hk⟩
  have hl := Le.touch hw hown htouch
  refine ⟨hl, hw.touch_mp hm g htouch fun hl' => .inr ⟨μ, _, fs, g, World.putObj_heap_same hlt, ?_, rfl⟩⟩
  have : RepL G w fs r.tmps.toList := hr
  show RepL G _ fs r'.tmps.toList
  rw [ht]
  exact this.mono hl'
/-- The record's own part: ready. -/
def lp0 (ps : Array Tmp) (assign body : Code) : Loop := { state := .ready, pending := none, fn := 0, tmps := #[], params := ps, assign, body, defers := 0 }
/-- Behind a round. -/
def nxt (r : Loop) : Option Code → Loop
  | none => r
  | some c => { r with state := .done, pending := some c }
/-! ### small contracts -/
/-- One variable, number 0; one record, number 1. -/
def yst (cs : List AV) (es : List (AV × AV)) : ASt := ⟨fun b => if b = 0 then some cs else none, fun b => if b = 1 then some es else none, fun _ => none, 2⟩
@[simp] theorem yst_bx (cs es) (b : Nat) : (yst cs es).bx b = if b = 0 then some cs else none := rfl
@[simp] theorem yst_mp (cs es) (b : Nat) : (yst cs es).mp b = if b = 1 then some es else none := rfl
@[simp] theorem yst_sl (cs es) (b : Nat) : (yst cs es).sl b = none := rfl
@[simp] theorem yst_next (cs es) : (yst cs es).next = 2 := rfl
def sub (b : Nat) : AV → AV
  | .ptr 0 off => .ptr b off
  | v => v
/-- Closed, but for that variable's address. -/
def F0 (v : AV) : Prop := Cl v ∨ ∃ off, v = .ptr 0 off
theorem F0.ren {b m n : Nat} {v : AV} (h : F0 v) : ren (ridx [b, m] n) v = sub b v := by
  rcases h with h | ⟨off, rfl⟩
  · rw [ren_closed _ h]; cases h <;> rfl
  · simp [Go.AL.ren, ridx, sub]
theorem F0.rens {b m n : Nat} {l : List AV} (h : ∀ v ∈ l, F0 v) : rens (ridx [b, m] n) l = l.map (sub b) := by
  rw [rens_map]; exact List.map_congr_left fun v hv => (h v hv).ren
theorem cl_sub {b : Nat} {v : AV} (h : Cl v) : sub b v = v := by cases h <;> rfl
/-- The arguments, too: that variable's address, the record's yield, what is closed. -/
def subA (b m : Nat) : AV → AV
  | .ptr 0 off => .ptr b off
  | .yld 1 => .yld m
  | v => v
def A0 (v : AV) : Prop := Cl v ∨ (∃ off, v = .ptr 0 off) ∨ v = .yld 1
theorem A0.rens {b m n : Nat} {l : List AV} (h : ∀ v ∈ l, A0 v) : rens (ridx [b, m] n) l = l.map (subA b m) := by
  rw [rens_map]
  refine List.map_congr_left fun v hv => ?_
  rcases h v hv with h | ⟨off, rfl⟩ | rfl
  · rw [ren_closed _ h]; cases h <;> rfl
  · simp [ren, ridx, subA]
  · simp [ren, ridx, subA]
def ScR (fs : List AV) (r : AV) (cs' : List AV) (o' : Obj) (r' : AV) (σ' : ASt) : Prop := r' = r ∧ σ'.bx 0 = some cs' ∧ σ'.mp 1 = some (obE o' fs)
def SC (P : Program) (f : FuncId) (args cs : List AV) (o : Obj) (fs : List AV) (r : AV) (cs' : List AV) (o' : Obj) : Prop := ACall P f args (yst cs (obE o fs)) (ScR fs r cs' o')
def SY (P : Program) (args cs : List AV) (o : Obj) (fs : List AV) (r : AV) (cs' : List AV) (o' : Obj) : Prop := AYield P 1 args (yst cs (obE o fs)) (ScR fs r cs' o')
/-- What comes of such a call. -/
def ScB (σ : ASt) (b m : Nat) (fs : List AV) (r : AV) (cs' : List AV) (o' : Obj) (r' : AV) (σ' : ASt) : Prop :=
  r' = r ∧ ∃ n, σ.next ≤ n ∧ σ' = { σ with bx := upd σ.bx b (some cs'), mp := upd σ.mp m (some (obE o' (fs.map (sub b)))), next := n }
structure ScH (σ : ASt) (b m : Nat) (args cs : List AV) (o : Obj) (fs : List AV) (r : AV) (cs' : List AV) : Prop where
  hargs : ∀ v ∈ args, A0 v
  hfs : ∀ v ∈ fs, F0 v
  hcs : ∀ v ∈ cs, Cl v
  hcs' : ∀ v ∈ cs', Cl v
  hr : Cl r
  bx : σ.bx b = some cs
  mp : σ.mp m = some (obE o (fs.map (sub b)))
  bm : σ.mp b = none
  bs : σ.sl b = none
  mx : σ.bx m = none
  ms : σ.sl m = none
theorem sc_core {b m : Nat} {args cs : List AV} {ob ob' : Obj} {fs : List AV} {r : AV} {cs' : List AV} (hh : ScH σ b m args cs ob fs r cs') {G : Ghost} {w : World} {vs : Array Value} (hv : RepL G w (args.map (subA b m)) vs.toList) (hw : SimW G σ w) :
    ∃ Gc : Ghost, SimW Gc (yst cs (obE ob fs)) w ∧ RepL Gc w args vs.toList ∧ Gc.mp 1 = G.mp m ∧ ∀ v w1, Outc Gc w (ScR fs r cs' ob') v w1 → Outc G w (ScB σ b m fs r cs' ob') v w1 := by
  have hok : σ.Ok := ⟨fun b hb => (hw.fresh b hb).2.2.2.1, fun b hb => (hw.fresh b hb).2.2.2.2.1, fun b hb => (hw.fresh b hb).2.2.2.2.2⟩
  have hbn : b < σ.next := by
    rcases Nat.lt_or_ge b σ.next with h' | h'
    · exact h'
    · have := hok.bx b h'; rw [hh.bx] at this; cases this
  have hmn : m < σ.next := by
    rcases Nat.lt_or_ge m σ.next with h' | h'
    · exact h'
    · have := hok.mp m h'; rw [hh.mp] at this; cases this
  have hne : b ≠ m := fun e => by have := hh.mp; rw [← e, hh.bm] at this; cases this
  obtain ⟨Gc, h1, h2, h3, h4⟩ := frame_core (σ := σ) (σc := yst cs (obE ob fs)) (args := args) [b, m] rfl ⟨fun i hi => if_neg (by simp at hi; omega), fun i hi => if_neg (by simp at hi; omega), fun _ _ => rfl⟩
    (by simp; exact ⟨hbn, hmn⟩) (by simp [hne]) (fun i cs0 e => by
      simp only [yst_bx] at e
      split at e
      · rename_i hi; subst hi
        obtain rfl := Option.some.inj e
        rw [rens_closed hh.hcs]; simpa [ridx] using hh.bx
      · cases e) (fun i es e => by
      simp only [yst_mp] at e
      split at e
      · rename_i hi; subst hi
        obtain rfl := Option.some.inj e
        rw [obE_ren, F0.rens hh.hfs]; simpa [ridx] using hh.mp
      · cases e) (fun i xs e => by cases e) (G := G) (w := w) (vs := vs) (by rw [A0.rens hh.hargs]; exact hv) hw
  refine ⟨Gc, h1, h2, by rw [h3]; simp [ridx], fun v w1 ho => ?_⟩
  -- of what comes behind, only these two are kept
  have ho2 : Outc Gc w (fun r' τ => ∃ n, τ = ⟨fun i => if i = 0 then some cs' else none, fun i => if i = 1 then some (obE ob' fs) else none, fun _ => none, n⟩ ∧ r' = r) v w1 := ho.low fun r' τ ⟨e1, e2, e3⟩ =>
    ⟨⟨fun i => if i = 0 then some cs' else none, fun i => if i = 1 then some (obE ob' fs) else none, fun _ => none, τ.next⟩, ⟨fun i c e => (by
        dsimp only at e
        split at e
        · rename_i hi; subst hi; rw [e2]; exact e
        · cases e), fun i c e => (by
        dsimp only at e
        split at e
        · rename_i hi; subst hi; rw [e3]; exact e
        · cases e), fun i c e => (by cases e), Nat.le_refl _⟩, τ.next, rfl, e1⟩
  have ho3 := h4 _ v w1 ho2
  refine ho3.mono fun r' σ' ⟨rc, τ, ⟨n, e1, e2⟩, e3, e4⟩ => ?_
  subst e2
  refine ⟨by rw [e3, ren_closed _ hh.hr], σ.next + (τ.next - 2), by omega, ?_⟩
  rw [e4, e1]
  unfold back
  have inv0 : ∀ c, rinv [b, m] σ.next c = if σ.next ≤ c then some (2 + (c - σ.next)) else if c = b then some 0 else if c = m then some 1 else none := by
    intro c
    unfold rinv
    split
    · rfl
    · simp [rfind]
  congr 1
  · funext c
    dsimp only
    rw [inv0]
    unfold upd
    by_cases h1 : σ.next ≤ c
    · rw [if_pos h1, if_neg (by omega), hok.bx c h1]
      show Option.map _ (if 2 + (c - σ.next) = 0 then some cs' else none) = none
      rw [if_neg (by omega)]; rfl
    · rw [if_neg h1]
      by_cases h2 : c = b
      · subst h2
        rw [if_pos rfl, if_pos rfl]
        show Option.map _ (some cs') = _
        rw [Option.map_some, rens_closed hh.hcs']
      · rw [if_neg h2, if_neg h2]
        by_cases h3 : c = m
        · subst h3
          rw [if_pos rfl, hh.mx]; rfl
        · rw [if_neg h3]
  · funext c
    dsimp only
    rw [inv0]
    unfold upd
    by_cases h1 : σ.next ≤ c
    · rw [if_pos h1, if_neg (by omega), hok.mp c h1]
      show Option.map _ (if 2 + (c - σ.next) = 1 then some (obE ob' fs) else none) = none
      rw [if_neg (by omega)]; rfl
    · rw [if_neg h1]
      by_cases h2 : c = b
      · subst h2
        rw [if_pos rfl, if_neg hne]
        show Option.map _ (if 0 = 1 then some (obE ob' fs) else none) = _
        rw [if_neg (by omega), hh.bm]; rfl
      · rw [if_neg h2]
        by_cases h3 : c = m
        · subst h3
          rw [if_pos rfl, if_pos rfl]
          show Option.map _ (some (obE ob' fs)) = _
          rw [Option.map_some, obE_ren, F0.rens hh.hfs]
        · rw [if_neg h3, if_neg h3]
  · funext c
    dsimp only
    rw [inv0]
    by_cases h1 : σ.next ≤ c
    · rw [if_pos h1, hok.sl c h1]; rfl
    · rw [if_neg h1]
      by_cases h2 : c = b
      · subst h2; rw [if_pos rfl, hh.bs]; rfl
      · rw [if_neg h2]
        by_cases h3 : c = m
        · subst h3; rw [if_pos rfl, hh.ms]; rfl
        · rw [if_neg h3]
theorem SC.call {f : FuncId} {b m : Nat} {args args' cs : List AV} {ob ob' : Obj} {fs : List AV} {r : AV} {cs' : List AV} (h : SC P f args cs ob fs r cs' ob') (ha : args.map (subA b m) = args') (hh : ScH σ b m args cs ob fs r cs') : ACall P f args' σ (ScB σ b m fs r cs' ob') := by
  subst ha
  intro G w vs hv hw
  obtain ⟨Gc, h1, h2, _, h4⟩ := sc_core hh hv hw
  exact Calls.mono (h Gc w vs h2 h1) fun e w' he => retOf_mono (fun v w1 ho => h4 v w1 ho) he
theorem SY.call {b m : Nat} {args args' cs : List AV} {ob ob' : Obj} {fs : List AV} {r : AV} {cs' : List AV} (h : SY P args cs ob fs r cs' ob') (ha : args.map (subA b m) = args') (hh : ScH σ b m args cs ob fs r cs') : AYield P m args' σ (ScB σ b m fs r cs' ob') := by
  subst ha
  intro G w vs μ hv hw hμ
  obtain ⟨Gc, h1, h2, h3, h4⟩ := sc_core hh hv hw
  obtain ⟨fn, tmps, assign, body, k1, k2⟩ := h Gc w vs μ h2 h1 (h3.trans hμ)
  exact ⟨fn, tmps, assign, body, k1, RoundIn.mono k2 fun e w' he => retOf_mono (fun v w1 ho => h4 v w1 ho) he⟩
end Go.AL
