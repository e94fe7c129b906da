/- Parts of the proof of MonoHolds: the logic, contracts, plain laws. -/
import Derived.Test.YtjldlcakinmajaaZMonoHolds6
import Derived.Deep.Slices
/-! Regions that draw their order, in which one variable is made and filled: the others leave all as it is, whenever they come. -/
namespace Go.AL
set_option linter.unusedVariables false
set_option linter.unusedSimpArgs false
variable {P : Program} {σ σ1 σ2 : ASt} {R : AV → ASt → Prop} {D : List Deferred} {Q : Exit → List AV → ASt → Prop} {fr : List AV} {ops : Array Oper} {A S : Nat}
/-- An operation that turns memory. -/
def YldT (P : Program) (ops : Array Oper) (σ τ : ASt) (o : Oper) (fr : List AV) (r : AV) : Prop :=
  ∀ G (a : Act) w, (∀ t ∈ o.looksAt ops, Rep G w (fget fr t) (a.eval (.tmp t))) → SimW G σ w →
    Region.wanted o (yielded ops a.tmps) = true ∧ OutcN P G w (fun r' σ' => r' = r ∧ σ' = τ) ((execOp a.eval o).run P w)
theorem YldT.put {τ : ASt} {o : Oper} {r : AV} {d : Option Tmp} {v : AV} (hd : ∀ x, d = some x → x ∉ o.looksAt ops) : YldT P ops σ τ o (aput fr d v) r ↔ YldT P ops σ τ o fr r := by
  have e : ∀ t ∈ o.looksAt ops, fget (aput fr d v) t = fget fr t := by
    intro t ht
    cases d with
    | none => rfl
    | some x => exact fget_fset_ne fr x t v fun e => hd x rfl (e ▸ ht)
  constructor
  · intro h G a w ha hw
    exact h G a w (fun t ht => by rw [e t ht]; exact ha t ht) hw
  · intro h G a w ha hw
    exact h G a w (fun t ht => by rw [← e t ht]; exact ha t ht) hw
/-- Number i, of which A makes, and S fills. -/
def Y2 (P : Program) (ops : Array Oper) (A S : Nat) (σ σ1 σ2 : ASt) (i : Nat) (o : Oper) (fr : List AV) (r : AV) : Prop :=
  (i = A ∧ YldT P ops σ σ1 o fr r) ∨ (i = S ∧ YldT P ops σ1 σ2 o fr r) ∨ (i ≠ A ∧ i ≠ S ∧ Yld P ops σ o fr r ∧ Yld P ops σ1 o fr r ∧ Yld P ops σ2 o fr r)
theorem Y2.put {i : Nat} {o : Oper} {r : AV} {d : Option Tmp} {v : AV} (hd : ∀ x, d = some x → x ∉ o.looksAt ops) : Y2 P ops A S σ σ1 σ2 i o (aput fr d v) r ↔ Y2 P ops A S σ σ1 σ2 i o fr r := by
  unfold Y2
  rw [YldT.put hd, YldT.put hd, Yld.put hd, Yld.put hd, Yld.put hd]
def yOp2 (P : Program) (ops : Array Oper) (A S : Nat) (σ σ1 σ2 : ASt) (i : Nat) (K : List AV → Prop) (fr : List AV) : Prop :=
  match ops[i]? with
  | none => K fr
  | some o => ∃ r, Y2 P ops A S σ σ1 σ2 i o fr r ∧ K (aput fr o.dst r)
def any2 (P : Program) (md : Region.Mode) (ops : Array Oper) (A S : Nat) (σ σ1 σ2 : ASt) (K : Array Bool → List AV → Prop) : Nat → Array Bool → List AV → Prop
  | 0, listed, fr => Region.ready md ops listed = [] ∧ K listed fr
  | fuel + 1, listed, fr => (Region.ready md ops listed = [] → K listed fr) ∧ ∀ i ∈ Region.ready md ops listed, yOp2 P ops A S σ σ1 σ2 i (any2 P md ops A S σ σ1 σ2 K fuel (listed.setIfInBounds i true)) fr
theorem yOp2_mono {i : Nat} {K K' : List AV → Prop} (h : ∀ fr, K fr → K' fr) (hh : yOp2 P ops A S σ σ1 σ2 i K fr) : yOp2 P ops A S σ σ1 σ2 i K' fr := by
  unfold yOp2 at *
  split
  · rename_i ho; simp only [ho] at hh; exact h _ hh
  · rename_i o ho
    simp only [ho] at hh
    obtain ⟨r, h1, h2⟩ := hh
    exact ⟨r, h1, h _ h2⟩
/-- What memory is, by what is done. -/
def st2 (A S : Nat) (σ σ1 σ2 : ASt) (listed : Array Bool) : ASt := if listed.getD S true = true then σ2 else if listed.getD A true = true then σ1 else σ
theorem getD_set_eq {listed : Array Bool} {i : Nat} (h : i < listed.size) : (listed.setIfInBounds i true).getD i true = true := by simp [h]
theorem wpAny_of_any2 {md : Region.Mode} {K : Array Bool → List AV → Prop} {D : List Deferred} {Q : Exit → List AV → ASt → Prop} (hne : A ≠ S) (hK : ∀ listed fr, K listed fr → listed.getD S true = true ∧ Q .normal fr σ2)
    (hord : ∀ oS, ops[S]? = some oS → ∃ e ∈ oS.after, Region.binds md e = true ∧ e.on = A) : ∀ (fuel : Nat) (listed : Array Bool) (fr : List AV) (G : Ghost) (a : Act) (w : World) (G0 : Ghost) (w0 : World),
    listed.size = ops.size → (listed.getD S true = true → listed.getD A true = true) →
    Le G0 w0 G w → Sim G fr (st2 A S σ σ1 σ2 listed) D a w → any2 P md ops A S σ σ1 σ2 K fuel listed fr → wpAny P md ops (lift G0 w0 D Q) fuel listed a w
  | 0, listed, fr, G, a, w, G0, w0, hsz, hin, hl, hs, h => by
    obtain ⟨k1, k2⟩ := hK _ _ h.2
    unfold st2 at hs
    rw [if_pos k1] at hs
    exact ⟨h.1, G, fr, σ2, hl, hs, k2⟩
  | fuel + 1, listed, fr, G, a, w, G0, w0, hsz, hin, hl, hs, h => by
    refine ⟨fun h0 => ?_, fun i hi => ?_⟩
    · obtain ⟨k1, k2⟩ := hK _ _ (h.1 h0)
      unfold st2 at hs
      rw [if_pos k1] at hs
      exact ⟨G, fr, σ2, hl, hs, k2⟩
    have hy := h.2 i hi
    unfold yOp2 at hy
    obtain ⟨hun, oi, hoi, hall⟩ := mem_ready.1 hi
    have hib : i < listed.size := by
      rw [hsz]; exact (Array.getElem?_eq_some_iff.1 hoi).1
    unfold wpOp
    rw [hoi] at hy ⊢
    simp only at hy ⊢
    obtain ⟨r, hr, hk⟩ := hy
    have hsz' : (listed.setIfInBounds i true).size = ops.size := by simpa using hsz
    -- what comes behind
    have hinv : (listed.setIfInBounds i true).getD S true = true → (listed.setIfInBounds i true).getD A true = true := by
      intro h1
      by_cases hiA : i = A
      · subst hiA; exact getD_set_eq hib
      · rw [getD_set_ne true hiA]
        by_cases hiS : i = S
        · subst hiS
          obtain ⟨e, he, hb, hon⟩ := hord oi hoi
          have := hall e he hb
          rw [hon] at this
          rcases Nat.lt_or_ge A listed.size with h' | h'
          · simpa [h'] using this
          · simp [Array.getElem?_eq_none h'] at this
        · rw [getD_set_ne true hiS] at h1
          exact hin h1
    have key : ∀ τ, st2 A S σ σ1 σ2 (listed.setIfInBounds i true) = τ → OutcN P G w (fun r' σ' => r' = r ∧ σ' = τ) ((execOp a.eval oi).run P w) →
        wpO P oi a w (wpAny P md ops (lift G0 w0 D Q) fuel (listed.setIfInBounds i true)) (lift G0 w0 D Q) := by
      intro τ hτ hq
      unfold wpO
      have key : ∀ v w', Outc G w (fun r' σ' => r' = r ∧ σ' = τ) v w' → wpAny P md ops (lift G0 w0 D Q) fuel (listed.setIfInBounds i true) (a.put oi.dst v) w' := by
        rintro v w' ⟨r', G', σ', hl', hw', hr', e1, e2⟩
        rw [e1] at hr'
        rw [e2, ← hτ] at hw'
        exact wpAny_of_any2 hne hK hord fuel _ _ G' _ w' G0 w0 hsz' hinv (hl.trans hl') ((hs.le hl' hw').put oi.dst hr') hk
      generalize (execOp a.eval oi).run P w = n at hq
      cases n with
      | halt => exact hq.elim
      | ok n w' =>
        cases n with
        | value v => exact key v w' hq
        | skip => exact key undef w' hq
        | enter f args =>
          refine Calls.mono hq fun e w'' he => ?_
          cases e with
          | returned v => exact key v w'' he
          | panicked c => exact he.elim
          | outgrown => exact he.elim
        | round l f tmps assign body =>
          refine RoundIn.mono hq fun e w'' he => ?_
          cases e with
          | returned v => exact key v w'' he
          | panicked c => exact he.elim
          | outgrown => exact he.elim
        | _ => exact hq.elim
    rcases hr with ⟨rfl, hr⟩ | ⟨rfl, hr⟩ | ⟨hA, hS, y0, y1, y2⟩
    · have hS0 : listed.getD S true ≠ true := fun h => by rw [hin h] at hun; cases hun
      have e0 : st2 i S σ σ1 σ2 listed = σ := by unfold st2; rw [if_neg hS0, if_neg (by rw [hun]; decide)]
      have e1 : st2 i S σ σ1 σ2 (listed.setIfInBounds i true) = σ1 := by unfold st2; rw [getD_set_ne true hne, if_neg hS0, if_pos (getD_set_eq hib)]
      rw [e0] at hs
      obtain ⟨h1, h2⟩ := hr G a w (fun t _ => hs.ev (.tmp t)) hs.w
      rw [if_pos h1]
      exact (key σ1 e1 h2)
    · have hA1 : listed.getD A true = true := by
        obtain ⟨e, he, hb, hon⟩ := hord oi hoi
        have := hall e he hb
        rw [hon] at this
        rcases Nat.lt_or_ge A listed.size with h' | h'
        · simpa [h'] using this
        · simp [Array.getElem?_eq_none h'] at this
      have e0 : st2 A i σ σ1 σ2 listed = σ1 := by unfold st2; rw [if_neg (by rw [hun]; decide), if_pos hA1]
      have e1 : st2 A i σ σ1 σ2 (listed.setIfInBounds i true) = σ2 := by unfold st2; rw [if_pos (getD_set_eq hib)]
      rw [e0] at hs
      obtain ⟨h1, h2⟩ := hr G a w (fun t _ => hs.ev (.tmp t)) hs.w
      rw [if_pos h1]
      exact (key σ2 e1 h2)
    · have e1 : st2 A S σ σ1 σ2 (listed.setIfInBounds i true) = st2 A S σ σ1 σ2 listed := by unfold st2; rw [getD_set_ne true hA, getD_set_ne true hS]
      have hy : Yld P ops (st2 A S σ σ1 σ2 listed) oi fr r := by unfold st2; split; · exact y2
                                                                 · split; · exact y1
                                                                   · exact y0
      have hyl := hy G a w (fun t _ => hs.ev (.tmp t)) hs.w
      by_cases hw : Region.wanted oi (yielded ops a.tmps) = true
      · rw [if_pos hw]
        exact (key _ e1 (hyl.1 hw))
      · rw [if_neg hw]
        have hu := hyl.2 (by simpa using hw)
        exact wpAny_of_any2 hne hK hord fuel _ _ G _ w G0 w0 hsz' hinv hl (by rw [e1]; exact hs.put oi.dst hu) hk
theorem yOp2_put {i j : Nat} {oi oj : Oper} {v : AV} (hj : ops[j]? = some oj) (hap : oi.apart ops oj = true) {K : List AV → Prop} (hy : Y2 P ops A S σ σ1 σ2 i oi fr v) (h : yOp2 P ops A S σ σ1 σ2 j K (aput fr oi.dst v)) :
    yOp2 P ops A S σ σ1 σ2 j (fun fr' => Y2 P ops A S σ σ1 σ2 i oi fr' v ∧ K (aput fr' oi.dst v)) fr := by
  obtain ⟨h1, h2, h3⟩ := Oper.apart_spec hap
  unfold yOp2 at *
  simp only [hj] at *
  obtain ⟨r, hr, hk⟩ := h
  refine ⟨r, (Y2.put h1).1 hr, (Y2.put h3).2 hy, ?_⟩
  rw [← aput_comm fr v r h2]
  exact hk
theorem any2_first {md : Region.Mode} {K : Array Bool → List AV → Prop} {i : Nat} {oi : Oper} {v : AV} (hi : ops[i]? = some oi) : ∀ (fuel : Nat) (listed : Array Bool) (fr : List AV),
      (∀ j oj, ops[j]? = some oj → j ≠ i → listed.getD j true = false → (∀ e ∈ oj.after, Region.binds md e = true → e.on ≠ i) → oi.apart ops oj = true) →
      i ∈ Region.ready md ops listed → Y2 P ops A S σ σ1 σ2 i oi fr v →
      any2 P md ops A S σ σ1 σ2 K fuel (listed.setIfInBounds i true) (aput fr oi.dst v) → any2 P md ops A S σ σ1 σ2 K (fuel + 1) listed fr := by
  intro fuel
  have self : ∀ {K : List AV → Prop} {fr}, Y2 P ops A S σ σ1 σ2 i oi fr v → K (aput fr oi.dst v) → yOp2 P ops A S σ σ1 σ2 i K fr := fun hy hk => by
    unfold yOp2; simp only [hi]; exact ⟨v, hy, hk⟩
  induction fuel with
  | zero =>
    intro listed fr _ hr hy H
    refine ⟨fun h => (by rw [h] at hr; cases hr), fun j hj => ?_⟩
    by_cases hji : j = i
    · subst hji; exact self hy H
    · have := ready_mono hj hji
      rw [H.1] at this
      cases this
  | succ fuel ih =>
    intro listed fr hfree hr hy H
    refine ⟨fun h => (by rw [h] at hr; cases hr), fun j hj => ?_⟩
    by_cases hji : j = i
    · subst hji; exact self hy H
    · have h1 := H.2 j (ready_mono hj hji)
      obtain ⟨hjun, oj, hoj, hall⟩ := mem_ready.1 hj
      have hnot : ∀ e ∈ oj.after, Region.binds md e = true → e.on ≠ i := fun e he hb heq => by
        have h1 := hall e he hb
        have h0 := (mem_ready.1 hr).1
        rw [heq] at h1
        rcases Nat.lt_or_ge i listed.size with h' | h'
        · simp [h'] at h0 h1; rw [h0] at h1; cases h1
        · simp [Array.getElem?_eq_none h'] at h1
      have h2 := yOp2_put hoj (hfree j oj hoj hji hjun hnot) hy h1
      have hfree' : ∀ k ok, ops[k]? = some ok → k ≠ i → (listed.setIfInBounds j true).getD k true = false →
          (∀ e ∈ ok.after, Region.binds md e = true → e.on ≠ i) → oi.apart ops ok = true := fun k ok hk hki hun hno => by
        refine hfree k ok hk hki ?_ hno
        by_cases hjk : j = k
        · subst hjk; exact hjun
        · rw [getD_set_ne true hjk] at hun; exact hun
      refine yOp2_mono (fun fr' h3 => ih (listed.setIfInBounds j true) fr' hfree' (ready_mono hr (Ne.symm hji)) h3.1 ?_) h2
      rw [Array.setIfInBounds_comm _ _ hji]
      exact h3.2
/-- The order of the text. -/
def YL2 (P : Program) (ops : Array Oper) (A S : Nat) (σ σ1 σ2 : ASt) (K : List AV → Prop) : Nat → List Oper → List AV → Prop
  | _, [], fr => K fr
  | k, o :: rest, fr => ∃ r, Y2 P ops A S σ σ1 σ2 k o fr r ∧ YL2 P ops A S σ σ1 σ2 K (k + 1) rest (aput fr o.dst r)
theorem any2_lex {md : Region.Mode} {K : List AV → Prop} (hs : Region.noSelect ops = true) : ∀ (l : List Oper) (k : Nat) (listed : Array Bool) (fr : List AV), (∀ j, l[j]? = ops[k + j]?) →
    Region.lexFrom md ops l.length k listed = true → (listFrom l.length k listed).getD S true = true → YL2 P ops A S σ σ1 σ2 K k l fr → any2 P md ops A S σ σ1 σ2 (fun listed fr => listed.getD S true = true ∧ K fr) l.length listed fr
  | [], _, _, _, _, hB, hS, h => ⟨by simpa [Region.lexFrom] using hB, hS, h⟩
  | o :: l, k, listed, fr, hl, hB, hS, h => by
    have h0 : ops[k]? = some o := by simpa using (hl 0).symm
    simp only [List.length_cons, Region.lexFrom, Bool.and_eq_true] at hB
    obtain ⟨⟨hr, hf⟩, hB'⟩ := hB
    obtain ⟨r, hy, hK⟩ := h
    exact any2_first h0 l.length listed fr (Region.free_spec h0 hf) (by simpa using hr) hy
      (any2_lex hs l (k + 1) _ _ (fun j => by have := hl (j + 1); simpa [Nat.add_assoc, Nat.add_comm 1 j] using this) hB' hS hK)
/-- What the two need. -/
def specB (l : List Oper) (A S : Nat) : Bool :=
  decide (A ≠ S ∧ A < l.length) && (listFrom l.length 0 (Array.replicate l.length false)).getD S true && (match l[S]? with | some o => o.after.any fun e => Region.binds .any e && e.on == A | none => false) && Region.lexB .any l.toArray
theorem aw_draw2 {id : Nat} {l : List Oper} (A S : Nat) (hm : P.follows .mixedOrders = true) (hB : specB l A S = true) (h : YL2 P l.toArray A S σ σ1 σ2 (fun fr => Q .normal fr σ2) 0 l fr) : AW P D (.region id l.toArray true) Q fr σ := by
  intro _ _ G a w hs
  simp only [specB, Bool.and_eq_true, decide_eq_true_eq, Region.lexB] at hB
  obtain ⟨⟨⟨⟨hne, hAl⟩, hend⟩, hord⟩, hB1, hB2⟩ := hB
  have hb : Go.RowKit.Below w.heap.size w { w with drawn := w.drawn + 1 } := ⟨rfl, rfl, rfl, Nat.le_refl _, fun _ _ => rfl⟩
  have hs2 : Sim G fr σ D a { w with drawn := w.drawn + 1 } := hs.le (Le.grow hs.w hb) (hs.w.grow hb)
  have h0 : ∀ j, j < l.length → (Array.replicate l.length false).getD j true = false := fun j hj => by simp [hj]
  have hSl : S < l.length := by
    rcases Nat.lt_or_ge S l.length with h' | h'
    · exact h'
    · rw [List.getElem?_eq_none h'] at hord; cases hord
  have hord' : ∀ oS, l.toArray[S]? = some oS → ∃ e ∈ oS.after, Region.binds .any e = true ∧ e.on = A := by
    intro oS ho
    have ho : l[S]? = some oS := by simpa using ho
    rw [ho] at hord
    obtain ⟨e, he, hb⟩ := Array.any_eq_true'.1 hord
    simp only [Bool.and_eq_true, beq_iff_eq] at hb
    exact ⟨e, he, hb⟩
  have hst : st2 A S σ σ1 σ2 (Array.replicate l.length false) = σ := by
    unfold st2; rw [if_neg (by rw [h0 S hSl]; decide), if_neg (by rw [h0 A hAl]; decide)]
  have hl2 := any2_lex (P := P) (A := A) (S := S) (σ := σ) (σ1 := σ1) (σ2 := σ2) (K := fun fr => Q .normal fr σ2) (md := .any) hB1 l 0 (Array.replicate l.length false) fr (by simp) (by simpa using hB2) hend h
  refine wp_region_any hm ?_
  have hsz : l.toArray.size = l.length := by simp
  rw [hsz]
  exact wpAny_of_any2 hne (fun listed fr h => h) hord' _ _ fr G a _ G w (by simp) (fun h => by rw [h0 S hSl] at h; cases h) (Le.grow hs.w hb) (by rw [hst]; exact hs2) hl2
/-! ### how it is shown -/
/-- As far as it goes. -/
def YR2 (P : Program) (ops : Array Oper) (A S : Nat) (σ σ1 σ2 : ASt) (K : List AV → Prop) : Nat → List Oper → List AV → Prop
  | _, [], fr => K fr
  | k, o :: rest, fr =>
    if k = A ∨ k = S ∨ o.guard.isSome = true then YL2 P ops A S σ σ1 σ2 K k (o :: rest) fr else
    match aopP P o (aev fr) σ, aopP P o (aev fr) σ1, aopP P o (aev fr) σ2 with
    | some r, some r1, some r2 => (r1 = r ∧ r2 = r) ∧ Shut (YR2 P ops A S σ σ1 σ2 K (k + 1) rest (aput fr o.dst r))
    | _, _, _ => YL2 P ops A S σ σ1 σ2 K k (o :: rest) fr
theorem yl2_run {K : List AV → Prop} : ∀ {l : List Oper} {k : Nat} {fr : List AV}, YR2 P ops A S σ σ1 σ2 K k l fr → YL2 P ops A S σ σ1 σ2 K k l fr
  | [], _, _, h => h
  | o :: rest, k, fr, h => by
    unfold YR2 at h
    split at h
    · exact h
    · rename_i hc
      have hA : k ≠ A := fun e => hc (.inl e)
      have hS : k ≠ S := fun e => hc (.inr (.inl e))
      have hg : o.guard = none := by
        cases hq : o.guard with
        | none => rfl
        | some x => exact absurd (by rw [hq]; rfl) (fun e => hc (.inr (.inr e)))
      split at h
      · rename_i r r1 r2 e0 e1 e2
        obtain ⟨⟨rfl, rfl⟩, h⟩ := h
        exact ⟨_, .inr (.inr ⟨hA, hS, yld_plain hg e0, yld_plain hg e1, yld_plain hg e2⟩), yl2_run h.out⟩
      · exact h
@[simp] theorem shut_y2nil {K : List AV → Prop} {k : Nat} : Shut (YR2 P ops A S σ σ1 σ2 K k [] fr) ↔ K fr := ⟨fun h => h.1, fun h => ⟨h⟩⟩
@[simp] theorem shut_y2cons {K : List AV → Prop} {o : Oper} {rest : List Oper} {k : Nat} : Shut (YR2 P ops A S σ σ1 σ2 K k (o :: rest) fr) ↔ (
    if k = A ∨ k = S ∨ o.guard.isSome = true then YL2 P ops A S σ σ1 σ2 K k (o :: rest) fr else
    match aopP P o (aev fr) σ, aopP P o (aev fr) σ1, aopP P o (aev fr) σ2 with
    | some r, some r1, some r2 => (r1 = r ∧ r2 = r) ∧ Shut (YR2 P ops A S σ σ1 σ2 K (k + 1) rest (aput fr o.dst r))
    | _, _, _ => YL2 P ops A S σ σ1 σ2 K k (o :: rest) fr) := ⟨fun h => by have := h.1; unfold YR2 at this; exact this, fun h => ⟨by unfold YR2; exact h⟩⟩
theorem aw_draw2' {id : Nat} {l : List Oper} (A S : Nat) (σ1 σ2 : ASt) (hm : P.follows .mixedOrders = true) (hB : specB l A S = true) (h : Shut (YR2 P l.toArray A S σ σ1 σ2 (fun fr => Q .normal fr σ2) 0 l fr)) : AW P D (.region id l.toArray true) Q fr σ :=
  aw_draw2 A S hm hB (yl2_run h.out)
theorem yldT_opq {τ : ASt} {o : Oper} {r : AV} (hg : o.guard = none) (h : ∀ ρ, (∀ x ∈ o.op.operands, ρ x = aev fr x) → OpQ P o ρ σ fun r' σ' => r' = r ∧ σ' = τ) : YldT P ops σ τ o fr r := by
  intro G a w ha hw
  exact ⟨by simp [Region.wanted, hg], h (only o (aev fr)) (fun x hx => (only_eq x hx).symm) G a.eval w (only_rep ha) hw⟩
theorem yl2_alloc {K : List AV → Prop} {o : Oper} {rest : List Oper} {t : TypeId} {z : AV} (ho : o.op = .alloc t) (hg : o.guard = none) (hz : tzero P t = some z) (hx : AV.okv z = true)
    (hk : Shut (YR2 P ops A S σ (σ.addBx z.cells) σ2 K (A + 1) rest (aput fr o.dst (.ptr σ.next 0)))) : YL2 P ops A S σ (σ.addBx z.cells) σ2 K A (o :: rest) fr :=
  ⟨_, .inl ⟨rfl, yldT_opq hg fun ρ _ => opq_alloc_mut ho hz hx ⟨rfl, rfl⟩⟩, yl2_run hk.out⟩
theorem yl2_store {K : List AV → Prop} {o : Oper} {rest : List Oper} {t : TypeId} {x y : Operand} (ho : o.op = .store t x y) (hg : o.guard = none) (h : astore P σ1 t (aev fr x) (aev fr y) = some σ2)
    (hk : Shut (YR2 P ops A S σ σ1 σ2 K (S + 1) rest (aput fr o.dst (.p undef)))) : YL2 P ops A S σ σ1 σ2 K S (o :: rest) fr :=
  ⟨_, .inr (.inl ⟨rfl, yldT_opq hg fun ρ hρ => opq_store ho (by rw [hρ x (by rw [ho]; simp [Op.operands]), hρ y (by rw [ho]; simp [Op.operands])]; exact h) ⟨rfl, rfl⟩⟩), yl2_run hk.out⟩
theorem yl2_pure {K : List AV → Prop} {o : Oper} {rest : List Oper} {k : Nat} {f : Operand} {aa : Array Operand} {ts : Array TypeId} (hA : k ≠ A) (hS : k ≠ S) (ho : o.op = .call { callee := .value f, args := aa, argTypes := ts }) (hg : o.guard = none)
    {F : FuncId} {first cap : List AV} (hf : acallee (aev fr f) = some (F, first, cap)) (hc : callable P F = true) {args : List AV} (ha : first ++ aa.toList.map (aev fr) ++ cap = args) {r : AV} (h : APure P F args r) (hcl : ∀ a ∈ args, Cl a) (hr : Cl r)
    (hk : Shut (YR2 P ops A S σ σ1 σ2 K (k + 1) rest (aput fr o.dst r))) : YL2 P ops A S σ σ1 σ2 K k (o :: rest) fr :=
  ⟨r, .inr (.inr ⟨hA, hS, yld_opq hg fun ρ hρ => opq_pure (ρ0 := aev fr) ho hf hc ha h hcl hr hρ, yld_opq hg fun ρ hρ => opq_pure (ρ0 := aev fr) ho hf hc ha h hcl hr hρ, yld_opq hg fun ρ hρ => opq_pure (ρ0 := aev fr) ho hf hc ha h hcl hr hρ⟩), yl2_run hk.out⟩
end Go.AL
/-! Arguments that are slices. -/
namespace Go.AL
open Go.RowKit (Below)
set_option linter.unusedVariables false
theorem cell_lt {W : World} {β o : Nat} {v : Value} (h : W.cell? ⟨β, o, none⟩ = some v) : β < W.heap.size := by
  rcases Nat.lt_or_ge β W.heap.size with h' | h'
  · exact h'
  · unfold World.cell? at h; simp [Array.getElem?_eq_none h'] at h
theorem rep_rows {W : World} {β o k len cap : Nat} (xs : Nat → List Value) (hk : ∀ i, i < len → (xs i).length = k) (hle : len ≤ cap) (F : Nat → AV) (hF : ∀ i, i < len → (F i).cells = (xs i).map AV.p)
    (hc : ∀ i, i < len → ∀ j c, (xs i)[j]? = some c → W.cell? ⟨β, o + (i * k + j), none⟩ = some c) : Rep (G0 W) W (.vsl ((List.range len).map F)) (.slice (some ⟨β, o, none⟩) len cap) := by
  have at_ : ∀ (i j : Nat) c, rowCell ((List.range len).map F) i j = some c → i < len ∧ ∃ u, (xs i)[j]? = some u ∧ c = .p u := by
    intro i j c h
    unfold rowCell at h
    obtain ⟨x, h1, h2⟩ := Option.bind_eq_some_iff.1 h
    rw [List.getElem?_map] at h1
    obtain ⟨i', h3, rfl⟩ := Option.map_eq_some_iff.1 h1
    obtain ⟨hi, rfl⟩ : i < len ∧ i = i' := by
      have := List.getElem?_eq_some_iff.1 h3
      obtain ⟨hl, he⟩ := this
      simp at hl he
      exact ⟨hl, he⟩
    rw [hF i hi, List.getElem?_map] at h2
    obtain ⟨u, h4, rfl⟩ := Option.map_eq_some_iff.1 h2
    exact ⟨hi, u, h4, rfl⟩
  have key := Rep.vsl (G := G0 W) (w := W) ((List.range len).map F) β o k cap (fun i j => (xs i).getD j undef) (by simpa using hle)
    (fun i x hx => by
      rw [List.getElem?_map] at hx
      obtain ⟨i', h3, rfl⟩ := Option.map_eq_some_iff.1 hx
      obtain ⟨hl, he⟩ := List.getElem?_eq_some_iff.1 h3
      simp at hl he
      subst he
      rw [hF i hl, List.length_map]; exact hk i hl)
    (fun i j c h => by
      obtain ⟨hi, u, hu, rfl⟩ := at_ i j c h
      have := hc i hi j u hu
      rw [Nat.add_assoc]
      exact ⟨cell_lt this, by rw [this, List.getD, hu]; rfl⟩)
    (fun i j c h => by
      obtain ⟨hi, u, hu, rfl⟩ := at_ i j c h
      have e : (xs i).getD j undef = u := by rw [List.getD, hu]; rfl
      rw [e]
      exact .p u)
  simpa using key
end Go.AL
/-! What is handed back, closed: slices of the function's own stay as they are; no slice is the empty one. -/
namespace Go.AL
open Go.RowKit (Below)
set_option linter.unusedVariables false
set_option linter.unusedSimpArgs false
variable {P : Program} {σ : ASt} {R : AV → ASt → Prop}
def clo0 (σ : ASt) : AV → AV
  | .p (.slice none 0 _) => .vsl []
  | .hsl b off n => match σ.sl b with
    | some xs => if off + n ≤ xs.length then .vsl ((xs.drop off).take n) else .any
    | none => .hsl b off n
  | v => v
def clo1 (σ : ASt) : AV → AV
  | .agg cs => .agg (cs.map (clo0 σ))
  | v => clo0 σ v
def clo (σ : ASt) : AV → AV
  | .tup cs => .tup (cs.map (clo1 σ))
  | v => clo1 σ v
theorem clo_rep {G G' w} (f0 : ∀ v u, Rep G w v u → Rep G' w (clo0 σ v) u) : ∀ v u, Rep G w v u → Rep G' w (clo σ v) u := by
  have f1 : ∀ v u, Rep G w v u → Rep G' w (clo1 σ v) u := by
    intro v u hr
    by_cases hv : ∃ cs, v = .agg cs
    · obtain ⟨cs, rfl⟩ := hv
      cases hr with
      | agg _ vs hs h =>
        refine .agg _ vs (by simpa using hs) fun i c v hc hv => ?_
        rw [List.getElem?_map] at hc
        obtain ⟨c', hc', rfl⟩ := Option.map_eq_some_iff.1 hc
        exact f0 _ _ (h i c' v hc' hv)
    · have : clo1 σ v = clo0 σ v := by cases v <;> first | rfl | exact absurd ⟨_, rfl⟩ hv
      rw [this]; exact f0 v u hr
  intro v u hr
  by_cases hv : ∃ cs, v = .tup cs
  · obtain ⟨cs, rfl⟩ := hv
    cases hr with
    | tup _ vs hs h =>
      refine .tup _ vs (by simpa using hs) fun i c v hc hv => ?_
      rw [List.getElem?_map] at hc
      obtain ⟨c', hc', rfl⟩ := Option.map_eq_some_iff.1 hc
      exact f1 _ _ (h i c' v hc' hv)
  · have : clo σ v = clo1 σ v := by cases v <;> first | rfl | exact absurd ⟨_, rfl⟩ hv
    rw [this]; exact f1 v u hr
def ASt.noSl (σ : ASt) : ASt := { σ with sl := fun _ => none }
theorem noSl_le (σ : ASt) : (σ.noSl).Le σ := ⟨fun _ _ h => h, fun _ _ h => h, fun _ _ h => (nomatch h), Nat.le_refl _⟩
theorem SimW.close {G σ w} (h : SimW G σ w) : ∃ G', Le G w G' w ∧ SimW G' σ.noSl w ∧ ∀ v u, Rep G w v u → Rep G' w (clo σ v) u := by
  obtain ⟨q, hq⟩ : ∃ q : Nat → Nat → Prop, q = fun γ _ => ∃ b xs r, σ.sl b = some xs ∧ G.sl b = some (some (γ, r)) := ⟨_, rfl⟩
  have hqo : ∀ γ o, q γ o → ∃ b, Owns G σ γ (2, b) := fun γ o e => by
    rw [hq] at e; obtain ⟨b, xs, r, h1, h2⟩ := e; exact ⟨b, .sl b γ r xs h1 h2⟩
  have hl : Le G w (G.addSt q) w := ⟨rfl, fun _ _ e => e, fun _ _ e => e, fun _ _ e => e, fun _ _ e => .inl e, fun γ o e => e.imp id fun e => by
    obtain ⟨b, hb⟩ := hqo γ o e; exact ⟨(h.own _ _ hb).1, (h.own _ _ hb).2.2⟩, fun _ _ _ => rfl, Below.refl _ _⟩
  refine ⟨_, hl, ?_, clo_rep fun v u hr => ?_⟩
  · have hw := h.less (noSl_le σ)
    have hown : ∀ γ k, Owns (G.addSt q) σ.noSl γ k → Owns G σ γ k ∧ k.1 ≠ 2 := by
      intro γ k hk
      cases hk with
      | bx b' β' cs2 h2 g2 => exact ⟨.bx _ _ cs2 h2 g2, by simp⟩
      | mp b' β' cs2 h2 g2 => exact ⟨.mp _ _ cs2 h2 g2, by simp⟩
      | sl b' β' r cs2 h2 g2 => cases h2
    refine ⟨hw.base, fun b' cs e => (hw.bx b' cs e).mono hl fun _ _ => rfl, fun b' cs e => (hw.mp b' cs e).mono hl fun _ _ => rfl, fun b' cs e => (nomatch e), fun γ k hk => ?_, fun γ o e => ?_, hw.fresh⟩
    · have hk1 := hown γ k hk
      refine ⟨(h.own γ k hk1.1).1, fun k' hk' => (h.own γ k hk1.1).2.1 k' (hown _ _ hk').1, fun o e => ?_⟩
      rcases e with e | e
      · exact (h.own γ k hk1.1).2.2 o e
      · obtain ⟨b, hb⟩ := hqo γ o e
        have := (h.own γ _ hk1.1).2.1 _ hb
        exact hk1.2 (by rw [← this])
    · rcases e with e | e
      · exact h.stIn _ _ e
      · obtain ⟨b, hb⟩ := hqo γ o e; exact h.own_lt hb
  · have hr0 := hr.mono hl
    by_cases hv : ∃ cap, v = .p (.slice none 0 cap)
    · obtain ⟨cap, rfl⟩ := hv
      cases hr
      exact .vnil none cap
    by_cases hv2 : ∃ b off n, v = .hsl b off n
    · obtain ⟨b, off, n, rfl⟩ := hv2
      simp only [clo0]
      cases hb : σ.sl b with
      | none => exact hr0
      | some xs =>
        simp only
        split
        · rename_i hin
          have hS := h.sl b xs hb
          cases hr with
          | hsl _ _ _ β' o' s' cap' g hle =>
            rcases hS with ⟨g1, rfl⟩ | ⟨β, o, s, cap, arr, el, g1, g2, g3, g4, g5, g6⟩
            · rw [g1] at g; cases g
            obtain ⟨rfl, rfl, rfl, rfl⟩ : β = β' ∧ o = o' ∧ s = s' ∧ cap = cap' := by rw [g] at g1; simpa using g1.symm
            have hlen : ((xs.drop off).take n).length = n := by simp; omega
            have hc0 : n ≤ cap - off := by omega
            have hc1 : ((xs.drop off).take n).length ≤ cap - off := by rw [hlen]; exact hc0
            have hin2 : ∀ i j c, rowCell ((xs.drop off).take n) i j = some c → rowCell xs (off + i) j = some c ∧ o + (off + i) * s + j < arr.size := by
              intro i j c hc
              obtain ⟨hc2, hi⟩ := rowCell_seg _ _ _ _ _ _ hc
              obtain ⟨h1, h2, h3⟩ := rowCell_lt hc2 g5
              have : xs.length * s ≤ cap * s := Nat.mul_le_mul_right _ g3.2
              exact ⟨hc2, by omega⟩
            have key := Rep.vsl (G := G.addSt q) (w := w) ((xs.drop off).take n) β (o + off * s) s (cap - off) (fun i j => arr.getD (o + (off + i) * s + j) undef) hc1 (fun i x hx => by
              rw [List.getElem?_take] at hx
              split at hx
              · rw [List.getElem?_drop] at hx; exact g5 _ _ hx
              · cases hx) (fun i j c hc => ⟨.inr (by rw [hq]; exact ⟨b, xs, _, hb, g1⟩), by
              obtain ⟨_, hlt⟩ := hin2 i j c hc
              have e : o + off * s + i * s + j = o + (off + i) * s + j := by rw [Nat.add_mul]; omega
              rw [cell_of_heap g2, e]
              simp [hlt]⟩) (fun i j c hc => by
              obtain ⟨hc2, hlt⟩ := hin2 i j c hc
              have := g6 (off + i) j c _ hc2 (Array.getElem?_eq_getElem hlt)
              simp only [Array.getD, hlt, dif_pos]
              exact this.mono hl)
            rw [hlen] at key; exact key
          | hend _ _ a β' o' s' cap' g hle => simp only [List.take_zero]; exact .vnil _ _
          | hnil _ a g => simp only [List.take_zero]; exact .vnil _ _
        · exact .any _
    · have : clo0 σ v = v := by
        cases v with
        | p x =>
          cases x <;> first | rfl | skip
          rename_i a n c
          cases a with
          | none => cases n with
            | zero => exact absurd ⟨_, rfl⟩ hv
            | succ n => rfl
          | some a => rfl
        | hsl b off n => exact absurd ⟨_, _, _, rfl⟩ hv2
        | _ => rfl
      rw [this]; exact hr0
theorem Fin.close {r : AV} (h : Fin R (clo σ r) σ.noSl) : Fin R r σ := by
  intro G w v hw hr
  obtain ⟨G', h1, h2, h3⟩ := hw.close
  obtain ⟨r', G2, σ2, k1, k2, k3, k4⟩ := h G' w v h2 (h3 _ _ hr)
  exact ⟨r', G2, σ2, h1.trans k1, k2, k3, k4⟩
attribute [simp] clo clo1 clo0
end Go.AL
