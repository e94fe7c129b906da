/- Parts of the proof of ArenaStays: the logic, contracts, plain laws. -/
import Derived.Test.YtofopejmidlceaaDoorZArenaStays1
import Derived.Laws.Cells
import Derived.Laws.Rows
import Derived.Deep.MidRow
/-! The judgements: code, regions, operations, calls. -/
namespace Go.AL
open Go.RowKit (Below)
set_option linter.unusedVariables false
variable {P : Program} {D : List Deferred}
def lift (G : Ghost) (w : World) (D : List Deferred) (Q : Exit → List AV → ASt → Prop) : Exit → Act → World → Prop :=
  fun e a' w' => ∃ G' fr σ, Le G w G' w' ∧ Sim G' fr σ D a' w' ∧ Q e fr σ
theorem lift_le {G w G' w' D Q e a w''} (hl : Le G w G' w') (h : lift G' w' D Q e a w'') : lift G w D Q e a w'' := by
  obtain ⟨G'', fr, σ, h1, h2, h3⟩ := h
  exact ⟨G'', fr, σ, hl.trans h1, h2, h3⟩
theorem lift_mono {G w D Q Q' e a w''} (hq : ∀ e fr σ, Q e fr σ → Q' e fr σ) (h : lift G w D Q e a w'') : lift G w D Q' e a w'' := by
  obtain ⟨G'', fr, σ, h1, h2, h3⟩ := h
  exact ⟨G'', fr, σ, h1, h2, hq _ _ _ h3⟩
theorem wpList_weaken {P : Program} {ops : Array Oper} {Q Q' : Exit → Act → World → Prop} (hq : ∀ e a w, Q e a w → Q' e a w) : ∀ (l : List Oper) (a : Act) (w : World), wpList P ops Q l a w → wpList P ops Q' l a w
  | [], a, w, h => hq _ _ _ h
  | o :: rest, a, w, h => by
    unfold wpList at h ⊢
    split
    · rename_i hw
      rw [if_pos hw] at h
      exact wpO_weaken (Q := Q) (wpO_mono (fun a w h => wpList_weaken hq rest a w h) h)
    · rename_i hw
      rw [if_neg hw] at h
      exact wpList_weaken hq rest _ _ h
/-- Code. -/
def AW (P : Program) (D : List Deferred) (c : Code) (Q : Exit → List AV → ASt → Prop) (fr : List AV) (σ : ASt) : Prop :=
  ∀ (_ : Rd) (_ : FitD D) G a w, Sim G fr σ D a w → wpc P c (lift G w D Q) a w
/-- Operations, one by one. -/
def AWL (P : Program) (D : List Deferred) (ops : Array Oper) (Q : Exit → List AV → ASt → Prop) (l : List Oper) (fr : List AV) (σ : ASt) : Prop :=
  ∀ G a w, Sim G fr σ D a w → wpList P ops (lift G w D Q) l a w
theorem Sim.less {G fr σ τ D a w} (h : Sim G fr σ D a w) (l : τ.Le σ) : Sim G fr τ D a w := ⟨h.tmps, h.defers, h.w.less l⟩
theorem Sim.refl_lift {G fr σ D a w Q e} (h : Sim G fr σ D a w) (hq : Q e fr σ) : lift G w D Q e a w := ⟨G, fr, σ, Le.refl _ _, h, hq⟩
def thenA (next : List AV → ASt → Prop) (Q : Exit → List AV → ASt → Prop) : Exit → List AV → ASt → Prop
  | .normal, fr, σ => next fr σ
  | e, fr, σ => Q e fr σ
def inBlockA (id : Nat) (Q : Exit → List AV → ASt → Prop) : Exit → List AV → ASt → Prop
  | .exit id', fr, σ => if id' = id then Q .normal fr σ else Q (.exit id') fr σ
  | e, fr, σ => Q e fr σ
variable {Q : Exit → List AV → ASt → Prop} {fr : List AV} {σ : ASt}
theorem AW.mono {c : Code} {Q' : Exit → List AV → ASt → Prop} (hq : ∀ e fr σ, Q e fr σ → Q' e fr σ) (h : AW P D c Q fr σ) : AW P D c Q' fr σ :=
  fun _ _ G a w hs => wp_mono (h _ inferInstance G a w hs) fun e a w h => lift_mono hq h
theorem AW.less {c : Code} {τ : ASt} (l : τ.Le σ) (h : AW P D c Q fr τ) : AW P D c Q fr σ := fun r i G a w hs => h r i G a w (hs.less l)
theorem AWL.less {ops : Array Oper} {l : List Oper} {τ : ASt} (le : τ.Le σ) (h : AWL P D ops Q l fr τ) : AWL P D ops Q l fr σ := fun G a w hs => h G a w (hs.less le)
theorem aw_skip (h : Q .normal fr σ) : AW P D .skip Q fr σ := fun _ _ G a w hs => wp_skip (hs.refl_lift h)
theorem aw_label {l : Nat} (h : Q .normal fr σ) : AW P D (.label l) Q fr σ := fun _ _ G a w hs => wp_label (hs.refl_lift h)
theorem aw_exit {id : Nat} (h : Q (.exit id) fr σ) : AW P D (.exit id) Q fr σ := fun _ _ G a w hs => wp_exit (hs.refl_lift h)
theorem aw_goto {l : Nat} (h : Q (.goto l) fr σ) : AW P D (.goto l) Q fr σ := fun _ _ G a w hs => wp_goto (hs.refl_lift h)
theorem aw_ret (h : Q .ret fr σ) : AW P D .ret Q fr σ := fun _ _ G a w hs => wp_ret (hs.refl_lift h)
theorem aw_seq {x y : Code} (h : AW P D x (thenA (AW P D y Q) Q) fr σ) : AW P D (.seq x y) Q fr σ := by
  intro _ _ G a w hs
  refine wp_seq (wp_mono (h _ inferInstance G a w hs) ?_)
  rintro e a' w' ⟨G', fr', σ', hl, hs', hq⟩
  cases e with
  | normal => exact wp_mono (hq _ inferInstance G' a' w' hs') fun e a w h => lift_le hl h
  | _ => exact ⟨G', fr', σ', hl, hs', hq⟩
theorem aw_block {id : Nat} {c : Code} (h : AW P D c (inBlockA id Q) fr σ) : AW P D (.block id c) Q fr σ := by
  intro _ _ G a w hs
  refine wp_block (wp_mono (h _ inferInstance G a w hs) ?_)
  rintro e a' w' ⟨G', fr', σ', hl, hs', hq⟩
  cases e with
  | exit id' =>
    simp only [inBlockA] at hq
    simp only [Exit.inBlock]
    split
    · rename_i e; rw [if_pos e] at hq; exact ⟨G', fr', σ', hl, hs', hq⟩
    · rename_i e; rw [if_neg e] at hq; exact ⟨G', fr', σ', hl, hs', hq⟩
  | _ => exact ⟨G', fr', σ', hl, hs', hq⟩
/-- A constant. -/
def ofV : Value → AV
  | .agg cs => .agg (cs.toList.map .p)
  | v => .p v
theorem rep_ofV (G : Ghost) (w : World) (v : Value) : Rep G w (ofV v) v := by
  cases v with
  | agg cs =>
    refine .agg _ _ (by simp) fun i c v hc hv => ?_
    rw [List.getElem?_map, Array.getElem?_toList, hv] at hc
    obtain rfl := Option.some.inj hc
    exact .p _
  | _ => exact .p _
/-- What a slot holds. -/
def fget : List AV → Nat → AV
  | [], _ => .p undef
  | a :: _, 0 => a
  | _ :: l, n + 1 => fget l n
def fset : List AV → Nat → AV → List AV
  | [], _, _ => []
  | _ :: l, 0, x => x :: l
  | a :: l, n + 1, x => a :: fset l n x
theorem fget_eq : ∀ (l : List AV) (n : Nat), fget l n = l.getD n (.p undef)
  | [], _ => rfl
  | _ :: _, 0 => rfl
  | _ :: l, n + 1 => by rw [fget, fget_eq l n]; rfl
theorem fset_eq : ∀ (l : List AV) (n : Nat) (x : AV), fset l n x = l.set n x
  | [], _, _ => rfl
  | _ :: _, 0, _ => rfl
  | _ :: l, n + 1, x => by rw [fset, fset_eq l n x]; rfl
/-- An operand's value. -/
def aev (fr : List AV) : Operand → AV
  | .tmp t => fget fr t
  | .const v => ofV v
  | .global g => .p (.pointer (some ⟨g, 0, none⟩))
  | .func f => .p (.func (.func f) #[] #[])
theorem RepL.getD {G w cs vs} (h : RepL G w cs vs) (t : Nat) : Rep G w (cs.getD t (.p undef)) (vs.getD t undef) := by
  rw [List.getD_eq_getElem?_getD, List.getD_eq_getElem?_getD]
  by_cases ht : t < cs.length
  · have ht' : t < vs.length := h.1 ▸ ht
    rw [List.getElem?_eq_getElem ht, List.getElem?_eq_getElem ht']
    exact h.2 t _ _ (List.getElem?_eq_getElem ht) (List.getElem?_eq_getElem ht')
  · rw [List.getElem?_eq_none (by omega), List.getElem?_eq_none (by have := h.1; omega)]
    exact .p _
theorem Sim.ev {G fr σ D a w} (h : Sim G fr σ D a w) (x : Operand) : Rep G w (aev fr x) (a.eval x) := by
  cases x with
  | tmp t =>
    have := h.tmps.getD t
    simp only [aev, Act.eval]
    rw [fget_eq]
    rw [List.getD_eq_getElem?_getD (l := a.tmps.toList), Array.getElem?_toList, ← Array.getD_eq_getD_getElem?] at this
    exact this
  | const v => exact rep_ofV G w v
  | global g => exact .p _
  | func f => exact .p _
def aput (fr : List AV) (dst : Option Tmp) (r : AV) : List AV := match dst with | some d => fset fr d r | none => fr
theorem Sim.put {G fr σ D a w} (h : Sim G fr σ D a w) (dst : Option Tmp) {r v} (hr : Rep G w r v) : Sim G (aput fr dst r) σ D (a.put dst v) w := by
  cases dst with
  | none => exact h
  | some d =>
    refine ⟨⟨by simp [aput, Act.put, fset_eq]; exact h.tmps.1, fun i c u hc hu => ?_⟩, h.defers, h.w⟩
    simp only [aput, Act.put, Array.toList_setIfInBounds, fset_eq] at hc hu
    rw [List.getElem?_set] at hc hu
    split at hc
    · rename_i e
      subst e
      rw [if_pos rfl] at hu
      split at hc
      · split at hu
        · obtain rfl := Option.some.inj hc
          obtain rfl := Option.some.inj hu
          exact hr
        · cases hu
      · cases hc
    · rename_i e
      rw [if_neg e] at hu
      exact h.tmps.2 i c u hc hu
theorem Sim.le {G fr σ D a w G' σ' w'} (h : Sim G fr σ D a w) (hl : Le G w G' w') (hw : SimW G' σ' w') : Sim G' fr σ' D a w' := ⟨h.tmps.mono hl, h.defers.mono hl, hw⟩
theorem aw_cond {c : Operand} {x y : Code} {t : Bool} (hc : aev fr c = .p (.bool t)) (ht : t = true → AW P D x Q fr σ) (hf : t = false → AW P D y Q fr σ) : AW P D (.cond c x y) Q fr σ := by
  intro _ _ G a w hs
  have h := hs.ev c
  rw [hc] at h
  generalize ha : a.eval c = v at h
  cases h
  exact wp_cond_split ha (fun e => ht e _ inferInstance G a w hs) (fun e => hf e _ inferInstance G a w hs)
/-- A loop: what holds at each round's head, by a number that falls. -/
theorem aw_loop {c : Code} (I : Nat → List AV → ASt → Prop) (n : Nat) (h0 : I n fr σ)
    (round : ∀ n fr σ, I n fr σ → AW P D c (thenA (fun fr' σ' => ∃ m, m < n ∧ I m fr' σ') Q) fr σ) : AW P D (.loop c) Q fr σ := by
  intro _ _ G a w hs b k cs hro hb hr
  have key : ∀ n, ∀ G1 fr σ a w1, Le G w G1 w1 → Sim G1 fr σ D a w1 → I n fr σ →
      ∃ e a' w', lift G w D Q e a' w' ∧ ArrivesIn (Machine.fenced P wideR) P (lone (b.atR a (.code c :: .inLoop c :: k)) cs w1) b k cs e a' w' := by
    intro n
    induction n using Nat.strongRecOn with
    | _ n ih =>
      intro G1 fr σ a w1 hl hs hI
      obtain ⟨e, a₁, w₁, ⟨G2, fr2, σ2, hl2, hs2, hq⟩, harr⟩ := round n fr σ hI _ inferInstance G1 a w1 hs b (.inLoop c :: k) cs hro hb hr
      cases e with
      | normal =>
        obtain ⟨m, hlt, hI₁⟩ := hq
        obtain ⟨e₂, a₂, w₂, hq₂, harr₂⟩ := ih m hlt G2 fr2 σ2 a₁ w₁ (hl.trans hl2) hs2 hI₁
        exact ⟨e₂, a₂, w₂, hq₂, .of_steps (StepsIn.trans harr (.one (wideR_fenced _) stepR_inLoop)) harr₂⟩
      | exit id => exact ⟨_, a₁, w₁, ⟨G2, fr2, σ2, hl.trans hl2, hs2, hq⟩, .pass (x := .inLoop c) rfl (fun _ _ => .inl (by simp)) harr⟩
      | goto l => exact ⟨_, a₁, w₁, ⟨G2, fr2, σ2, hl.trans hl2, hs2, hq⟩, .pass (x := .inLoop c) rfl (fun _ _ => .inl (by simp)) harr⟩
      | ret => exact ⟨_, a₁, w₁, ⟨G2, fr2, σ2, hl.trans hl2, hs2, hq⟩, .pass (x := .inLoop c) rfl (fun _ _ => .inl (by simp)) harr⟩
      | panic ch => exact ⟨_, a₁, w₁, ⟨G2, fr2, σ2, hl.trans hl2, hs2, hq⟩, .pass (x := .inLoop c) rfl (fun _ _ => .inl (by simp)) harr⟩
      | outgrown => exact ⟨_, a₁, w₁, ⟨G2, fr2, σ2, hl.trans hl2, hs2, hq⟩, .pass (x := .inLoop c) rfl (fun _ _ => .inl (by simp)) harr⟩
  obtain ⟨e, a', w', hq, harr⟩ := key n G fr σ a w (Le.refl _ _) hs h0
  exact ⟨e, a', w', hq, .of_steps (.one (wideR_fenced _) stepR_loop) harr⟩
def jumpA (l : Nat) (J : List AV → ASt → Prop) (Q : Exit → List AV → ASt → Prop) : Exit → List AV → ASt → Prop
  | .goto l', fr, σ => l' = l ∧ J fr σ
  | e, fr, σ => Q e fr σ
theorem aw_scope_jumps {c rest : Code} (l : Nat) (J : Nat → List AV → ASt → Prop) (hf : findLabel c l = some rest)
    (first : AW P D c (jumpA l (fun fr σ => ∃ n, J n fr σ) Q) fr σ)
    (pass : ∀ n fr σ, J n fr σ → AW P D rest (jumpA l (fun fr σ => ∃ m, m < n ∧ J m fr σ) Q) fr σ) : AW P D (.scope c) Q fr σ := by
  intro _ _ G a w hs b k cs hro hb hr
  have hg : gotoIn l (.inScope c :: k) = some (.code rest :: .inScope c :: k) := by simp [gotoIn, hf]
  have fin : ∀ (m : Machine) (e : Exit) (a₁ : Act) (w₁ : World), (∀ l', e ≠ .goto l') → ArrivesIn (Machine.fenced P wideR) P m b (.inScope c :: k) cs e a₁ w₁ → ArrivesIn (Machine.fenced P wideR) P m b k cs e a₁ w₁ := by
    intro m e a₁ w₁ hng harr
    cases e with
    | normal => exact StepsIn.trans harr (.one (wideR_fenced _) stepR_inScope')
    | exit id =>
      have hx : exitTo id (.inScope c :: k) = exitTo id k := by simp [exitTo]
      exact ⟨fun k' hk => harr.1 k' (by rw [hx]; exact hk), fun hr' hk => let ⟨k₁, h1, h2⟩ := harr.2 hr' (by rw [hx]; exact hk); ⟨k₁, h1, h2⟩⟩
    | goto l' => exact absurd rfl (hng l')
    | ret => exact harr
    | panic ch => exact harr
    | outgrown => exact harr
  have key : ∀ n, ∀ G1 fr σ a w1, Le G w G1 w1 → Sim G1 fr σ D a w1 → J n fr σ → ∃ e a' w', lift G w D Q e a' w' ∧ ArrivesIn (Machine.fenced P wideR) P (lone (b.atR a (.code rest :: .inScope c :: k)) cs w1) b k cs e a' w' := by
    intro n
    induction n using Nat.strongRecOn with
    | _ n ih =>
      intro G1 fr σ a w1 hl hs hJ
      obtain ⟨e, a₁, w₁, ⟨G2, fr2, σ2, hl2, hs2, hq⟩, harr⟩ := pass n fr σ hJ _ inferInstance G1 a w1 hs b (.inScope c :: k) cs hro hb hr
      cases e with
      | goto l' =>
        obtain ⟨rfl, m, hlt, hJ'⟩ := hq
        obtain ⟨e₂, a₂, w₂, hq₂, harr₂⟩ := ih m hlt G2 fr2 σ2 a₁ w₁ (hl.trans hl2) hs2 hJ'
        exact ⟨e₂, a₂, w₂, hq₂, .of_steps (harr.1 _ hg) harr₂⟩
      | _ => exact ⟨_, a₁, w₁, ⟨G2, fr2, σ2, hl.trans hl2, hs2, hq⟩, fin _ _ _ _ (by simp) harr⟩
  obtain ⟨e, a₁, w₁, ⟨G2, fr2, σ2, hl2, hs2, hq⟩, harr⟩ := first _ inferInstance G a w hs b (.inScope c :: k) cs hro hb hr
  cases e with
  | goto l' =>
    obtain ⟨rfl, n, hJ'⟩ := hq
    obtain ⟨e₂, a₂, w₂, hq₂, harr₂⟩ := key n G2 fr2 σ2 a₁ w₁ hl2 hs2 hJ'
    exact ⟨e₂, a₂, w₂, hq₂, .of_steps (.head (wideR_fenced _) stepR_scope' (harr.1 _ hg)) harr₂⟩
  | _ => exact ⟨_, a₁, w₁, ⟨G2, fr2, σ2, hl2, hs2, hq⟩, .of_steps (.one (wideR_fenced _) stepR_scope') (fin _ _ _ _ (by simp) harr)⟩
/-! ### operations -/
/-- What is left behind: a value, and memory. -/
def Outc (G : Ghost) (w : World) (R : AV → ASt → Prop) (v : Value) (w' : World) : Prop := ∃ r G' σ', Le G w G' w' ∧ SimW G' σ' w' ∧ Rep G' w' r v ∧ R r σ'
def retOf (R : Value → World → Prop) : Ending → World → Prop
  | .returned v, w => R v w
  | _, _ => False
def OutcN (P : Program) (G : Ghost) (w : World) (R : AV → ASt → Prop) : Result Next → Prop
  | .ok (.value v) w' => Outc G w R v w'
  | .ok .skip w' => Outc G w R undef w'
  | .ok (.enter f args) w' => Calls P f args w' (retOf (Outc G w R))
  | .ok (.round l f tmps assign body) w' => RoundIn Fence.wide 1 P l f tmps assign body w' (retOf (Outc G w R))
  | _ => False
/-- An operation, by its operands' values. -/
def OpQ (P : Program) (o : Oper) (ρ : Operand → AV) (σ : ASt) (R : AV → ASt → Prop) : Prop :=
  ∀ G (e : Operand → Value) w, (∀ x, Rep G w (ρ x) (e x)) → SimW G σ w → OutcN P G w R ((execOp e o).run P w)
theorem Outc.mono {G w R R' v w'} (h : Outc G w R v w') (hr : ∀ r σ, R r σ → R' r σ) : Outc G w R' v w' := by
  obtain ⟨r, G', σ', h1, h2, h3, h4⟩ := h
  exact ⟨r, G', σ', h1, h2, h3, hr _ _ h4⟩
theorem retOf_mono {R R' : Value → World → Prop} (hr : ∀ v w, R v w → R' v w) {e : Ending} {w : World} (h : retOf R e w) : retOf R' e w := by
  cases e with
  | returned v => exact hr _ _ h
  | panicked c => exact h
  | outgrown => exact h
theorem OutcN.mono {G w R R' n} (h : OutcN P G w R n) (hr : ∀ r σ, R r σ → R' r σ) : OutcN P G w R' n := by
  cases n with
  | halt => exact h
  | ok n w' =>
    cases n with
    | value v => exact Outc.mono h hr
    | skip => exact Outc.mono h hr
    | enter f args => exact Calls.mono h fun e w'' he => retOf_mono (fun v w' h => Outc.mono h hr) he
    | round l f tmps assign body => exact RoundIn.mono h fun e w'' he => retOf_mono (fun v w' h => Outc.mono h hr) he
    | _ => exact h
theorem OpQ.mono {o ρ R R'} (h : OpQ P o ρ σ R) (hr : ∀ r σ, R r σ → R' r σ) : OpQ P o ρ σ R' := fun G e w h1 h2 => (h G e w h1 h2).mono hr
theorem OpQ.less {o ρ R} {τ : ASt} (l : τ.Le σ) (h : OpQ P o ρ τ R) : OpQ P o ρ σ R := fun G e w h1 h2 => h G e w h1 (h2.less l)
/-- Is it to be carried out? -/
def awanted (ops : Array Oper) (o : Oper) (fr : List AV) : Option Bool :=
  match o.guard with
  | none => some true
  | some (j, want) =>
    match (ops[j]?).bind (·.dst) with
    | none => some false
    | some d => match fget fr d with
      | .p (.bool b) => some (b == want)
      | .p (.tuple _) => some false
      | .opt false _ => some false
      | _ => none
theorem awanted_spec {ops : Array Oper} {o : Oper} {fr : List AV} {b : Bool} (h : awanted ops o fr = some b) {G w D a} {σ : ASt} (hs : Sim G fr σ D a w) : Region.wanted o (yielded ops a.tmps) = b := by
  unfold awanted at h
  unfold Region.wanted
  cases hg : o.guard with
  | none => rw [hg] at h; simpa using h
  | some jw =>
    obtain ⟨j, want⟩ := jw
    rw [hg] at h
    simp only at h ⊢
    unfold yielded
    cases hd : (ops[j]?).bind (·.dst) with
    | none => rw [hd] at h; simpa using h
    | some d =>
      rw [hd] at h
      simp only [Option.bind_some] at h ⊢
      have hr := hs.ev (.tmp d)
      simp only [aev, Act.eval] at hr
      have key : ∀ v, Rep G w (fget fr d) v → ((match v with | .bool b => some b | _ => none : Option Bool) == some want) = b := by
        intro v hr
        cases hc : fget fr d with
        | p x =>
          rw [hc] at hr h
          cases hr
          cases v with
          | bool t =>
            have h : some (t == want) = some b := h
            rw [← Option.some.inj h]
            cases t <;> cases want <;> rfl
          | tuple ts =>
            have h : some false = some b := h
            rw [← Option.some.inj h]
            rfl
          | _ => cases h
        | opt c' x =>
          rw [hc] at hr h
          cases c' with
          | true => cases h
          | false =>
            have h : some false = some b := h
            rw [← Option.some.inj h]
            cases hr with
            | opt _ _ _ h1 h0 => rw [h0 rfl]; rfl
        | _ => rw [hc] at h; cases h
      have h2 := key _ hr
      rw [Array.getD_eq_getD_getElem?] at h2
      cases hv : a.tmps[d]? with
      | none => rw [hv] at h2; exact h2
      | some v =>
        rw [hv] at h2
        simp only [Option.getD_some] at h2
        cases v <;> exact h2
theorem awl_nil {ops : Array Oper} (h : Q .normal fr σ) : AWL P D ops Q [] fr σ := fun G a w hs => wpList_nil (hs.refl_lift h)
theorem awl_cons {ops : Array Oper} {o : Oper} {rest : List Oper} (hw : awanted ops o fr = some true) (h : OpQ P o (aev fr) σ (fun r σ' => AWL P D ops Q rest (aput fr o.dst r) σ')) : AWL P D ops Q (o :: rest) fr σ := by
  intro G a w hs
  unfold wpList
  rw [if_pos (awanted_spec hw hs)]
  have hq := h G a.eval w (fun x => hs.ev x) hs.w
  unfold wpO
  have key : ∀ v w', Outc G w (fun r σ' => AWL P D ops Q rest (aput fr o.dst r) σ') v w' → wpList P ops (lift G w D Q) rest (a.put o.dst v) w' := by
    rintro v w' ⟨r, G', σ', hl, hw', hr, hk⟩
    have := hk G' (a.put o.dst v) w' ((hs.le hl hw').put o.dst hr)
    exact wpList_weaken (fun e a w h => lift_le hl h) rest _ _ this
  generalize (execOp a.eval o).run P w = n at hq
  cases n with
  | halt => exact hq.elim
  | ok n w' =>
    cases n with
    | value v => exact key v w' hq
    | skip => exact key undef w' hq
    | enter f args =>
      refine Calls.mono hq fun e w'' he => ?_
      cases e with
      | returned v => exact key v w'' he
      | panicked c => exact he.elim
      | outgrown => exact he.elim
    | round l f tmps assign body =>
      refine RoundIn.mono hq fun e w'' he => ?_
      cases e with
      | returned v => exact key v w'' he
      | panicked c => exact he.elim
      | outgrown => exact he.elim
    | _ => exact hq.elim
theorem awl_skip {ops : Array Oper} {o : Oper} {rest : List Oper} (hw : awanted ops o fr = some false) (h : AWL P D ops Q rest (aput fr o.dst (.p undef)) σ) : AWL P D ops Q (o :: rest) fr σ := by
  intro G a w hs
  unfold wpList
  rw [if_neg (by rw [awanted_spec hw hs]; simp)]
  exact h G (a.put o.dst undef) w (hs.put o.dst (.p undef))
theorem aw_region {id : Nat} {l : List Oper} (h : AWL P D l.toArray Q l fr σ) : AW P D (.region id l.toArray false) Q fr σ :=
  fun _ _ G a w hs => wp_region_lit (h G a w hs)
/-! ### calls -/
def ACall (P : Program) (f : FuncId) (args : List AV) (σ : ASt) (R : AV → ASt → Prop) : Prop :=
  ∀ G w (vs : Array Value), RepL G w args vs.toList → SimW G σ w → Calls P f vs w (retOf (Outc G w R))
theorem ACall.mono {f args R R'} (h : ACall P f args σ R) (hr : ∀ r σ, R r σ → R' r σ) : ACall P f args σ R' := fun G w vs h1 h2 => Calls.mono (h G w vs h1 h2) fun e w' he => retOf_mono (fun v w' h => Outc.mono h hr) he
theorem ACall.less {f args R} {τ : ASt} (l : τ.Le σ) (h : ACall P f args τ R) : ACall P f args σ R := fun G w vs h1 h2 => h G w vs h1 (h2.less l)
/-- What the function's results are. -/
def AResults (P : Program) (fn : Func) (fr : List AV) (σ : ASt) (r : AV) : Prop :=
  ∀ G D a w, Sim G fr σ D a w → ∃ v, (results fn a.tmps).run P w = .ok v w ∧ Rep G w r v
/-- What it means for a value to be handed back. -/
def Fin (R : AV → ASt → Prop) (r : AV) (σ : ASt) : Prop := ∀ G w v, SimW G σ w → Rep G w r v → Outc G w R v w
theorem Fin.of {R : AV → ASt → Prop} {r : AV} {σ : ASt} (h : R r σ) : Fin R r σ := fun G w v hw hr => ⟨r, G, σ, Le.refl _ _, hw, hr, h⟩
def RetQ (P : Program) (fn : Func) (R : AV → ASt → Prop) : Exit → List AV → ASt → Prop
  | .normal, fr, σ | .ret, fr, σ => ∃ r, AResults P fn fr σ r ∧ Fin R r σ
  | _, _, _ => False
theorem acall_of_body {f : FuncId} {fn : Func} {c : Code} {args : List AV} {R : AV → ASt → Prop} (hf : P.funcs[f]? = some fn) (hb : fn.body = some c)
    (h : AW P [] c (RetQ P fn R) (args ++ List.replicate (fn.ntmps - args.length) (.p undef)) σ) : ACall P f args σ R := by
  intro G w vs hv hw
  refine calls_of_wp hf hb (wpc_wp.1 ?_)
  have hlen : args.length = vs.size := by simpa using hv.1
  have hs : Sim G (args ++ List.replicate (fn.ntmps - args.length) (.p undef)) σ [] { tmps := vs ++ Array.replicate (fn.ntmps - vs.size) undef, defers := [] } w := by
    refine ⟨⟨by simp [hlen], fun i c v hc hv2 => ?_⟩, .inl ⟨by simp [mkD], rfl⟩, hw⟩
    simp only [Array.toList_append, Array.toList_replicate] at hv2
    rw [← hlen] at hv2
    by_cases hi : i < args.length
    · rw [List.getElem?_append_left hi] at hc
      rw [List.getElem?_append_left (by simpa [← hlen] using hi)] at hv2
      exact hv.2 i c v hc hv2
    · rw [List.getElem?_append_right (by omega)] at hc
      rw [List.getElem?_append_right (by simp; omega)] at hv2
      rw [List.getElem?_replicate] at hc hv2
      split at hc
      · split at hv2
        · obtain rfl := Option.some.inj hc
          obtain rfl := Option.some.inj hv2
          exact .p _
        · cases hv2
      · cases hc
  refine @wp_mono _ _ _ _ ⟨none⟩ _ _ (h ⟨none⟩ (@FitD.mk ⟨none⟩ _ (.inr rfl)) G _ w hs) ?_
  rintro e a' w' ⟨G', fr', σ', hl, hs', hq⟩
  cases e with
  | normal =>
    obtain ⟨r, hr, hR⟩ := hq
    obtain ⟨v, h1, h2⟩ := hr G' [] a' w' hs'
    obtain ⟨r', G2, σ2, k1, k2, k3, k4⟩ := hR G' w' v hs'.w h2
    exact ⟨hs'.defers.nil, v, h1, r', G2, σ2, hl.trans k1, k2, k3, k4⟩
  | ret =>
    obtain ⟨r, hr, hR⟩ := hq
    obtain ⟨v, h1, h2⟩ := hr G' [] a' w' hs'
    obtain ⟨r', G2, σ2, k1, k2, k3, k4⟩ := hR G' w' v hs'.w h2
    exact ⟨hs'.defers.nil, v, h1, r', G2, σ2, hl.trans k1, k2, k3, k4⟩
  | _ => exact hq.elim
/-- Nothing is known beyond what comes next. -/
structure ASt.Ok (σ : ASt) : Prop where
  bx : ∀ b, σ.next ≤ b → σ.bx b = none
  mp : ∀ b, σ.next ≤ b → σ.mp b = none
  sl : ∀ b, σ.next ≤ b → σ.sl b = none
theorem acall_ok {f args R} (h : σ.Ok → ACall P f args σ R) : ACall P f args σ R := fun G w vs hv hw =>
  h ⟨fun b hb => (hw.fresh b hb).2.2.2.1, fun b hb => (hw.fresh b hb).2.2.2.2.1, fun b hb => (hw.fresh b hb).2.2.2.2.2⟩ G w vs hv hw
end Go.AL
/-! Operations, first part: what needs no memory of its own. -/
namespace Go.AL
open Go.RowKit (Below)
set_option linter.unusedVariables false
set_option linter.unusedSimpArgs false
variable {P : Program}
/-! ### types -/
def isRowD : TypeDesc → Bool
  | .struct _ | .array _ _ => true
  | _ => false
/-- How many cells a type has, and whether it is a struct, or an array. -/
def tsize (P : Program) (t : TypeId) : Option (Nat × Bool) :=
  match P.info? t, P.underlying t with
  | some i, some d => some (i.size, isRowD d)
  | _, _ => none
/-- Where a field stands, how many cells it has. -/
def tfield (P : Program) (s : TypeId) (f : Nat) : Option (Nat × Nat × Bool) :=
  match P.underlying s with
  | some (.struct fs) => match fs[f]? with
    | some fd => match tsize P fd.type with
      | some (n, g) => if n = 0 then none else some (fd.offset, n, g)
      | none => none
    | none => none
  | _ => none
/-- What a slice's elements have: cells, a struct?, bytes. -/
def telem (P : Program) (t : TypeId) : Option (Nat × Bool × Nat) :=
  match P.underlying t with
  | some (.slice e) => match P.info? e, tsize P e with
    | some i, some (n, g) => some (n, g, i.bytes)
    | _, _ => none
  | _ => none
def tarr (P : Program) (t : TypeId) : Option (Nat × Nat × Bool) :=
  match P.underlying t with
  | some (.array len e) => match tsize P e with
    | some (n, g) => some (len, n, g)
    | none => none
  | _ => none
def tzero (P : Program) (t : TypeId) : Option AV := ((P.info? t).bind (·.zero)).map ofV
def isSlice (P : Program) (t : TypeId) : Bool := match P.underlying t with | some (.slice _) => true | _ => false
def isString (P : Program) (t : TypeId) : Bool := match P.underlying t with | some .string => true | _ => false
def isMapT (P : Program) (t : TypeId) : Bool := match P.underlying t with | some (.map _ _) => true | _ => false
def isIface (P : Program) (t : TypeId) : Bool := match P.underlying t with | some (.interface _) => true | none => true | _ => false
theorem run_underlying' {t : TypeId} {d : TypeDesc} (h : P.underlying t = some d) (w : World) : (underlying t).run P w = .ok d w := by
  simp [underlying, h]
theorem run_typeInfo' {t : TypeId} {i : TypeInfo} (h : P.info? t = some i) (w : World) : (typeInfo t).run P w = .ok i w := by
  simp [typeInfo, h]
theorem tsize_spec {t n g} (h : tsize P t = some (n, g)) : ∃ i d, P.info? t = some i ∧ P.underlying t = some d ∧ i.size = n ∧ isRowD d = g := by
  unfold tsize at h
  split at h
  · rename_i i d hi hd
    simp only [Option.some.injEq, Prod.mk.injEq] at h
    exact ⟨i, d, hi, hd, h.1, h.2⟩
  · cases h
theorem run_sizeOf' {t n g} (h : tsize P t = some (n, g)) (w : World) : (sizeOf t).run P w = .ok n w := by
  obtain ⟨i, d, hi, hd, rfl, _⟩ := tsize_spec h
  simp [sizeOf, run_typeInfo' hi]
theorem run_isAgg' {t n g} (h : tsize P t = some (n, g)) (w : World) : (isAgg t).run P w = .ok g w := by
  obtain ⟨i, d, hi, hd, _, rfl⟩ := tsize_spec h
  simp only [isAgg, Sem.run_bind, run_underlying' hd, Result.andThen_ok]
  cases d <;> rfl
theorem tfield_spec {s f o n g} (h : tfield P s f = some (o, n, g)) : ∃ fs fd, P.underlying s = some (.struct fs) ∧ fs[f]? = some fd ∧ fd.offset = o ∧ tsize P fd.type = some (n, g) ∧ n ≠ 0 := by
  unfold tfield at h
  split at h
  · rename_i fs hfs
    split at h
    · rename_i fd hfd
      split at h
      · rename_i n' g' hn
        split at h
        · cases h
        · rename_i h0
          simp only [Option.some.injEq, Prod.mk.injEq] at h
          obtain ⟨rfl, rfl, rfl⟩ := h
          exact ⟨fs, fd, hfs, hfd, rfl, hn, h0⟩
      · cases h
    · cases h
  · cases h
theorem addr_add (β o j : Nat) : (⟨β, o, none⟩ : Addr).add j = ⟨β, o + j, none⟩ := by unfold Addr.add; split <;> simp_all
/-! ### one value, memory as it was -/
theorem opq_val {o : Oper} {ρ : Operand → AV} {σ : ASt} {R : AV → ASt → Prop} (r : AV) (hr : R r σ)
    (h : ∀ G (e : Operand → Value) w, (∀ x, Rep G w (ρ x) (e x)) → SimW G σ w → ∃ v, (execOp e o).run P w = .ok (.value v) w ∧ Rep G w r v) : OpQ P o ρ σ R := by
  intro G e w he hw
  obtain ⟨v, h1, h2⟩ := h G e w he hw
  rw [h1]
  exact ⟨r, G, σ, Le.refl _ _, hw, h2, hr⟩
/-- The same, by a step of the semantics that yields a value. -/
theorem opq_v {o : Oper} {ρ : Operand → AV} {σ : ASt} {R : AV → ASt → Prop} {s : (Operand → Value) → Sem Value} (hs : ∀ e, execOp e o = (do pure (.value (← s e)))) (r : AV) (hr : R r σ)
    (h : ∀ G (e : Operand → Value) w, (∀ x, Rep G w (ρ x) (e x)) → SimW G σ w → ∃ v, (s e).run P w = .ok v w ∧ Rep G w r v) : OpQ P o ρ σ R := by
  refine opq_val r hr fun G e w he hw => ?_
  obtain ⟨v, h1, h2⟩ := h G e w he hw
  exact ⟨v, by rw [hs]; simp [h1], h2⟩
/-! ### reading cells -/
def aloadC (cs : List AV) (off n : Nat) (g : Bool) : Option AV := if g = true then (if off + n ≤ cs.length then some (.agg ((cs.drop off).take n)) else none) else cs[off]?
/-- The value of a variable of so many cells, of which it is known what they hold. -/
theorem run_loadVar_of {t n g} (ht : tsize P t = some (n, g)) {G : Ghost} {w : World} {β o : Nat} {cs : List AV} {r : AV} {off : Nat} (hr : aloadC cs off n g = some r)
    (hc : ∀ j c, cs[j]? = some c → ∃ v, w.cell? ⟨β, o + j, none⟩ = some v ∧ Rep G w c v) : ∃ v, (loadVar t ⟨β, o + off, none⟩).run P w = .ok v w ∧ Rep G w r v := by
  unfold aloadC at hr
  unfold loadVar
  simp only [Sem.run_bind, run_isAgg' ht, Result.andThen_ok]
  cases g with
  | false =>
    simp only [Bool.false_eq_true, if_false] at hr ⊢
    obtain ⟨v, h1, h2⟩ := hc off r hr
    exact ⟨v, by simp [h1], h2⟩
  | true =>
    simp only [if_true] at hr ⊢
    split at hr
    · rename_i hle
      obtain rfl := Option.some.inj hr
      have hv : ∀ j, j < n → ∃ v, w.cell? ⟨β, o + off + j, none⟩ = some v ∧ ∃ c, cs[off + j]? = some c ∧ Rep G w c v := by
        intro j hj
        have hlt : off + j < cs.length := by omega
        obtain ⟨v, h1, h2⟩ := hc (off + j) _ (List.getElem?_eq_getElem hlt)
        exact ⟨v, by rw [Nat.add_assoc]; exact h1, _, List.getElem?_eq_getElem hlt, h2⟩
      let f : Nat → Value := fun j => (w.cell? ⟨β, o + off + j, none⟩).getD undef
      have hf : ∀ j, j < n → w.cell? ((⟨β, o + off, none⟩ : Addr).add j) = some (f j) := by
        intro j hj
        obtain ⟨v, h1, _⟩ := hv j hj
        rw [addr_add]
        simp only [f, h1, Option.getD_some]
      refine ⟨_, by simp only [Sem.run_bind, run_sizeOf' ht, Result.andThen_ok, run_loadCells w _ n f hf, Sem.run_pure]; rfl, .agg _ _ (by simp; omega) fun i c v hc1 hv1 => ?_⟩
      have hi : i < n := by
        have := (List.getElem?_eq_some_iff.1 hc1).1
        simp at this; omega
      obtain ⟨u, h1, c', h2, h3⟩ := hv i hi
      rw [List.getElem?_take, if_pos hi, List.getElem?_drop, h2] at hc1
      obtain rfl := Option.some.inj hc1
      simp [hi, f, h1] at hv1
      subst hv1
      exact h3
    · cases hr
/-- Where an address lies, what the cells are there. -/
def acells (σ : ASt) : AV → Option (List AV × Nat)
  | .ptr b off => (σ.bx b).map fun cs => (cs, off)
  | .vel xs i off => (xs[i]?).map fun x => (x.cells, off)
  | .hel b i off => (σ.sl b).bind fun xs => (xs[i]?).map fun x => (x.cells, off)
  | _ => none
theorem cell_of_heap {w : World} {β : Nat} {arr : Array Value} {el : TypeId} {fz : Nat × Nat} (h : w.heap[β]? = some (.cells arr el fz)) (o : Nat) : w.cell? ⟨β, o, none⟩ = arr[o]? := by
  unfold World.cell?; simp [h]
theorem acells_spec {σ : ASt} {x : AV} {cs : List AV} {off : Nat} (h : acells σ x = some (cs, off)) {G w v} (hw : SimW G σ w) (hx : Rep G w x v) :
    ∃ β o, v = .pointer (some ⟨β, o + off, none⟩) ∧ ∀ j c, cs[j]? = some c → ∃ v, w.cell? ⟨β, o + j, none⟩ = some v ∧ Rep G w c v := by
  cases hx with
  | ptr b off' β g =>
    simp only [acells, Option.map_eq_some_iff, Prod.mk.injEq] at h
    obtain ⟨cs', hb, rfl, rfl⟩ := h
    obtain ⟨β', arr, el, h1, h2, h3, h4⟩ := hw.bx b cs' hb
    obtain rfl := Option.some.inj (g.symm.trans h1)
    refine ⟨β, 0, by simp, fun j c hc => ?_⟩
    have hj : j < arr.size := by rw [h3]; exact (List.getElem?_eq_some_iff.1 hc).1
    exact ⟨arr[j], by rw [cell_of_heap h2, Nat.zero_add]; exact Array.getElem?_eq_getElem hj, h4 j c _ hc (Array.getElem?_eq_getElem hj)⟩
  | vel xs i off' β o s val hs h1 hr =>
    simp only [acells, Option.map_eq_some_iff, Prod.mk.injEq] at h
    obtain ⟨x, hx, rfl, rfl⟩ := h
    refine ⟨β, o + i * s, rfl, fun j c hc => ⟨val i j, (h1 i j c (by simp [rowCell, hx, hc])).2, hr i j c (by simp [rowCell, hx, hc])⟩⟩
  | hel b i off' β o s cap g =>
    simp only [acells, Option.bind_eq_some_iff, Option.map_eq_some_iff, Prod.mk.injEq] at h
    obtain ⟨xs, hb, x, hx, rfl, rfl⟩ := h
    rcases hw.sl b xs hb with ⟨h1, _⟩ | ⟨β', o', s', cap', arr, el, h1, h2, h3, h4, h5, h6⟩
    · rw [g] at h1; cases h1
    · obtain ⟨rfl, rfl, rfl, rfl⟩ : β = β' ∧ o = o' ∧ s = s' ∧ cap = cap' := by rw [g] at h1; simpa using h1
      refine ⟨β, o + i * s, rfl, fun j c hc => ?_⟩
      have hi := (List.getElem?_eq_some_iff.1 hx).1
      have hjs : j < s := by rw [← h5 i x hx]; exact (List.getElem?_eq_some_iff.1 hc).1
      have hlt : o + i * s + j < arr.size := by
        have : (i + 1) * s ≤ cap * s := Nat.mul_le_mul_right _ (by omega)
        rw [Nat.add_mul] at this; omega
      exact ⟨arr[o + i * s + j], by rw [cell_of_heap h2]; exact Array.getElem?_eq_getElem hlt, h6 i j c _ (by simp [rowCell, hx, hc]) (Array.getElem?_eq_getElem hlt)⟩
  | _ => simp [acells] at h
def aload (P : Program) (σ : ASt) (t : TypeId) (x : AV) : Option AV :=
  (tsize P t).bind fun ng => (acells σ x).bind fun co => aloadC co.1 co.2 ng.1 ng.2
theorem opq_load {o : Oper} {ρ : Operand → AV} {σ : ASt} {R : AV → ASt → Prop} {t : TypeId} {x : Operand} (ho : o.op = .load t x) {r : AV} (h : aload P σ t (ρ x) = some r) (hr : R r σ) : OpQ P o ρ σ R := by
  refine opq_v (s := fun e => Instr.loadAt t (e x)) (fun e => by simp only [execOp, ho]) r hr fun G e w he hw => ?_
  simp only [aload, Option.bind_eq_some_iff] at h
  obtain ⟨⟨n, g⟩, hn, ⟨cs, off⟩, hc, hl⟩ := h
  obtain ⟨β, o, hv, hcs⟩ := acells_spec hc hw (he x)
  obtain ⟨v, h1, h2⟩ := run_loadVar_of hn hl hcs
  refine ⟨v, ?_, h2⟩
  simp [hv, Instr.loadAt, Instr.sureAddr, h1]
/-! ### fields -/
def apart (cs : List AV) (o n : Nat) (g : Bool) : Option AV := aloadC cs o n g
theorem run_part_of {t n g} (ht : tsize P t = some (n, g)) {G : Ghost} {w : World} {cs : List AV} {vs : Array Value} {r : AV} {off : Nat} (hr : aloadC cs off n g = some r)
    (hs : cs.length = vs.size) (hc : ∀ (i : Nat) c v, cs[i]? = some c → vs[i]? = some v → Rep G w c v) : ∃ v, (part t vs off).run P w = .ok v w ∧ Rep G w r v := by
  unfold aloadC at hr
  unfold part
  simp only [Sem.run_bind, run_isAgg' ht, Result.andThen_ok]
  cases g with
  | false =>
    simp only [Bool.false_eq_true, if_false] at hr ⊢
    have hlt : off < vs.size := by rw [← hs]; exact (List.getElem?_eq_some_iff.1 hr).1
    exact ⟨vs[off], by simp [hlt], hc off r _ hr (Array.getElem?_eq_getElem hlt)⟩
  | true =>
    simp only [if_true] at hr ⊢
    split at hr
    · rename_i hle
      obtain rfl := Option.some.inj hr
      refine ⟨_, by simp only [Sem.run_bind, run_sizeOf' ht, Result.andThen_ok, Sem.run_pure]; rfl, .agg _ _ (by simp; omega) fun i c v hc1 hv1 => ?_⟩
      have hi : i < n := by
        have := (List.getElem?_eq_some_iff.1 hc1).1
        simp at this; omega
      rw [List.getElem?_take, if_pos hi, List.getElem?_drop] at hc1
      rw [Array.getElem?_extract] at hv1
      split at hv1
      · exact hc (off + i) c v hc1 hv1
      · cases hv1
    · cases hr
def afield (P : Program) (s : TypeId) (f : Nat) : AV → Option AV
  | .agg cs => (tfield P s f).bind fun q => aloadC cs q.1 q.2.1 q.2.2
  | _ => none
theorem opq_field {o : Oper} {ρ : Operand → AV} {σ : ASt} {R : AV → ASt → Prop} {s : TypeId} {x : Operand} {f : Nat} (ho : o.op = .field s x f) {r : AV} (h : afield P s f (ρ x) = some r) (hr : R r σ) : OpQ P o ρ σ R := by
  refine opq_v (s := fun e => Instr.field s (e x) f) (fun e => by simp only [execOp, ho]) r hr fun G e w he hw => ?_
  have hx := he x
  generalize ρ x = c at h hx
  generalize e x = v at hx
  cases hx with
  | agg cs vs hs hc =>
    simp only [afield, Option.bind_eq_some_iff] at h
    obtain ⟨⟨off, n, g⟩, hf, hl⟩ := h
    obtain ⟨fs, fd, h1, h2, rfl, h4, h5⟩ := tfield_spec hf
    obtain ⟨v, h6, h7⟩ := run_part_of h4 hl hs hc
    refine ⟨v, ?_, h7⟩
    simp [Instr.field, run_underlying' h1, h2, asAgg, h6]
  | _ => simp [afield] at h
def ashift (k : Nat) : AV → Option AV
  | .ptr b off => some (.ptr b (off + k))
  | .vel xs i off => some (.vel xs i (off + k))
  | .hel b i off => some (.hel b i (off + k))
  | _ => none
theorem ashift_spec {k : Nat} {x r : AV} (h : ashift k x = some r) {G w v} (hx : Rep G w x v) : ∃ β o, v = .pointer (some ⟨β, o, none⟩) ∧ Rep G w r (.pointer (some ⟨β, o + k, none⟩)) := by
  cases hx with
  | ptr b off β g =>
    obtain rfl := Option.some.inj h
    exact ⟨β, off, rfl, .ptr b (off + k) β g⟩
  | vel xs i off β o s val hs h1 hr =>
    obtain rfl := Option.some.inj h
    refine ⟨β, _, rfl, ?_⟩
    rw [Nat.add_assoc]
    exact .vel xs i (off + k) β o s val hs h1 hr
  | hel b i off β o s cap g =>
    obtain rfl := Option.some.inj h
    refine ⟨β, _, rfl, ?_⟩
    rw [Nat.add_assoc]
    exact .hel b i (off + k) β o s cap g
  | _ => simp [ashift] at h
def afieldAddr (P : Program) (s : TypeId) (f : Nat) (x : AV) : Option AV := (tfield P s f).bind fun q => ashift q.1 x
theorem opq_fieldAddr {o : Oper} {ρ : Operand → AV} {σ : ASt} {R : AV → ASt → Prop} {s : TypeId} {x : Operand} {f : Nat} (ho : o.op = .fieldAddr s x f) {r : AV} (h : afieldAddr P s f (ρ x) = some r) (hr : R r σ) : OpQ P o ρ σ R := by
  refine opq_v (s := fun e => Instr.fieldAt s (e x) f) (fun e => by simp only [execOp, ho]) r hr fun G e w he hw => ?_
  simp only [afieldAddr, Option.bind_eq_some_iff] at h
  obtain ⟨⟨off, n, g⟩, hf, hl⟩ := h
  obtain ⟨fs, fd, h1, h2, rfl, h4, h5⟩ := tfield_spec hf
  obtain ⟨β, o, hv, hrep⟩ := ashift_spec hl (he x)
  refine ⟨_, ?_, hrep⟩
  simp [Instr.fieldAt, run_underlying' h1, h2, hv, Instr.sureAddr, fieldPlace, run_sizeOf' h4, h5, addr_add]
end Go.AL
