import Derived.Test.YtfpjojjgoelckaaDoorA12
/-! Regions that draw their order, if what they do leaves what is known as it is: the order of the text serves for all. -/
namespace Go.AL
set_option linter.unusedVariables false
set_option linter.unusedSimpArgs false

variable {P : Program} {σ : ASt} {R : AV → ASt → Prop} {D : List Deferred} {Q : Exit → List AV → ASt → Prop} {fr : List AV} {ops : Array Oper}

theorem aop_congr {mu : List Nat} {o : Oper} {ρ ρ' : Operand → AV} (h : ∀ x ∈ o.op.operands, ρ x = ρ' x) : aop P mu o ρ σ = aop P mu o ρ' σ := by
  have pairs : ∀ ps : Array (Nat × Operand), (∀ x ∈ ps.map (·.2), ρ x = ρ' x) → (ps.toList.map fun q => (q.1, ρ q.2)) = ps.toList.map fun q => (q.1, ρ' q.2) := fun ps hp =>
    List.map_congr_left fun p hm => by rw [hp p.2 (Array.mem_map.2 ⟨p, by simpa using hm, rfl⟩)]
  have lst : ∀ ps : Array Operand, (∀ x ∈ ps, ρ x = ρ' x) → ps.toList.map ρ = ps.toList.map ρ' := fun ps hp => List.map_congr_left fun p hm => hp p (by simpa using hm)
  obtain ⟨dst, op, type, pos, after, guard⟩ := o
  cases op <;> simp only [Op.operands] at h <;> unfold aop <;> dsimp only
  case build t ps => rw [pairs ps fun x hx => h x (by simpa using hx)]
  case buildSlice t n ps => rw [pairs ps fun x hx => h x (by simpa using hx)]
  case makeFunc fn first captured => rw [lst first fun x hx => h x (by simp [hx]), lst captured fun x hx => h x (by simp [hx])]
  case call c =>
    cases hc : c.callee with
    | builtin b => dsimp only; rw [lst c.args fun x hx => h x (by simp [Call.operands, hx])]
    | value f => rfl
    | invoke r m => rfl
  case slice t x lo hi mx => cases lo <;> cases hi <;> cases mx <;> simp_all
  all_goals (first | rfl | (simp_all; done))
theorem aopP_congr {o : Oper} {ρ ρ' : Operand → AV} (h : ∀ x ∈ o.op.operands, ρ x = ρ' x) : aopP P o ρ σ = aopP P o ρ' σ := by
  unfold aopP
  split
  · rfl
  · rw [aop_congr h]

/-- What an operation leaves in its slot, in whatever frame agrees with this one where it looks. -/
def Yld (P : Program) (ops : Array Oper) (σ : ASt) (o : Oper) (fr : List AV) (r : AV) : Prop :=
  ∀ G (a : Act) w, (∀ t ∈ o.looksAt ops, Rep G w (fget fr t) (a.eval (.tmp t))) → SimW G σ w →
    (Region.wanted o (yielded ops a.tmps) = true → OutcN P G w (fun r' σ' => r' = r ∧ σ' = σ) ((execOp a.eval o).run P w)) ∧ (Region.wanted o (yielded ops a.tmps) = false → Rep G w r undef)

theorem looks_op {o : Oper} {t : Nat} (h : Operand.tmp t ∈ o.op.operands) : t ∈ o.looksAt ops :=
  List.mem_append_left _ (List.mem_filterMap.2 ⟨.tmp t, by simpa using h, rfl⟩)
theorem fget_fset_ne : ∀ (l : List AV) (d t : Nat) (v : AV), t ≠ d → fget (fset l d v) t = fget l t
  | [], _, _, _, _ => rfl
  | _ :: _, 0, 0, _, h => absurd rfl h
  | _ :: _, 0, _ + 1, _, _ => rfl
  | _ :: _, _ + 1, 0, _, _ => rfl
  | _ :: l, d + 1, t + 1, v, h => by rw [fset, fget, fget]; exact fget_fset_ne l d t v (by omega)
theorem fset_comm : ∀ (l : List AV) (d e : Nat) (v u : AV), d ≠ e → fset (fset l d v) e u = fset (fset l e u) d v
  | [], _, _, _, _, _ => rfl
  | _ :: _, 0, 0, _, _, h => absurd rfl h
  | _ :: _, 0, _ + 1, _, _, _ => rfl
  | _ :: _, _ + 1, 0, _, _, _ => rfl
  | _ :: l, d + 1, e + 1, v, u, h => by simp only [fset]; rw [fset_comm l d e v u (by omega)]
theorem Yld.put {o : Oper} {r : AV} {d : Option Tmp} {v : AV} (hd : ∀ x, d = some x → x ∉ o.looksAt ops) : Yld P ops σ o (aput fr d v) r ↔ Yld P ops σ o fr r := by
  have e : ∀ t ∈ o.looksAt ops, fget (aput fr d v) t = fget fr t := by
    intro t ht
    cases d with
    | none => rfl
    | some x => exact fget_fset_ne fr x t v fun e => hd x rfl (e ▸ ht)
  constructor
  · intro h G a w ha hw
    exact h G a w (fun t ht => by rw [e t ht]; exact ha t ht) hw
  · intro h G a w ha hw
    exact h G a w (fun t ht => by rw [← e t ht]; exact ha t ht) hw
theorem aput_comm (fr : List AV) {x y : Option Tmp} (v u : AV) (h : ∀ d, x = some d → y ≠ some d) : aput (aput fr x v) y u = aput (aput fr y u) x v := by
  cases x with
  | none => rfl
  | some d =>
    cases y with
    | none => rfl
    | some e => exact fset_comm fr d e v u fun he => h d rfl (he ▸ rfl)

/-- Operation number i comes up. -/
def yOp (P : Program) (ops : Array Oper) (σ : ASt) (i : Nat) (K : List AV → Prop) (fr : List AV) : Prop :=
  match ops[i]? with
  | none => K fr
  | some o => ∃ r, Yld P ops σ o fr r ∧ K (aput fr o.dst r)
def anyY (P : Program) (md : Region.Mode) (ops : Array Oper) (σ : ASt) (K : List AV → Prop) : Nat → Array Bool → List AV → Prop
  | 0, listed, fr => Region.ready md ops listed = [] ∧ K fr
  | fuel + 1, listed, fr => (Region.ready md ops listed = [] → K fr) ∧ ∀ i ∈ Region.ready md ops listed, yOp P ops σ i (anyY P md ops σ K fuel (listed.setIfInBounds i true)) fr
theorem yOp_mono {i : Nat} {K K' : List AV → Prop} (h : ∀ fr, K fr → K' fr) (hh : yOp P ops σ i K fr) : yOp P ops σ i K' fr := by
  unfold yOp at *
  split
  · rename_i ho; simp only [ho] at hh; exact h _ hh
  · rename_i o ho
    simp only [ho] at hh
    obtain ⟨r, h1, h2⟩ := hh
    exact ⟨r, h1, h _ h2⟩
theorem wpAny_of_anyY {md : Region.Mode} {K : List AV → Prop} {D : List Deferred} {Q : Exit → List AV → ASt → Prop} (hK : ∀ fr, K fr → Q .normal fr σ) : ∀ (fuel : Nat) (listed : Array Bool) (fr : List AV) (G : Ghost) (a : Act) (w : World) (G0 : Ghost) (w0 : World),
    Le G0 w0 G w → Sim G fr σ D a w → anyY P md ops σ K fuel listed fr → wpAny P md ops (lift G0 w0 D Q) fuel listed a w
  | 0, _, fr, G, a, w, G0, w0, hl, hs, h => ⟨h.1, G, fr, σ, hl, hs, hK _ h.2⟩
  | fuel + 1, listed, fr, G, a, w, G0, w0, hl, hs, h => by
    refine ⟨fun h0 => ⟨G, fr, σ, hl, hs, hK _ (h.1 h0)⟩, fun i hi => ?_⟩
    have hy := h.2 i hi
    unfold yOp at hy
    unfold wpOp
    split
    · rename_i ho
      simp only [ho] at hy
      exact wpAny_of_anyY hK fuel _ fr G a w G0 w0 hl hs hy
    · rename_i o ho
      simp only [ho] at hy
      obtain ⟨r, hr, hk⟩ := hy
      have hyl := hr G a w (fun t _ => hs.ev (.tmp t)) hs.w
      by_cases hw : Region.wanted o (yielded ops a.tmps) = true
      · rw [if_pos hw]
        refine .inl ?_
        have hq := hyl.1 hw
        unfold Oper.wp
        have key : ∀ v w', Outc G w (fun r' σ' => r' = r ∧ σ' = σ) v w' → wpAny P md ops (lift G0 w0 D Q) fuel (listed.setIfInBounds i true) (a.put o.dst v) w' := by
          rintro v w' ⟨r', G', σ', hl', hw', hr', e1, e2⟩
          rw [e1] at hr'
          rw [e2] at hw'
          exact wpAny_of_anyY hK fuel _ _ G' _ w' G0 w0 (hl.trans hl') ((hs.le hl' hw').put o.dst hr') hk
        generalize (execOp a.eval o).run P w = n at hq
        cases n with
        | halt => exact hq.elim
        | ok n w' =>
          cases n with
          | value v => exact key v w' hq
          | skip => exact key undef w' hq
          | enter f args =>
            refine Calls.mono hq fun e w'' he => ?_
            cases e with
            | returned v => exact key v w'' he
            | panicked c => exact he.elim
            | outgrown => exact he.elim
          | _ => exact hq.elim
      · rw [if_neg hw]
        have hu := hyl.2 (by simpa using hw)
        exact wpAny_of_anyY hK fuel _ _ G _ w G0 w0 hl (hs.put o.dst hu) hk
theorem yOp_put {j : Nat} {oi oj : Oper} {v : AV} (hj : ops[j]? = some oj) (hap : oi.apart ops oj = true) {K : List AV → Prop} (hy : Yld P ops σ oi fr v) (h : yOp P ops σ j K (aput fr oi.dst v)) :
    yOp P ops σ j (fun fr' => Yld P ops σ oi fr' v ∧ K (aput fr' oi.dst v)) fr := by
  obtain ⟨h1, h2, h3⟩ := Oper.apart_spec hap
  unfold yOp at *
  simp only [hj] at *
  obtain ⟨r, hr, hk⟩ := h
  refine ⟨r, (Yld.put h1).1 hr, (Yld.put h3).2 hy, ?_⟩
  rw [← aput_comm fr v r h2]
  exact hk
theorem anyY_first {md : Region.Mode} {K : List AV → Prop} {i : Nat} {oi : Oper} {v : AV} (hi : ops[i]? = some oi) : ∀ (fuel : Nat) (listed : Array Bool) (fr : List AV),
      (∀ j oj, ops[j]? = some oj → j ≠ i → listed.getD j true = false → (∀ e ∈ oj.after, Region.binds md e = true → e.on ≠ i) → oi.apart ops oj = true) →
      i ∈ Region.ready md ops listed → Yld P ops σ oi fr v →
      anyY P md ops σ K fuel (listed.setIfInBounds i true) (aput fr oi.dst v) → anyY P md ops σ K (fuel + 1) listed fr := by
  intro fuel
  have self : ∀ {K : List AV → Prop} {fr}, Yld P ops σ oi fr v → K (aput fr oi.dst v) → yOp P ops σ i K fr := fun hy hk => by
    unfold yOp; simp only [hi]; exact ⟨v, hy, hk⟩
  induction fuel with
  | zero =>
    intro listed fr _ hr hy H
    refine ⟨fun h => (by rw [h] at hr; cases hr), fun j hj => ?_⟩
    by_cases hji : j = i
    · subst hji; exact self hy H
    · have := ready_mono hj hji
      rw [H.1] at this
      cases this
  | succ fuel ih =>
    intro listed fr hfree hr hy H
    refine ⟨fun h => (by rw [h] at hr; cases hr), fun j hj => ?_⟩
    by_cases hji : j = i
    · subst hji; exact self hy H
    · have h1 := H.2 j (ready_mono hj hji)
      obtain ⟨hjun, oj, hoj, hall⟩ := mem_ready.1 hj
      have hnot : ∀ e ∈ oj.after, Region.binds md e = true → e.on ≠ i := fun e he hb heq => by
        have h1 := hall e he hb
        have h0 := (mem_ready.1 hr).1
        rw [heq] at h1
        rcases Nat.lt_or_ge i listed.size with h' | h'
        · simp [h'] at h0 h1; rw [h0] at h1; cases h1
        · simp [Array.getElem?_eq_none h'] at h1
      have h2 := yOp_put hoj (hfree j oj hoj hji hjun hnot) hy h1
      have hfree' : ∀ k ok, ops[k]? = some ok → k ≠ i → (listed.setIfInBounds j true).getD k true = false →
          (∀ e ∈ ok.after, Region.binds md e = true → e.on ≠ i) → oi.apart ops ok = true := fun k ok hk hki hun hno => by
        refine hfree k ok hk hki ?_ hno
        by_cases hjk : j = k
        · subst hjk; exact hjun
        · rw [getD_set_ne true hjk] at hun; exact hun
      refine yOp_mono (fun fr' h3 => ih (listed.setIfInBounds j true) fr' hfree' (ready_mono hr (Ne.symm hji)) h3.1 ?_) h2
      rw [Array.setIfInBounds_comm _ _ hji]
      exact h3.2
/-- The order of the text. -/
def YL (P : Program) (ops : Array Oper) (σ : ASt) (K : List AV → Prop) : List Oper → List AV → Prop
  | [], fr => K fr
  | o :: rest, fr => ∃ r, Yld P ops σ o fr r ∧ YL P ops σ K rest (aput fr o.dst r)
theorem anyY_lex {md : Region.Mode} {K : List AV → Prop} (hs : Region.noSelect ops = true) : ∀ (l : List Oper) (k : Nat) (listed : Array Bool) (fr : List AV), (∀ j, l[j]? = ops[k + j]?) →
    Region.lexFrom md ops l.length k listed = true → YL P ops σ K l fr → anyY P md ops σ K l.length listed fr
  | [], _, _, _, _, hB, h => ⟨by simpa [Region.lexFrom] using hB, h⟩
  | o :: l, k, listed, fr, hl, hB, h => by
    have h0 : ops[k]? = some o := by simpa using (hl 0).symm
    simp only [List.length_cons, Region.lexFrom, Bool.and_eq_true] at hB
    obtain ⟨⟨hr, hf⟩, hB'⟩ := hB
    obtain ⟨r, hy, hK⟩ := h
    exact anyY_first h0 l.length listed fr (Region.free_spec h0 hf) (by simpa using hr) hy
      (anyY_lex hs l (k + 1) _ _ (fun j => by have := hl (j + 1); simpa [Nat.add_assoc, Nat.add_comm 1 j] using this) hB' hK)
theorem aw_draw {id : Nat} {l : List Oper} (hm : P.follows .mixedOrders = true) (hB : Region.lexB .any l.toArray = true) (h : YL P l.toArray σ (fun fr => Q .normal fr σ) l fr) : AW P D (.region id l.toArray true) Q fr σ := by
  intro G a w hs
  simp only [Region.lexB, Bool.and_eq_true] at hB
  have hb : Go.RowKit.Below w.heap.size w { w with drawn := w.drawn + 1 } := ⟨rfl, rfl, rfl, Nat.le_refl _, fun _ _ => rfl⟩
  have hs2 : Sim G fr σ D a { w with drawn := w.drawn + 1 } := hs.le (Le.grow hs.w hb) (hs.w.grow hb)
  refine wp_region_any hm (wpAny_of_anyY (K := fun fr => Q .normal fr σ) (fun fr h => h) _ _ fr G a _ G w (Le.grow hs.w hb) hs2 ?_)
  have := anyY_lex (md := .any) hB.1 l 0 (Array.replicate l.toArray.size false) fr (by simp) (by simpa using hB.2) h
  simpa using this

/-! ### how it is shown -/
open Classical in
noncomputable def only (o : Oper) (ρ : Operand → AV) : Operand → AV := fun x => if x ∈ o.op.operands then ρ x else .any
theorem only_eq {o : Oper} {ρ : Operand → AV} : ∀ x ∈ o.op.operands, ρ x = only o ρ x := fun x hx => by unfold only; rw [if_pos hx]
theorem only_rep {o : Oper} {G w} {a : Act} (h : ∀ t ∈ o.looksAt ops, Rep G w (fget fr t) (a.eval (.tmp t))) (x : Operand) : Rep G w (only o (aev fr) x) (a.eval x) := by
  unfold only
  split
  · rename_i hx
    cases x with
    | tmp t => exact h t (looks_op hx)
    | const v => exact rep_ofV G w v
    | global g => exact .p _
    | func f => exact .p _
  · exact .any _
theorem only_strip {o : Oper} {G w} {a : Act} (h : ∀ t ∈ o.looksAt ops, Rep G w (fget fr t) (a.eval (.tmp t))) (x : Operand) : Rep G w (only o (fun x => strip true (aev fr x)) x) (a.eval x) := by
  unfold only
  split
  · rename_i hx
    refine strip_rep rfl ?_
    cases x with
    | tmp t => exact h t (looks_op hx)
    | const v => exact rep_ofV G w v
    | global g => exact .p _
    | func f => exact .p _
  · exact .any _
theorem yld_plain {o : Oper} {r : AV} (hg : o.guard = none) (h : aopP P o (aev fr) σ = some r) : Yld P ops σ o fr r := by
  intro G a w ha hw
  have h2 : aopP P o (only o (aev fr)) σ = some r := by rw [← aopP_congr only_eq]; exact h
  refine ⟨fun _ => opq_aop (aopP_spec h2) ⟨rfl, rfl⟩ G a.eval w (only_rep ha) hw, fun hf => ?_⟩
  simp [Region.wanted, hg] at hf
theorem looks_guard {o : Oper} {j d : Nat} {want : Bool} (hg : o.guard = some (j, want)) (hd : (ops[j]?).bind (·.dst) = some d) : d ∈ o.looksAt ops := by
  unfold Oper.looksAt
  rw [hg]
  simp [hd]
theorem gcond_agree {o : Oper} {c : Bool} (h : gcond ops o fr = some c) {G w} {a : Act} (ha : ∀ t ∈ o.looksAt ops, Rep G w (fget fr t) (a.eval (.tmp t))) : Region.wanted o (yielded ops a.tmps) = c := by
  unfold gcond at h
  unfold Region.wanted
  cases hg : o.guard with
  | none => rw [hg] at h; cases h
  | some jw =>
    obtain ⟨j, want⟩ := jw
    rw [hg] at h
    simp only at h ⊢
    unfold yielded
    cases hd : (ops[j]?).bind (·.dst) with
    | none => rw [hd] at h; cases h
    | some d =>
      rw [hd] at h
      simp only [Option.bind_some] at h ⊢
      have hr := ha d (looks_guard hg hd)
      simp only [Act.eval] at hr
      have key : ∀ v, Rep G w (fget fr d) v → ((match v with | .bool b => some b | _ => none : Option Bool) == some want) = c := by
        intro v hr
        split at h
        · rename_i b hf
          rw [hf] at hr
          cases hr
          obtain rfl := Option.some.inj h
          cases b <;> cases want <;> rfl
        · rename_i c' b hf
          rw [hf] at hr
          obtain rfl := Option.some.inj h
          cases hr with
          | opt _ _ _ h1 h0 =>
            cases c' with
            | false => rw [h0 rfl]; rfl
            | true =>
              have := h1 rfl
              cases this
              cases b <;> cases want <;> rfl
        · rename_i v' _ hf
          rw [hf] at hr
          obtain rfl := Option.some.inj h
          cases hr with
          | opt _ _ _ h1 h0 => rw [h0 rfl]; rfl
        · cases h
      have h2 := key _ hr
      rw [Array.getD_eq_getD_getElem?] at h2
      cases hv : a.tmps[d]? with
      | none => rw [hv] at h2; exact h2
      | some v =>
        rw [hv] at h2
        simp only [Option.getD_some] at h2
        cases v <;> exact h2
theorem outc_opt {G w r v w'} (h : Outc G w (fun r' σ' => r' = r ∧ σ' = σ) v w') : Outc G w (fun r' σ' => r' = .opt true r ∧ σ' = σ) v w' := by
  obtain ⟨r', G', σ', hl, hw, hr, rfl, rfl⟩ := h
  exact ⟨_, G', _, hl, hw, .opt true _ v (fun _ => hr) (fun e => by cases e), rfl, rfl⟩
theorem outcN_opt {G w r n} (h : OutcN P G w (fun r' σ' => r' = r ∧ σ' = σ) n) : OutcN P G w (fun r' σ' => r' = .opt true r ∧ σ' = σ) n := by
  cases n with
  | halt => exact h.elim
  | ok n w' =>
    cases n with
    | value v => exact outc_opt h
    | skip => exact outc_opt h
    | enter f args =>
      refine Calls.mono h fun e w'' he => ?_
      cases e with
      | returned v => exact outc_opt he
      | panicked c => exact he.elim
      | outgrown => exact he.elim
    | _ => exact h.elim
theorem yld_guard {o : Oper} {r : AV} {c : Bool} (hc : gcond ops o fr = some c) (h : aopP P o (fun x => strip c (aev fr x)) σ = some r) : Yld P ops σ o fr (.opt c r) := by
  intro G a w ha hw
  rw [gcond_agree hc ha]
  cases c with
  | false => exact ⟨fun e => (by cases e), fun _ => .opt false r undef (fun e => (by cases e)) fun _ => rfl⟩
  | true =>
    refine ⟨fun _ => ?_, fun e => by cases e⟩
    have h2 : aopP P o (only o fun x => strip true (aev fr x)) σ = some r := by rw [← aopP_congr only_eq]; exact h
    have hq := opq_aop (R := fun r' σ' => r' = r ∧ σ' = σ) (aopP_spec h2) ⟨rfl, rfl⟩ G a.eval w (only_strip ha) hw
    exact outcN_opt hq
/-- As far as it goes, in a region that draws. -/
def YRun (P : Program) (ops : Array Oper) (σ : ASt) (K : List AV → Prop) : List Oper → List AV → Prop
  | [], fr => K fr
  | o :: rest, fr =>
    match o.guard with
    | none =>
      match aopP P o (aev fr) σ with
      | some r => Shut (YRun P ops σ K rest (aput fr o.dst r))
      | none => YL P ops σ K (o :: rest) fr
    | some _ =>
      match gcond ops o fr with
      | some c =>
        match aopP P o (fun x => strip c (aev fr x)) σ with
        | some r => Shut (YRun P ops σ K rest (aput fr o.dst (.opt c r)))
        | none => YL P ops σ K (o :: rest) fr
      | none => YL P ops σ K (o :: rest) fr
theorem yl_run {K : List AV → Prop} : ∀ {l : List Oper} {fr : List AV}, YRun P ops σ K l fr → YL P ops σ K l fr
  | [], _, h => h
  | o :: rest, fr, h => by
    unfold YRun at h
    split at h
    · rename_i hg
      split at h
      · rename_i r hr; exact ⟨r, yld_plain hg hr, yl_run h.out⟩
      · exact h
    · split at h
      · rename_i c hc
        split at h
        · rename_i r hr; exact ⟨_, yld_guard hc hr, yl_run h.out⟩
        · exact h
      · exact h
theorem shut_ynil {K : List AV → Prop} : Shut (YRun P ops σ K [] fr) ↔ K fr := ⟨fun h => h.1, fun h => ⟨h⟩⟩
theorem shut_ycons {K : List AV → Prop} {o : Oper} {rest : List Oper} : Shut (YRun P ops σ K (o :: rest) fr) ↔ (match o.guard with
    | none =>
      match aopP P o (aev fr) σ with
      | some r => Shut (YRun P ops σ K rest (aput fr o.dst r))
      | none => YL P ops σ K (o :: rest) fr
    | some _ =>
      match gcond ops o fr with
      | some c =>
        match aopP P o (fun x => strip c (aev fr x)) σ with
        | some r => Shut (YRun P ops σ K rest (aput fr o.dst (.opt c r)))
        | none => YL P ops σ K (o :: rest) fr
      | none => YL P ops σ K (o :: rest) fr) := ⟨fun h => by have := h.1; unfold YRun at this; exact this, fun h => ⟨by unfold YRun; exact h⟩⟩
theorem aw_yrun {id : Nat} {l : List Oper} (hm : P.follows .mixedOrders = true) (hB : Region.lexB .any l.toArray = true) (h : Shut (YRun P l.toArray σ (fun fr => Q .normal fr σ) l fr)) : AW P D (.region id l.toArray true) Q fr σ :=
  aw_draw hm hB (yl_run h.out)
theorem yl_go {K : List AV → Prop} {l : List Oper} (h : Shut (YRun P ops σ K l fr)) : YL P ops σ K l fr := yl_run h.out
theorem yld_opq {o : Oper} {r : AV} (hg : o.guard = none) (h : ∀ ρ, (∀ x ∈ o.op.operands, ρ x = aev fr x) → OpQ P o ρ σ fun r' σ' => r' = r ∧ σ' = σ) : Yld P ops σ o fr r := by
  intro G a w ha hw
  exact ⟨fun _ => h (only o (aev fr)) (fun x hx => (only_eq x hx).symm) G a.eval w (only_rep ha) hw, fun hf => by simp [Region.wanted, hg] at hf⟩
theorem yld_opq_guard {o : Oper} {r : AV} {c : Bool} (hc : gcond ops o fr = some c) (h : c = true → ∀ ρ, (∀ x ∈ o.op.operands, ρ x = strip c (aev fr x)) → OpQ P o ρ σ fun r' σ' => r' = r ∧ σ' = σ) : Yld P ops σ o fr (.opt c r) := by
  intro G a w ha hw
  rw [gcond_agree hc ha]
  cases c with
  | false => exact ⟨fun e => (by cases e), fun _ => .opt false r undef (fun e => (by cases e)) fun _ => rfl⟩
  | true => exact ⟨fun _ => outcN_opt (h rfl (only o fun x => strip true (aev fr x)) (fun x hx => (only_eq x hx).symm) G a.eval w (only_strip ha) hw), fun e => by cases e⟩
theorem opq_pure {o : Oper} {f : Operand} {aa : Array Operand} {ts : Array TypeId} {ρ ρ0 : Operand → AV} (ho : o.op = .call { callee := .value f, args := aa, argTypes := ts })
    {F : FuncId} {first cap : List AV} (hf : acallee (ρ0 f) = some (F, first, cap)) (hcl : callable P F = true) {args : List AV} (he : first ++ aa.toList.map ρ0 ++ cap = args) {r : AV} (hp : APure P F args r) (hca : ∀ a ∈ args, Cl a) (hcr : Cl r) (hρ : ∀ x ∈ o.op.operands, ρ x = ρ0 x) : OpQ P o ρ σ fun r' σ' => r' = r ∧ σ' = σ := by
  rw [ho] at hρ
  have e1 : ρ f = ρ0 f := hρ f (by simp [Op.operands, Call.operands])
  have e2 : aa.toList.map ρ = aa.toList.map ρ0 := List.map_congr_left fun x hx => hρ x (by simp only [Op.operands, Call.operands]; simp [Array.mem_toList_iff.1 hx])
  exact opq_call ho (by rw [e1]; exact hf) hcl (by rw [e2, he]; exact hp.call hca hcr σ)
/-- A pure call, in a region that draws. -/
theorem yl_pure {K : List AV → Prop} {o : Oper} {rest : List Oper} {f : Operand} {aa : Array Operand} {ts : Array TypeId} (ho : o.op = .call { callee := .value f, args := aa, argTypes := ts }) (hg : o.guard = none)
    {F : FuncId} {first cap : List AV} (hf : acallee (aev fr f) = some (F, first, cap)) (hcl : callable P F = true) {args : List AV} (he : first ++ aa.toList.map (aev fr) ++ cap = args) {r : AV} (hp : APure P F args r) (hca : ∀ a ∈ args, Cl a) (hcr : Cl r)
    (hk : Shut (YRun P ops σ K rest (aput fr o.dst r))) : YL P ops σ K (o :: rest) fr :=
  ⟨r, yld_opq hg fun ρ hρ => opq_pure ho hf hcl he hp hca hcr hρ, yl_run hk.out⟩
theorem yl_pure_guard {K : List AV → Prop} {o : Oper} {rest : List Oper} {f : Operand} {aa : Array Operand} {ts : Array TypeId} (ho : o.op = .call { callee := .value f, args := aa, argTypes := ts }) {c : Bool} (hg : gcond ops o fr = some c)
    {F : FuncId} {first cap : List AV} (hf : acallee (strip c (aev fr f)) = some (F, first, cap)) (hcl : callable P F = true) {args : List AV} (he : first ++ aa.toList.map (fun x => strip c (aev fr x)) ++ cap = args) {r : AV} (hp : c = true → APure P F args r) (hca : ∀ a ∈ args, Cl a) (hcr : Cl r)
    (hk : Shut (YRun P ops σ K rest (aput fr o.dst (.opt c r)))) : YL P ops σ K (o :: rest) fr :=
  ⟨_, yld_opq_guard hg fun hc ρ hρ => opq_pure (ρ0 := fun x => strip c (aev fr x)) ho hf hcl he (hp hc) hca hcr hρ, yl_run hk.out⟩
end Go.AL
