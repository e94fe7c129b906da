/- Parts of the proof of MonoTells: the logic, contracts, plain laws. -/
import Derived.Test.YtadahjmamgidnaaZMonoTells13
/-! The statement 'for x := range f'. -/
namespace Go.AL
open Go.RowKit (Below)
set_option linter.unusedVariables false
set_option linter.unusedSimpArgs false
variable {P : Program} {σ : ASt} {R : AV → ASt → Prop} {Q : Exit → List AV → ASt → Prop} {fr : List AV}
/-- How a round's body is left. -/
def BQ (cs' : List AV) (j : Option Code) (es' : List (AV × AV)) : Exit → List AV → ASt → Prop
  | .normal, _, σ' => j = none ∧ σ'.bx 0 = some cs' ∧ σ'.mp 1 = some es'
  | .ret, _, σ' => j = some .ret ∧ σ'.bx 0 = some cs' ∧ σ'.mp 1 = some es'
  | .exit id, _, σ' => j = some (.exit id) ∧ σ'.bx 0 = some cs' ∧ σ'.mp 1 = some es'
  | .goto t, _, σ' => j = some (.goto t) ∧ σ'.bx 0 = some cs' ∧ σ'.mp 1 = some es'
  | _, _, _ => False
/-- One round. -/
def Round (P : Program) (p : Tmp) (assign body : Code) (fs cs : List AV) (x : AV) (cs' : List AV) (j : Option Code) : Prop :=
  ∀ es, AW P [] assign (thenA (fun fr1 σ1 => σ1.mp 1 = some es ∧ ∀ es', AW P [] body (BQ cs' j es') fr1 { σ1 with mp := upd σ1.mp 1 (some es') }) (fun _ _ _ => False)) (fset fs p x) (yst cs es)
theorem fitNil [r : Rd] : FitD [] := ⟨.inl (by simp [mkD])⟩
theorem sy_of_round {p : Tmp} {assign body : Code} {fs cs cs' : List AV} {x : AV} {j : Option Code} (h : Round P p assign body fs cs x cs' j) :
    SY P [x] cs (.loop (lp0 #[p] assign body)) fs (.p (.bool j.isNone)) cs' (.loop (nxt (lp0 #[p] assign body) j)) := by
  intro G w vs μ hv hw hμ
  obtain ⟨μ', r, g, hh, hr, hrep, _⟩ := rec_turn hw (m := 1) (r0 := lp0 #[p] assign body) (fs := fs) rfl
  obtain rfl : μ' = μ := Option.some.inj (g.symm.trans hμ)
  have hps : r.params = #[p] := congrArg Loop.params hr
  have hpa : r.assign = assign := congrArg Loop.assign hr
  have hpb : r.body = body := congrArg Loop.body hr
  have hst : r.state = .ready := congrArg Loop.state hr
  have hpe : r.pending = none := congrArg Loop.pending hr
  have hsz : vs.size = 1 := by have := hv.1; simp at this; exact this.symm
  obtain ⟨v, rfl⟩ : ∃ v, vs = #[v] := by
    obtain ⟨l⟩ := vs
    match l, hsz with
    | [v], _ => exact ⟨v, rfl⟩
  have hx : Rep G w x v := hv.2 0 x v rfl rfl
  refine ⟨r.fn, _, r.assign, r.body, run_yield hh (by rw [hps]; rfl), ?_⟩
  rw [hps, hpa, hpb]
  refine roundIn_of_wpIn (F := Fence.wide) trivial ?_
  have hsim : Sim G (fset fs p x) (yst cs (obE (.loop (lp0 #[p] assign body)) fs)) [] { tmps := (#[p].zip #[v]).foldl (fun tmps (t, a) => tmps.setIfInBounds t a) r.tmps, defers := [] } w := by
    have hs0 : Sim G fs (yst cs (obE (.loop (lp0 #[p] assign body)) fs)) [] { tmps := r.tmps, defers := [] } w := ⟨hrep, .inl ⟨by simp [mkD], rfl⟩, hw⟩
    have := hs0.put (some p) hx
    simpa [aput, Act.put] using this
  have hA := h _ ⟨some μ'⟩ (@fitNil ⟨some μ'⟩) G _ w hsim
  refine wpIn_mono (F := Fence.wide.inRound μ') (Q := lift G w [] _) (fun b k cs hro hb hr => hA b k cs hro hb (room_wide _)) ?_
  rintro e a1 w1 ⟨G1, fr1, σ1, hl1, hs1, hq⟩
  cases e with
  | normal =>
    obtain ⟨hes, hbody⟩ := hq
    obtain ⟨μ1, r1, g1, hh1, hr1, hrep1, turn1⟩ := rec_turn hs1.w hes
    obtain rfl : μ1 = μ' := Option.some.inj (g1.symm.trans (hl1.mp _ _ hμ))
    have hst1 : r1.state = .ready := congrArg Loop.state hr1
    obtain ⟨hl2, hw2⟩ := turn1 { r1 with state := .busy } rfl
    refine ⟨_, run_beginRound hh1 hst1, ?_⟩
    have hB := hbody _ ⟨some μ1⟩ (@fitNil ⟨some μ1⟩) G1 a1 _ (hs1.le hl2 hw2)
    refine wpIn_mono (F := Fence.wide.inRound μ1) (Q := lift G1 _ [] _) (fun b k cs hro hb hr => hB b k cs hro hb (room_wide _)) ?_
    rintro e a3 w3 ⟨G3, fr3, σ3, hl3, hs3, hq3⟩
    have hend : ∀ jmp, j = jmp → σ3.bx 0 = some cs' → σ3.mp 1 = some (obE (.loop (erL { r1 with state := .busy })) fs) →
        ∃ u w4, (Instr.endRound μ1 jmp).run P w3 = .ok u w4 ∧ retOf (Outc G w (ScR fs (.p (.bool j.isNone)) cs' (.loop (nxt (lp0 #[p] assign body) j)))) (.returned u) w4 := by
      intro jmp hj hb3 hm3
      subst hj
      obtain ⟨μ3, r3, g3, hh3, hr3, hrep3, turn3⟩ := rec_turn hs3.w hm3
      obtain rfl : μ3 = μ1 := Option.some.inj (g3.symm.trans (hl3.mp _ _ (hl2.mp _ _ g1)))
      obtain ⟨hl4, hw4⟩ := turn3 { r3 with state := if j.isNone then .ready else .done, pending := j } rfl
      refine ⟨_, _, run_endRound j hh3, _, G3, _, hl1.trans (hl2.trans (hl3.trans hl4)), hw4, .p _, rfl, hb3, ?_⟩
      have e : erL { r3 with state := if j.isNone then .ready else .done, pending := j } = nxt (lp0 #[p] assign body) j := by
        have e3 : r3.params = #[p] ∧ r3.assign = assign ∧ r3.body = body := by
          have h1 : (erL r3).params = (erL { r1 with state := .busy }).params := congrArg Loop.params hr3
          have h2 : (erL r3).assign = (erL { r1 with state := .busy }).assign := congrArg Loop.assign hr3
          have h3 : (erL r3).body = (erL { r1 with state := .busy }).body := congrArg Loop.body hr3
          exact ⟨h1.trans (show (erL r1).params = _ from congrArg Loop.params hr1), h2.trans (show (erL r1).assign = _ from congrArg Loop.assign hr1), h3.trans (show (erL r1).body = _ from congrArg Loop.body hr1)⟩
        obtain ⟨e4, e5, e6⟩ := e3
        cases j <;> simp [erL, nxt, lp0, e4, e5, e6]
      rw [e]
      simp [upd]
    cases e with
    | normal => exact hend none hq3.1 hq3.2.1 hq3.2.2
    | ret => exact hend (some .ret) hq3.1 hq3.2.1 hq3.2.2
    | exit id => exact hend (some (.exit id)) hq3.1 hq3.2.1 hq3.2.2
    | goto t => exact hend (some (.goto t)) hq3.1 hq3.2.1 hq3.2.2
    | _ => exact hq3.elim
  | _ => exact hq.elim
/-- All of them, one by one, until one is left for good. -/
def visit {α : Type} (stp : List AV → α → List AV × Option Code) : List α → List AV → List AV × Option Code
  | [], cs => (cs, none)
  | x :: l, cs => match stp cs x with
    | (cs', none) => visit stp l cs'
    | (cs', some c) => (cs', some c)
theorem visit_append {α : Type} (stp : List AV → α → List AV × Option Code) : ∀ (l l' : List α) (cs : List AV), visit stp (l ++ l') cs = match visit stp l cs with
    | (cs', none) => visit stp l' cs'
    | (cs', some c) => (cs', some c)
  | [], _, _ => rfl
  | x :: l, l', cs => by
    simp only [List.cons_append, visit]
    cases h : stp cs x with
    | mk cs' j => cases j with
      | none => exact visit_append stp l l' cs'
      | some c => rfl
theorem aw_rangeFunc {α : Type} {g : Operand} {p : Tmp} {assign body : Code} {gf : FuncId} {cap : List AV} (hg : aev fr g = .fn (.func gf) [] cap) (hcap : ∀ c ∈ cap, Cl c) (hc : callable P gf = true)
    {b : Nat} {cs0 : List AV} (hb : σ.bx b = some cs0) (hbm : σ.mp b = none) (hbs : σ.sl b = none) (fs : List AV) (hF : ∀ v ∈ fs, F0 v) (hfr : fr = fs.map (sub b))
    (enc : α → AV) (stp : List AV → α → List AV × Option Code) (xs : List α) (I : List AV → Prop) (h0 : I cs0) (hI : ∀ cs, I cs → ∀ c ∈ cs, Cl c) (hIs : ∀ cs, I cs → ∀ x ∈ xs, I (stp cs x).1)
    (hiter : (∀ cs, I cs → ∀ x ∈ xs, SY P [enc x] cs (.loop (lp0 #[p] assign body)) fs (.p (.bool (stp cs x).2.isNone)) (stp cs x).1 (.loop (nxt (lp0 #[p] assign body) (stp cs x).2))) →
      ∃ r, Cl r ∧ SC P gf (.yld 1 :: cap) cs0 (.loop (lp0 #[p] assign body)) fs r (visit stp xs cs0).1 (.loop (nxt (lp0 #[p] assign body) (visit stp xs cs0).2)))
    (hround : ∀ cs, I cs → ∀ x ∈ xs, Round P p assign body fs cs (enc x) (stp cs x).1 (stp cs x).2)
    (hn : (visit stp xs cs0).2 = none → ∀ n, σ.next ≤ n → Q .normal fr { σ with bx := upd σ.bx b (some (visit stp xs cs0).1), next := n })
    (hs : ∀ c, (visit stp xs cs0).2 = some c → ∀ n, σ.next ≤ n → AW P mkD c Q fr { σ with bx := upd σ.bx b (some (visit stp xs cs0).1), next := n }) :
    AW P mkD (.rangeFunc g #[p] assign body) Q fr σ := by
  have hvI : ∀ (l : List α) (cs : List AV), (∀ x ∈ l, x ∈ xs) → I cs → I (visit stp l cs).1 := by
    intro l
    induction l with
    | nil => intro cs _ h; exact h
    | cons x l ih =>
      intro cs hl h
      have h1 := hIs cs h x (hl x List.mem_cons_self)
      simp only [visit]
      cases h2 : stp cs x with
      | mk cs' j =>
        rw [h2] at h1
        cases j with
        | none => exact ih cs' (fun y hy => hl y (List.mem_cons_of_mem _ hy)) h1
        | some c => exact h1
  obtain ⟨rv, hrv, hsc⟩ := hiter fun cs hcs x hx => sy_of_round (hround cs hcs x hx)
  intro rd hfit G a w hs0
  have hro : rd.ro = none := by rcases hfit.fit with h | h; · exact absurd rfl h
                                · exact h
  refine wpIn_rangeFunc (F := wideR) fun fn _ => ?_
  have hro' : (wideR : Fence).round = none := hro
  rw [hro']
  -- the block for deferred calls, the record
  obtain ⟨w1, hw1⟩ : ∃ w1, w1 = w.alloc (.deferred (some [])) := ⟨_, rfl⟩
  obtain ⟨rec, hrec⟩ : ∃ rec : Loop, rec = { state := .ready, pending := none, fn, tmps := a.tmps, params := #[p], assign, body, defers := w.heap.size } := ⟨_, rfl⟩
  obtain ⟨w2, hw2⟩ : ∃ w2, w2 = w1.alloc (.loop rec) := ⟨_, rfl⟩
  have hb1 : Below w.heap.size w w1 := by rw [hw1]; exact (Below.refl _ _).alloc (Nat.le_refl _) _
  have hz1 : w1.heap.size = w.heap.size + 1 := by rw [hw1]; exact World.size_alloc _ _
  obtain ⟨q, hq⟩ : ∃ q : Nat → Nat → Prop, q = fun β _ => β = w.heap.size := ⟨_, rfl⟩
  have hl1 : Le G w (G.addSt q) w1 := Le.addSt hs0.w hb1 q fun β o e => by rw [hq] at e; omega
  have hs1 : SimW (G.addSt q) σ w1 := hs0.w.addSt hb1 q fun β o e => by rw [hq] at e; omega
  have hb2 : Below w1.heap.size w1 w2 := by rw [hw2]; exact (Below.refl _ _).alloc (Nat.le_refl _) _
  have hl2 := Le.addMp hs1 hb2 w1.heap.size
  have hh2 : w2.heap[w1.heap.size]? = some (.loop rec) := by rw [hw2]; exact World.alloc_heap_new _ _
  have hes2 : SimW ((G.addSt q).addMp σ.next w1.heap.size) (σ.addMp (obE (.loop (lp0 #[p] assign body)) (fs.map (sub b)))) w2 := hs1.addMp hb2 (Nat.le_refl _) fun hl => .inr ⟨_, .loop rec, fs.map (sub b), upd_same _ _ _, hh2, by
    have h1 : RepL G w fr a.tmps.toList := hs0.tmps
    rw [hfr] at h1
    have := (h1.mono hl1).mono hl
    show RepL _ _ _ rec.tmps.toList
    rw [hrec]; exact this, by rw [hrec]; rfl⟩
  obtain ⟨G2, hG2⟩ : ∃ G2, G2 = (G.addSt q).addMp σ.next w1.heap.size := ⟨_, rfl⟩
  rw [← hG2] at hes2 hl2
  have hl02 : Le G w G2 w2 := hl1.trans hl2
  have hgm : G2.mp σ.next = some w1.heap.size := by rw [hG2]; exact upd_same _ _ _
  -- the function
  have hfn := hs0.ev g
  rw [hg] at hfn
  obtain ⟨caps, hv, hcv⟩ : ∃ caps : Array Value, a.eval g = .func (.func gf) #[] caps ∧ RepL G w cap caps.toList := by
    generalize a.eval g = v at hfn
    cases hfn with
    | fn _ _ _ us vs h1 h2 h3 h4 =>
      have : us = #[] := Array.eq_empty_of_size_eq_zero h1.symm
      subst this
      exact ⟨vs, rfl, by simpa using h2, fun i c v hc hv => h4 i c v hc (by simpa using hv)⟩
  refine ⟨w.heap.size + 1, [colD w.heap.size], w2, { target := .fn (.func gf) caps, args := #[.func (.yield (w.heap.size + 1)) #[] #[]] }, w2, gf, #[.func (.yield (w.heap.size + 1)) #[] #[]] ++ caps, w2, ?_, ?_, fun _ _ => trivial, ?_, fun _ => by decide, ?_⟩
  · rw [hw2, hw1, hrec]; exact run_enterLoop_outer _ _ _ _ _
  · simp only [resolve, hv]
    simp [go_sem]
  · simp only [invoke, run_callFunc hc, Sem.run_bind, Result.andThen_ok, Sem.run_pure]
  have hcall : ACall P gf (.yld σ.next :: cap) (σ.addMp (obE (.loop (lp0 #[p] assign body)) (fs.map (sub b)))) (ScB (σ.addMp (obE (.loop (lp0 #[p] assign body)) (fs.map (sub b)))) b σ.next fs rv (visit stp xs cs0).1 (.loop (nxt (lp0 #[p] assign body) (visit stp xs cs0).2))) := by
    have hfresh := hs0.w.fresh σ.next (Nat.le_refl _)
    have hne : b ≠ σ.next := fun e => by have := hfresh.2.2.2.1; rw [← e, hb] at this; cases this
    refine hsc.call (b := b) (m := σ.next) ?_ ⟨?_, hF, hI _ h0, hI _ (hvI xs cs0 (fun _ h => h) h0), hrv, hb, upd_same _ _ _, ?_, hbs, hfresh.2.2.2.1, hfresh.2.2.2.2.2⟩
    · simp only [List.map_cons, subA, List.cons.injEq, true_and]
      conv => rhs; rw [← List.map_id cap]
      exact List.map_congr_left fun c hcc => by have := hcap c hcc; cases this <;> rfl
    · intro v hv
      rcases List.mem_cons.1 hv with rfl | hv
      · exact .inr (.inr rfl)
      · exact .inl (hcap v hv)
    · show upd σ.mp σ.next _ b = none
      rw [upd_ne _ _ hne]; exact hbm
  have hargs : RepL G2 w2 (.yld σ.next :: cap) ((#[.func (.yield (w.heap.size + 1)) #[] #[]] : Array Value) ++ caps).toList := by
    rw [Array.toList_append]
    exact repL_cons (.yld _ _ (by rw [← hz1]; exact hgm)) (hcv.mono hl02)
  refine wideR_callsIn.2 (Calls.mono (hcall G2 w2 _ hargs hes2) fun e w3 he => ?_)
  cases e with
  | panicked c => exact he.elim
  | outgrown => exact he.elim
  | returned v =>
    obtain ⟨r', G3, σ3, hl3, hw3, _, _, n, hnn, rfl⟩ := he
    obtain ⟨μ3, r3, g3, hh3, hr3, hrep3, turn3⟩ := rec_turn hw3 (m := σ.next) (r0 := nxt (lp0 #[p] assign body) (visit stp xs cs0).2) (fs := fs.map (sub b)) (upd_same _ _ _)
    obtain rfl : μ3 = w.heap.size + 1 := by rw [← hz1]; exact Option.some.inj (g3.symm.trans (hl3.mp _ _ hgm))
    obtain ⟨hl4, hw4⟩ := turn3 { r3 with state := .exhausted } rfl
    have hnb : r3.state ≠ .busy := by
      have : (erL r3).state = (nxt (lp0 #[p] assign body) (visit stp xs cs0).2).state := congrArg Loop.state hr3
      replace this : r3.state = _ := this
      rw [this]; cases (visit stp xs cs0).2 <;> simp [nxt, lp0]
    have hpend : r3.pending = (visit stp xs cs0).2 := by
      have : (erL r3).pending = (nxt (lp0 #[p] assign body) (visit stp xs cs0).2).pending := congrArg Loop.pending hr3
      replace this : r3.pending = _ := this
      rw [this]; cases (visit stp xs cs0).2 <;> rfl
    obtain ⟨jmp, hjmp⟩ : ∃ jmp, jmp = r3.pending := ⟨_, rfl⟩
    have hrun : (Instr.endLoop (w.heap.size + 1)).run P w3 = .ok jmp (w3.putObj (w.heap.size + 1) (.loop { r3 with state := .exhausted })) := by rw [hjmp]; exact run_endLoop hh3 hnb
    refine ⟨jmp, _, hrun, ?_⟩
    have hle : Le G w G3 (w3.putObj (w.heap.size + 1) (.loop { r3 with state := .exhausted })) := hl02.trans (hl3.trans hl4)
    have hsim : Sim G3 fr { σ with bx := upd σ.bx b (some (visit stp xs cs0).1), next := n } mkD { a with defers := [colD w.heap.size] ++ a.defers } (w3.putObj (w.heap.size + 1) (.loop { r3 with state := .exhausted })) := by
      refine ⟨hs0.tmps.mono hle, ?_, hw4.less ⟨fun _ _ e => e, fun i es e => ?_, fun _ _ e => e, Nat.le_refl _⟩⟩
      · rcases hs0.defers.mono hle with ⟨h1, _⟩ | ⟨_, ms, h1, h2, h3⟩
        · exact absurd rfl h1
        · rcases hs0.defers with ⟨h4, _⟩ | ⟨_, ms0, h4, h5, h6⟩
          · exact absurd rfl h4
          have hst : (G.addSt q).st w.heap.size 0 := .inr (by rw [hq])
          refine .inr ⟨rfl, w.heap.size :: ms0, by show colD w.heap.size :: a.defers = _; rw [h4]; rfl, List.nodup_cons.2 ⟨fun hm => ?_, h5⟩, fun μ hm => ?_⟩
          · have := (Array.getElem?_eq_some_iff.1 (h6 _ hm).2.2).1; omega
          · rcases List.mem_cons.1 hm with rfl | hm
            · refine ⟨by rw [hle.base]; exact hs0.w.base.le, (hl2.trans (hl3.trans hl4)).st _ _ hst, ?_⟩
              rw [(hl2.trans (hl3.trans hl4)).cell _ _ hst, hw1]
              exact World.alloc_heap_new _ _
            · have := h6 μ hm
              exact ⟨by rw [hle.base]; exact this.1, hle.st _ _ this.2.1, (hle.cell _ _ this.2.1).trans this.2.2⟩
      · show upd (upd (upd σ.mp σ.next _) σ.next _) σ.next _ i = some es
        have e' : σ.mp i = some es := e
        have hne : i ≠ σ.next := fun e2 => by have := (hs0.w.fresh σ.next (Nat.le_refl _)).2.2.2.2.1; rw [← e2, e'] at this; cases this
        rw [upd_ne _ _ hne, upd_ne _ _ hne, upd_ne _ _ hne]; exact e'
    have hnn' : σ.next ≤ n := Nat.le_trans (Nat.le_succ _) hnn
    rw [hjmp.trans hpend]
    cases hj : (visit stp xs cs0).2 with
    | none => exact ⟨G3, fr, _, hle, hsim, hn hj n hnn'⟩
    | some c =>
      have := hs c hj n hnn' rd hfit G3 _ _ hsim
      exact wpIn_mono this fun e a w h => lift_le hle h
/-! ### within an iterator -/
/-- One variable, one record, and what comes next. -/
def ystN (cs : List AV) (es : List (AV × AV)) (n : Nat) : ASt := ⟨fun b => if b = 0 then some cs else none, fun b => if b = 1 then some es else none, fun _ => none, n⟩
@[simp] theorem ystN_bx (cs es n) (b : Nat) : (ystN cs es n).bx b = if b = 0 then some cs else none := rfl
@[simp] theorem ystN_mp (cs es n) (b : Nat) : (ystN cs es n).mp b = if b = 1 then some es else none := rfl
@[simp] theorem ystN_sl (cs es n) (b : Nat) : (ystN cs es n).sl b = none := rfl
@[simp] theorem ystN_next (cs es n) : (ystN cs es n).next = n := rfl
theorem yst_N (cs es) : yst cs es = ystN cs es 2 := rfl
theorem le_ystN {cs es n} (h0 : σ.bx 0 = some cs) (h1 : σ.mp 1 = some es) (hn : σ.next ≤ n) : (ystN cs es n).Le σ where
  bx := fun b c e => by
    simp only [ystN_bx] at e
    split at e
    · rename_i hb; subst hb; rw [h0]; exact e
    · cases e
  mp := fun b c e => by
    simp only [ystN_mp] at e
    split at e
    · rename_i hb; subst hb; rw [h1]; exact e
    · cases e
  sl := fun b c e => by cases e
  next := hn
theorem sub0 {fs : List AV} : fs.map (sub 0) = fs := by
  conv => rhs; rw [← List.map_id fs]
  exact List.map_congr_left fun v _ => by
    unfold sub
    split <;> rfl
variable {ops : Array Oper} {o : Oper} {rest : List Oper} {D : List Deferred}
/-- A call of yield, next in a run, within an iterator. -/
theorem awl_yieldN (mu : List Nat) {f : Operand} {aa : Array Operand} {ts : Array TypeId} (ho : o.op = .call { callee := .value f, args := aa, argTypes := ts }) (hw : awanted ops o fr = some true) (hf : aev fr f = .yld 1) {args : List AV} (ha : aa.toList.map (aev fr) = args)
    {cs cs' : List AV} {ob ob' : Obj} {fs : List AV} {r : AV} (h : SY P args cs ob fs r cs' ob') (hargs : ∀ v ∈ args, Cl v) (hfs : ∀ v ∈ fs, F0 v) (hcs : ∀ v ∈ cs, Cl v) (hcs' : ∀ v ∈ cs', Cl v) (hr : Cl r)
    (hb : σ.bx 0 = some cs) (hm : σ.mp 1 = some (obE ob fs)) (hbm : σ.mp 0 = none) (hbs : σ.sl 0 = none) (hmx : σ.bx 1 = none) (hms : σ.sl 1 = none)
    (hk : ∀ n, σ.next ≤ n → Shut (ARun P D ops Q mu rest (aput fr o.dst r) (ystN cs' (obE ob' fs) n))) : AWL P D ops Q (o :: rest) fr σ := by
  have e : args.map (subA 0 1) = args := by
    conv => rhs; rw [← List.map_id args]
    exact List.map_congr_left fun v hv => by have := hargs v hv; cases this <;> rfl
  refine awl_yield ho hw hf ha ((h.call e ⟨fun v hv => .inl (hargs v hv), hfs, hcs, hcs', hr, hb, by rw [sub0]; exact hm, hbm, hbs, hmx, hms⟩).mono ?_)
  rintro r' σ' ⟨rfl, n, hn, rfl⟩
  exact (awl_run' mu (hk n hn)).less (le_ystN (by simp [upd]) (by rw [sub0]; simp [upd]) (Nat.le_refl _))
theorem awl_scN (mu : List Nat) {f : Operand} {aa : Array Operand} {ts : Array TypeId} (ho : o.op = .call { callee := .value f, args := aa, argTypes := ts }) (hw : awanted ops o fr = some true)
    {F : FuncId} {first cap : List AV} (hf : acallee (aev fr f) = some (F, first, cap)) (hc : callable P F = true) {args : List AV} (ha : first ++ aa.toList.map (aev fr) ++ cap = args)
    {cs cs' : List AV} {ob ob' : Obj} {fs : List AV} {r : AV} (h : SC P F args cs ob fs r cs' ob') (hargs : ∀ v ∈ args, Cl v ∨ v = .yld 1) (hfs : ∀ v ∈ fs, F0 v) (hcs : ∀ v ∈ cs, Cl v) (hcs' : ∀ v ∈ cs', Cl v) (hr : Cl r)
    (hb : σ.bx 0 = some cs) (hm : σ.mp 1 = some (obE ob fs)) (hbm : σ.mp 0 = none) (hbs : σ.sl 0 = none) (hmx : σ.bx 1 = none) (hms : σ.sl 1 = none)
    (hk : ∀ n, σ.next ≤ n → Shut (ARun P D ops Q mu rest (aput fr o.dst r) (ystN cs' (obE ob' fs) n))) : AWL P D ops Q (o :: rest) fr σ := by
  have e : args.map (subA 0 1) = args := by
    conv => rhs; rw [← List.map_id args]
    exact List.map_congr_left fun v hv => by
      rcases hargs v hv with h | rfl
      · cases h <;> rfl
      · rfl
  refine awl_acall ho hw hf hc ha ((h.call e ⟨fun v hv => (hargs v hv).imp id .inr, hfs, hcs, hcs', hr, hb, by rw [sub0]; exact hm, hbm, hbs, hmx, hms⟩).mono ?_)
  rintro r' σ' ⟨rfl, n, hn, rfl⟩
  exact (awl_run' mu (hk n hn)).less (le_ystN (by simp [upd]) (by rw [sub0]; simp [upd]) (Nat.le_refl _))
theorem f0_nil : ∀ v ∈ ([] : List AV), F0 v := fun _ h => nomatch h
theorem f0_cons {v : AV} {l : List AV} (h : F0 v) (t : ∀ v ∈ l, F0 v) : ∀ u ∈ v :: l, F0 u := fun u hu => by
  rcases List.mem_cons.1 hu with rfl | hu
  · exact h
  · exact t u hu
theorem sc_of {f : FuncId} {fn : Func} {c : Code} {n : Nat} {args cs cs' fs : List AV} {ob ob' : Obj} {r : AV} (hf : P.funcs[f]? = some fn) (hn : fn.ntmps = n) (hb : fn.body = some c)
    (h : AW P [] c (RetQ P fn (ScR fs r cs' ob')) (args ++ List.replicate (n - args.length) (.p undef)) (ystN cs (obE ob fs) 2)) : SC P f args cs ob fs r cs' ob' := acall_of hf hn hb h
end Go.AL
/-! An array's value at an index; a large array's variable. -/
namespace Go.AL
set_option linter.unusedVariables false
set_option linter.unusedSimpArgs false
variable {P : Program} {σ : ASt} {R : AV → ASt → Prop} {D : List Deferred} {Q : Exit → List AV → ASt → Prop} {fr : List AV} {ops : Array Oper} {o : Oper} {ρ : Operand → AV} {rest : List Oper}
theorem opq_indexA {t : TypeId} {x i : Operand} (ho : o.op = .index t x i) {cs : List AV} {k : IntKind} {n : Int} {len s : Nat} {g : Bool} (hx : ρ x = .agg cs) (hi : ρ i = .p (.int k n)) (ht : tarr P t = some (len, s, g)) (h0 : 0 ≤ n) (hn : n < len)
    {r : AV} (hr : aloadC cs (n.toNat * s) s g = some r) (hR : R r σ) : OpQ P o ρ σ R := by
  refine opq_v (s := fun e => Instr.index t (e x) (e i)) (fun e => by simp only [execOp, ho]) r hR fun G e w he hw => ?_
  have h1 := he x
  rw [hx] at h1
  have h2 := he i
  rw [hi] at h2
  generalize e x = vx at h1
  generalize e i = vi at h2
  cases h2
  obtain ⟨e', hu, hsz⟩ := tarr_spec ht
  cases h1 with
  | agg _ vs hs hc =>
    obtain ⟨v, e1, e2⟩ := run_part_of hsz hr hs hc
    refine ⟨v, ?_, e2⟩
    simp only [Instr.index, asIntOf, Sem.run_bind, Sem.run_pure, Result.andThen_ok, run_underlying' hu, if_pos (⟨h0, hn⟩ : 0 ≤ n ∧ n < (len : Int)), run_sizeOf' hsz, e1]
theorem awl_indexA (mu : List Nat) {t : TypeId} {x i : Operand} (ho : o.op = .index t x i) (hw : awanted ops o fr = some true) {cs : List AV} {k : IntKind} {n : Int} {len s : Nat} {g : Bool} (hx : aev fr x = .agg cs) (hi : aev fr i = .p (.int k n)) (ht : tarr P t = some (len, s, g)) (h0 : 0 ≤ n) (hn : n < len)
    {r : AV} (hr : aloadC cs (n.toNat * s) s g = some r) (hk : Shut (ARun P D ops Q mu rest (aput fr o.dst r) σ)) : AWL P D ops Q (o :: rest) fr σ :=
  awl_cons hw (opq_indexA ho hx hi ht h0 hn hr (awl_run' mu hk))
/-- A list of truths, as cells. -/
def bcells (n : Nat) (f : Nat → Bool) : List AV := (List.range n).map fun i => .p (.bool (f i))
theorem bcells_len (n : Nat) (f : Nat → Bool) : (bcells n f).length = n := by simp [bcells]
theorem bcells_get {n : Nat} {f : Nat → Bool} {i : Nat} (h : i < n) : (bcells n f)[i]? = some (.p (.bool (f i))) := by simp [bcells, h]
theorem bcells_set {n : Nat} {f : Nat → Bool} {i : Nat} (h : i < n) : (bcells n f).set i (.p (.bool true)) = bcells n (fun j => decide (j = i) || f j) := by
  apply List.ext_getElem?
  intro j
  rw [List.getElem?_set]
  by_cases hj : i = j
  · subst hj
    rw [if_pos rfl, if_pos (by simpa [bcells] using h), bcells_get h]; simp
  · rw [if_neg hj]
    by_cases hn : j < n
    · rw [bcells_get hn, bcells_get hn]
      have : ¬ j = i := fun e => hj e.symm
      simp [this]
    · rw [List.getElem?_eq_none (by simp [bcells]; omega), List.getElem?_eq_none (by simp [bcells]; omega)]
theorem bcells_cl {n : Nat} {f : Nat → Bool} : ∀ c ∈ bcells n f, Cl c := by
  intro c hc
  simp only [bcells, List.mem_map] at hc
  obtain ⟨i, _, rfl⟩ := hc
  exact .p _
end Go.AL
/-! Maps whose keys are structs; maps that stay as they are. -/
namespace Go.AL
open Go.RowKit (Below)
set_option linter.unusedVariables false
set_option linter.unusedSimpArgs false
variable {P : Program} {σ : ASt} {R : AV → ASt → Prop} {D : List Deferred} {Q : Exit → List AV → ASt → Prop} {fr : List AV} {ops : Array Oper} {o : Oper} {ρ : Operand → AV} {rest : List Oper}
/-! ### keys -/
def tmapS (P : Program) (t : TypeId) : Option (TypeId × TypeId) :=
  match P.underlying t with
  | some (.map k e) => some (k, e)
  | _ => none
theorem tmapS_spec {t k e : TypeId} (h : tmapS P t = some (k, e)) : P.underlying t = some (.map k e) := by
  unfold tmapS at h
  split at h
  · rename_i hd; simp only [Option.some.injEq, Prod.mk.injEq] at h; obtain ⟨rfl, rfl⟩ := h; exact hd
  · cases h
/-- A struct's value that may be a key: its fields are numbers, texts, truths. -/
def keyok (P : Program) (kt : TypeId) (cs : List AV) : Bool :=
  match tflds P kt with
  | some fl => fl.all fun f => decide (tleaf P f.1 ≠ 0) && match tsize P f.1 with | some ng => (aloadC cs f.2 ng.1 ng.2).isSome | none => false
  | none => false
theorem tflds_spec {t : TypeId} {fl : List (TypeId × Nat)} (h : tflds P t = some fl) : ∃ fs, P.underlying t = some (.struct fs) ∧ (∀ f ∈ fs.toList, f.name ≠ "_") ∧ fl = fs.toList.map fun f => (f.type, f.offset) := by
  unfold tflds at h
  split at h
  · rename_i fs hfs
    split at h
    · rename_i hc
      obtain rfl := Option.some.inj h
      refine ⟨fs, hfs, fun f hf => ?_, rfl⟩
      have := List.all_eq_true.1 hc.2 f hf
      simpa using this
    · cases h
  · cases h
theorem run_forIn_ok {α : Type} {w : World} (body : α → PUnit → Sem (ForInStep PUnit)) : ∀ l : List α, (∀ a ∈ l, (body a PUnit.unit).run P w = .ok (.yield PUnit.unit) w) →
    (forIn l PUnit.unit body : Sem PUnit).run P w = .ok PUnit.unit w
  | [], _ => rfl
  | a :: l, h => by
    have h1 := h a List.mem_cons_self
    have h2 := run_forIn_ok body l fun b hb => h b (List.mem_cons_of_mem _ hb)
    rw [List.forIn_cons]
    simp only [Sem.run_bind, h1, Result.andThen_ok]
    exact h2
theorem run_checkKeyS {G : Ghost} {kt : TypeId} {cs : List AV} {v : Value} (hk : keyok P kt cs = true) {w : World} (hr : Rep G w (.agg cs) v) (b : Bool) (n : Nat) : (Instr.checkKey b (n + 2) kt v).run P w = .ok () w := by
  unfold keyok at hk
  split at hk
  · rename_i fl hfl
    obtain ⟨fs, hfs, hnm, rfl⟩ := tflds_spec hfl
    cases hr with
    | agg _ vs hs hc =>
      unfold Instr.checkKey
      simp only [Sem.run_bind, run_underlying' hfs, Result.andThen_ok]
      rw [← Array.forIn_toList]
      rw [run_forIn_ok]
      · rfl
      · intro f hf
        have h1 := List.all_eq_true.1 hk (f.type, f.offset) (List.mem_map.2 ⟨f, hf, rfl⟩)
        simp only [Bool.and_eq_true, decide_eq_true_eq] at h1
        obtain ⟨h1, h2⟩ := h1
        split at h2
        · rename_i ng hng
          obtain ⟨r, hr⟩ := Option.isSome_iff_exists.1 h2
          obtain ⟨u, e1, e2⟩ := run_part_of hng hr hs hc
          obtain ⟨d, e3, e4⟩ := tleaf_spec rfl h1
          have e5 := run_checkKey e3 (by rcases e4 with ⟨_, rfl⟩ | ⟨_, e, rfl⟩ | ⟨_, rfl⟩ <;> rfl) b n u w
          simp [hnm f hf, e1, e5]
        · cases h2
  · cases hk
/-! ### looking one up -/
def vfind (P : Program) (kt : TypeId) (k : AV) : List AV → Nat → Option (Option Nat)
  | [], _ => some none
  | x :: l, i => match aeqF P 5 kt k x with
    | some true => some (some i)
    | some false => vfind P kt k l (i + 1)
    | none => none
theorem vfind_spec {G : Ghost} {w : World} {kt : TypeId} {k : AV} {kv : Value} (hk : Rep G w k kv) : ∀ (ks : List AV) (ents : List MapEntry) (i : Nat) (r : Option Nat), ks.length = ents.length → (∀ (n : Nat) c e, ks[n]? = some c → ents[n]? = some e → Rep G w c e.key) → vfind P kt k ks i = some r →
    match r with
    | none => (Instr.findAsking kt kv ents i).run P w = .ok none w
    | some j => ∃ e, i ≤ j ∧ ents[j - i]? = some e ∧ (Instr.findAsking kt kv ents i).run P w = .ok (some (j, e.val)) w
  | [], [], i, r, _, _, h => by
    obtain rfl := Option.some.inj h
    rfl
  | x :: ks, e :: ents, i, r, hl, hr, h => by
    have hx := hr 0 x e rfl rfl
    unfold vfind at h
    cases hq : aeqF P 5 kt k x with
    | none => rw [hq] at h; cases h
    | some b =>
      rw [hq] at h
      have hb : (Op.equal kt kv e.key).run P w = .ok b w := aeqF_spec 5 _ (by decide) kt k x b kv e.key hq hk hx
      cases b with
      | true =>
        obtain rfl := Option.some.inj h
        refine ⟨e, Nat.le_refl _, by simp, ?_⟩
        unfold Instr.findAsking
        simp [hb]
      | false =>
        have ih := vfind_spec hk ks ents (i + 1) r (by simpa using hl) (fun n c e a b => hr (n + 1) c e a b) h
        cases r with
        | none =>
          show (Instr.findAsking kt kv (e :: ents) i).run P w = .ok none w
          unfold Instr.findAsking
          simp [hb, ih]
        | some j =>
          obtain ⟨e', hij, he, hf⟩ := ih
          refine ⟨e', by omega, ?_, ?_⟩
          · rw [show j - i = (j - (i + 1)) + 1 by omega]; exact he
          · unfold Instr.findAsking
            simp [hb, hf]
theorem run_findKeyS {kt : TypeId} {fs : Array Field} (hk : P.underlying kt = some (.struct fs)) {kv : Value} {ents : List MapEntry} {r : Option (Nat × Value)} {w : World} (h : (Instr.findAsking kt kv ents 0).run P w = .ok r w) : (Instr.findKey kt kv ents).run P w = .ok r w := by
  unfold Instr.findKey
  simp only [Sem.run_bind, run_underlying' hk, Result.andThen_ok]
  cases ents with
  | nil =>
    have : Instr.findNow (.struct fs) kv [] 0 = some none := rfl
    rw [this]
    unfold Instr.findAsking at h
    simpa using h
  | cons e l =>
    have : Instr.findNow (.struct fs) kv (e :: l) 0 = none := by
      unfold Instr.findNow Instr.sameNow
      rfl
    rw [this]
    exact h
def vgot (P : Program) (el : TypeId) (vs : List AV) (r : Option Nat) (x : AV) : Prop := match r with | some j => vs[j]? = some x | none => tzero P el = some x
/-- What a lookup gives, by what the map holds. -/
theorem run_lookupS {G : Ghost} {t kt el : TypeId} (ht : tmapS P t = some (kt, el)) {kcs ks vs : List AV} (hok : keyok P kt kcs = true) {kv : Value} {w : World} (hk : Rep G w (.agg kcs) kv) {μ clock : Nat} {ents : Array MapEntry} (hh : w.heap[μ]? = some (.map ents clock))
    (h3 : ks.length = ents.size) (h4 : vs.length = ents.size) (h5 : ∀ (i : Nat) c e, ks[i]? = some c → ents[i]? = some e → Rep G w c e.key) (h6 : ∀ (i : Nat) c e, vs[i]? = some c → ents[i]? = some e → Rep G w c e.val)
    {r : Option Nat} (hf : vfind P kt (.agg kcs) ks 0 = some r) {x : AV} (hx : vgot P el vs r x) (ok : Bool) :
    ∃ v, (Instr.lookup t (.map (some μ)) kv ok).run P w = .ok (if ok = true then .tuple #[v, .bool r.isSome] else v) w ∧ Rep G w x v := by
  have u1 := tmapS_spec ht
  obtain ⟨fs, u2⟩ : ∃ fs, P.underlying kt = some (.struct fs) := by
    unfold keyok at hok
    split at hok
    · rename_i fl hfl; obtain ⟨fs, h, _⟩ := tflds_spec hfl; exact ⟨fs, h⟩
    · cases hok
  have hfs := vfind_spec hk ks ents.toList 0 r (by simp [h3]) (fun n c e a b => h5 n c e a (by simpa using b)) hf
  cases r with
  | none =>
    obtain ⟨i, v, hi, hv, rfl⟩ := tzero_spec hx
    refine ⟨v, ?_, rep_ofV G w v⟩
    simp [Instr.lookup, run_underlying' u1, run_getObj_map hh, run_checkKeyS hok hk _ 9998, run_findKeyS u2 hfs, run_zeroValue' hi hv]
  | some j =>
    obtain ⟨e, _, he, hfs⟩ := hfs
    simp only [Nat.sub_zero] at he
    refine ⟨e.val, ?_, h6 j x e hx (by simpa using he)⟩
    simp [Instr.lookup, run_underlying' u1, run_getObj_map hh, run_checkKeyS hok hk _ 9998, run_findKeyS u2 hfs]
theorem outc_val {G : Ghost} {w : World} {x : AV} {v : Value} (hrep : Rep G w x v) (ok b : Bool) : Rep G w (if ok = true then .tup [x, .p (.bool b)] else x) (if ok = true then .tuple #[v, .bool b] else v) := by
  cases ok with
  | false => exact hrep
  | true =>
    refine .tup _ _ rfl fun i c u a c' => ?_
    match i, a, c' with
    | 0, a, c' => cases a; cases c'; exact hrep
    | 1, a, c' => cases a; cases c'; exact .p _
/-- In a map that stays. -/
theorem opq_lookupV {t : TypeId} {m k : Operand} {ok : Bool} (ho : o.op = .lookup t m k ok) {kt el : TypeId} (ht : tmapS P t = some (kt, el)) {ks vs kcs : List AV} (hm : ρ m = .vmp ks vs) (hk : ρ k = .agg kcs) (hok : keyok P kt kcs = true)
    {r : Option Nat} (hf : vfind P kt (.agg kcs) ks 0 = some r) {x : AV} (hx : vgot P el vs r x) (hr : R (if ok = true then .tup [x, .p (.bool r.isSome)] else x) σ) : OpQ P o ρ σ R := by
  refine opq_v (s := fun e => Instr.lookup t (e m) (e k) ok) (fun e => by simp only [execOp, ho]) _ hr fun G e w he hw => ?_
  have hm' := he m
  rw [hm] at hm'
  have hk' := he k
  rw [hk] at hk'
  generalize e m = vm at hm'
  cases hm' with
  | vmp _ _ μ clock ents h1 h2 h3 h4 h5 h6 =>
    obtain ⟨v, e1, e2⟩ := run_lookupS ht hok hk' h2 h3 h4 h5 h6 hf hx ok
    exact ⟨_, e1, outc_val e2 ok _⟩
theorem awl_lookupV (mu : List Nat) {t : TypeId} {m k : Operand} {ok : Bool} (ho : o.op = .lookup t m k ok) (hw : awanted ops o fr = some true) {kt el : TypeId} (ht : tmapS P t = some (kt, el)) {ks vs kcs : List AV} (hm : aev fr m = .vmp ks vs) (hk : aev fr k = .agg kcs) (hok : keyok P kt kcs = true)
    {r : Option Nat} (hf : vfind P kt (.agg kcs) ks 0 = some r) {x : AV} (hx : vgot P el vs r x) (hk2 : Shut (ARun P D ops Q mu rest (aput fr o.dst (if ok = true then .tup [x, .p (.bool r.isSome)] else x)) σ)) : AWL P D ops Q (o :: rest) fr σ :=
  awl_cons hw (opq_lookupV ho ht hm hk hok hf hx (awl_run' mu hk2))
/-! ### in one of one's own -/
theorem mp_real {G : Ghost} {w : World} {b : Nat} {es : List (AV × AV)} (h : MpOK G w b es) (hn : ∀ p ∈ es, p.1 ≠ noV) :
    ∃ μ ents clock, G.mp b = some μ ∧ w.heap[μ]? = some (.map ents clock) ∧ ents.size = es.length ∧
    (∀ (i : Nat) k x (e : MapEntry), es[i]? = some (k, x) → ents[i]? = some e → Rep G w k e.key ∧ Rep G w x e.val ∧ e.born < clock) ∧ (∀ (i j : Nat) (e e' : MapEntry), ents[i]? = some e → ents[j]? = some e' → e.born = e'.born → i = j) := by
  rcases h with h | ⟨μ, ob, ofr, _, _, _, rfl⟩
  · exact h
  · exact absurd rfl (hn _ List.mem_cons_self)
theorem opq_lookupS {t : TypeId} {m k : Operand} {ok : Bool} (ho : o.op = .lookup t m k ok) {kt el : TypeId} (ht : tmapS P t = some (kt, el)) {b : Nat} (hm : ρ m = .map b) {es : List (AV × AV)} (hb : σ.mp b = some es) (hn : ∀ p ∈ es, p.1 ≠ noV) {kcs : List AV} (hk : ρ k = .agg kcs) (hok : keyok P kt kcs = true)
    {r : Option Nat} (hf : vfind P kt (.agg kcs) (es.map Prod.fst) 0 = some r) {x : AV} (hx : vgot P el (es.map Prod.snd) r x) (hr : R (if ok = true then .tup [x, .p (.bool r.isSome)] else x) σ) : OpQ P o ρ σ R := by
  refine opq_v (s := fun e => Instr.lookup t (e m) (e k) ok) (fun e => by simp only [execOp, ho]) _ hr fun G e w he hw => ?_
  have hm' := he m
  rw [hm] at hm'
  have hk' := he k
  rw [hk] at hk'
  obtain ⟨μ, ents, clock, g1, g2, g3, g4, g5⟩ := mp_real (hw.mp b es hb) hn
  generalize e m = vm at hm'
  obtain ⟨μ', rfl, g⟩ : ∃ μ', vm = .map (some μ') ∧ G.mp b = some μ' := by cases hm'; exact ⟨_, rfl, by assumption⟩
  obtain rfl := Option.some.inj (g.symm.trans g1)
  obtain ⟨v, e1, e2⟩ := run_lookupS ht hok hk' g2 (by simp [g3]) (by simp [g3]) (fun i c e a c' => by
    rw [List.getElem?_map] at a
    obtain ⟨p, hp, rfl⟩ := Option.map_eq_some_iff.1 a
    exact (g4 i p.1 p.2 e hp c').1) (fun i c e a c' => by
    rw [List.getElem?_map] at a
    obtain ⟨p, hp, rfl⟩ := Option.map_eq_some_iff.1 a
    exact (g4 i p.1 p.2 e hp c').2.1) hf hx ok
  exact ⟨_, e1, outc_val e2 ok _⟩
theorem awl_lookupS (mu : List Nat) {t : TypeId} {m k : Operand} {ok : Bool} (ho : o.op = .lookup t m k ok) (hw : awanted ops o fr = some true) {kt el : TypeId} (ht : tmapS P t = some (kt, el)) {b : Nat} (hm : aev fr m = .map b) {es : List (AV × AV)} (hb : σ.mp b = some es) (hn : ∀ p ∈ es, p.1 ≠ noV) {kcs : List AV} (hk : aev fr k = .agg kcs) (hok : keyok P kt kcs = true)
    {r : Option Nat} (hf : vfind P kt (.agg kcs) (es.map Prod.fst) 0 = some r) {x : AV} (hx : vgot P el (es.map Prod.snd) r x) (hk2 : Shut (ARun P D ops Q mu rest (aput fr o.dst (if ok = true then .tup [x, .p (.bool r.isSome)] else x)) σ)) : AWL P D ops Q (o :: rest) fr σ :=
  awl_cons hw (opq_lookupS ho ht hm hb hn hk hok hf hx (awl_run' mu hk2))
/-- A new key is put. -/
theorem opq_mapNewS {t : TypeId} {m k x : Operand} (ho : o.op = .insert t m k x ∨ o.op = .mapUpdate t m k x) {kt el : TypeId} (ht : tmapS P t = some (kt, el)) {b : Nat} (hm : ρ m = .map b) {es : List (AV × AV)} (hb : σ.mp b = some es) (hn : ∀ p ∈ es, p.1 ≠ noV) {kcs : List AV} (hk : ρ k = .agg kcs) (hok : keyok P kt kcs = true)
    (hf : vfind P kt (.agg kcs) (es.map Prod.fst) 0 = some none) (hr : R (.p undef) { σ with mp := upd σ.mp b (some (es ++ [(.agg kcs, ρ x)])) }) : OpQ P o ρ σ R := by
  have u1 := tmapS_spec ht
  obtain ⟨fs, u2⟩ : ∃ fs, P.underlying kt = some (.struct fs) := by
    unfold keyok at hok
    split at hok
    · rename_i fl hfl; obtain ⟨fs, h, _⟩ := tflds_spec hfl; exact ⟨fs, h⟩
    · cases hok
  intro G e w he hw
  have hm' := he m
  rw [hm] at hm'
  have hk' := he k
  rw [hk] at hk'
  have hx' := he x
  obtain ⟨μ, ents, clock, g1, g2, g3, g4, g5⟩ := mp_real (hw.mp b es hb) hn
  generalize hem : e m = vm at hm'
  generalize hek : e k = vk at hk'
  generalize hex : e x = vx at hx'
  obtain ⟨μ', rfl, g⟩ : ∃ μ', vm = .map (some μ') ∧ G.mp b = some μ' := by cases hm'; exact ⟨_, rfl, by assumption⟩
  obtain rfl := Option.some.inj (g.symm.trans g1)
  have hfs := vfind_spec hk' (es.map Prod.fst) ents.toList 0 none (by simp [g3]) (fun n c e a c' => by
    rw [List.getElem?_map] at a
    obtain ⟨p, hp, rfl⟩ := Option.map_eq_some_iff.1 a
    exact (g4 n p.1 p.2 e hp (by simpa using c')).1) hf
  have run : (execOp e o).run P w = ((setObj μ' (.map (ents.push { key := vk, val := vx, born := clock }) (clock + 1))).run P w).andThen (fun _ w' => .ok .skip w') := by
    rcases ho with ho | ho <;> simp [execOp, ho, Instr.mapUpdate, run_underlying' u1, hem, hek, hex, run_getObj_map g2, run_checkKeyS hok hk' _ 9998, run_findKeyS u2 hfs]
  obtain ⟨w', hset, htouch, hh⟩ := run_setObj (P := P) (o' := .map (ents.push { key := vk, val := vx, born := clock }) (clock + 1)) g2
  rw [run, hset, Result.andThen_ok]
  have hown : Owns G σ μ' (1, b) := .mp b μ' es hb g
  have hl := Le.touch hw hown htouch
  refine ⟨_, G, _, hl, hw.touch_mp hb g htouch (fun hl => .inl ⟨μ', _, _, g, hh, by simp [g3], fun i k' x' e' a c => ?_, fun i j e1 e2 h1 h2 h3 => ?_⟩), .p _, hr⟩
  · rw [Array.getElem?_push] at c
    split at c
    · rename_i hi
      obtain rfl := Option.some.inj c
      subst hi
      rw [List.getElem?_append_right (by omega)] at a
      simp [g3] at a
      obtain ⟨rfl, rfl⟩ := a
      exact ⟨hk'.mono hl, hx'.mono hl, by simp⟩
    · rename_i hi
      have hlt : i < ents.size := (Array.getElem?_eq_some_iff.1 c).1
      rw [List.getElem?_append_left (by omega)] at a
      obtain ⟨q1, q2, q3⟩ := g4 i k' x' e' a c
      exact ⟨q1.mono hl, q2.mono hl, by omega⟩
  · have old : ∀ (i : Nat) (e : MapEntry), ents[i]? = some e → e.born < clock := fun i e h => by
      have hi : i < es.length := by have := (Array.getElem?_eq_some_iff.1 h).1; omega
      exact (g4 i es[i].1 es[i].2 e (by rw [List.getElem?_eq_getElem hi]) h).2.2
    rw [Array.getElem?_push] at h1 h2
    split at h1
    · split at h2
      · omega
      · obtain rfl := Option.some.inj h1
        have := old _ _ h2
        simp at h3; omega
    · split at h2
      · obtain rfl := Option.some.inj h2
        have := old _ _ h1
        simp at h3; omega
      · exact g5 i j e1 e2 h1 h2 h3
theorem awl_mapNewS (mu : List Nat) {t : TypeId} {m k x : Operand} (ho : o.op = .insert t m k x ∨ o.op = .mapUpdate t m k x) (hw : awanted ops o fr = some true) {kt el : TypeId} (ht : tmapS P t = some (kt, el)) {b : Nat} (hm : aev fr m = .map b) {es : List (AV × AV)} (hb : σ.mp b = some es) (hn : ∀ p ∈ es, p.1 ≠ noV) {kcs : List AV} (hk : aev fr k = .agg kcs) (hok : keyok P kt kcs = true)
    (hf : vfind P kt (.agg kcs) (es.map Prod.fst) 0 = some none) (hk2 : Shut (ARun P D ops Q mu rest (aput fr o.dst (.p undef)) { σ with mp := upd σ.mp b (some (es ++ [(.agg kcs, aev fr x)])) })) : AWL P D ops Q (o :: rest) fr σ :=
  awl_cons hw (opq_mapNewS ho ht hm hb hn hk hok hf (awl_run' mu hk2))
/-! ### it stays from now on -/
def frzM (b : Nat) (es : List (AV × AV)) : AV → AV
  | .map m => if m = b then .vmp (es.map Prod.fst) (es.map Prod.snd) else .map m
  | v => v
theorem SimW.freezeM {G w} {b : Nat} {es : List (AV × AV)} (h : SimW G σ w) (hb : σ.mp b = some es) (hn : ∀ p ∈ es, p.1 ≠ noV) : ∃ G', Le G w G' w ∧ SimW G' { σ with mp := upd σ.mp b none } w ∧ ∀ v u, Rep G w v u → Rep G' w (frzM b es v) u := by
  obtain ⟨μ, ents, clock, g1, g2, g3, g4, g5⟩ := mp_real (h.mp b es hb) hn
  have hown : Owns G σ μ (1, b) := .mp b μ es hb g1
  obtain ⟨o1, o2, o3⟩ := h.own _ _ hown
  obtain ⟨q, hq⟩ : ∃ q : Nat → Nat → Prop, q = fun β _ => β = μ := ⟨_, rfl⟩
  have hl : Le G w (G.addSt q) w := ⟨rfl, fun _ _ e => e, fun _ _ e => e, fun _ _ e => e, fun _ _ e => .inl e, fun γ o e => e.imp id fun e => by
    rw [hq] at e; subst e; exact ⟨o1, o3⟩, fun _ _ _ => rfl, Below.refl _ _⟩
  have hless : ASt.Le { σ with mp := upd σ.mp b none } σ := ⟨fun _ _ e => e, fun m es e => by
    by_cases hm : m = b
    · subst hm
      have : upd σ.mp m none m = some es := e
      rw [upd_same] at this; cases this
    · have : upd σ.mp b none m = some es := e
      rw [upd_ne _ _ hm] at this; exact this, fun _ _ e => e, Nat.le_refl _⟩
  have hw := h.less hless
  have own : ∀ γ k, Owns (G.addSt q) { σ with mp := upd σ.mp b none } γ k → Owns G σ γ k ∧ γ ≠ μ := by
    intro γ k ho
    have h1 : Owns G { σ with mp := upd σ.mp b none } γ k := by
      cases ho with
      | bx c β cs e g => exact .bx c _ cs e g
      | mp c β es e g => exact .mp c _ es e g
      | sl c β r xs e g => exact .sl c _ r xs e g
    have h2 : Owns G σ γ k := by
      cases h1 with
      | bx c β cs e g => exact .bx c _ cs e g
      | mp c β es e g => exact .mp c _ es (hless.mp _ _ e) g
      | sl c β r xs e g => exact .sl c _ r xs e g
    refine ⟨h2, fun e => ?_⟩
    subst e
    have := o2 _ h2
    subst this
    cases h1 with
    | mp c β es e g =>
      have : upd σ.mp b none b = some es := e
      rw [upd_same] at this; cases this
  refine ⟨_, hl, ⟨hw.base, fun c cs e => (hw.bx c cs e).mono hl fun _ _ => rfl, fun c es e => (hw.mp c es e).mono hl fun _ _ => rfl, fun c xs e => (hw.sl c xs e).mono hl fun _ _ _ => rfl, fun γ k ho => ?_, fun γ o e => ?_, fun c hc => ?_⟩, fun v u hr => ?_⟩
  · obtain ⟨h1, h2⟩ := own γ k ho
    refine ⟨(h.own γ k h1).1, fun k' hk' => (h.own γ k h1).2.1 k' (own _ _ hk').1, fun o e => ?_⟩
    rcases e with e | e
    · exact (h.own γ k h1).2.2 o e
    · rw [hq] at e; exact h2 e
  · rcases e with e | e
    · exact h.stIn _ _ e
    · rw [hq] at e; subst e; exact h.own_lt hown
  · exact hw.fresh c hc
  · by_cases hv : v = .map b
    · subst hv
      simp only [frzM, if_true]
      obtain ⟨μ', rfl, g⟩ : ∃ μ', u = .map (some μ') ∧ G.mp b = some μ' := by cases hr; exact ⟨_, rfl, by assumption⟩
      obtain rfl := Option.some.inj (g.symm.trans g1)
      exact .vmp _ _ μ' clock ents (.inr (by rw [hq])) g2 (by simp [g3]) (by simp [g3]) (fun i c e a c' => by
        rw [List.getElem?_map] at a
        obtain ⟨p, hp, rfl⟩ := Option.map_eq_some_iff.1 a
        exact (g4 i p.1 p.2 e hp c').1.mono hl) (fun i c e a c' => by
        rw [List.getElem?_map] at a
        obtain ⟨p, hp, rfl⟩ := Option.map_eq_some_iff.1 a
        exact (g4 i p.1 p.2 e hp c').2.1.mono hl)
    · have : frzM b es v = v := by
        cases v with
        | map m => simp only [frzM]; rw [if_neg (fun e => hv (by rw [e]))]
        | _ => rfl
      rw [this]; exact hr.mono hl
theorem aw_freezeM {c : Code} {b : Nat} {es : List (AV × AV)} (hb : σ.mp b = some es) (hn : ∀ p ∈ es, p.1 ≠ noV) (h : AW P D c Q (fr.map (frzM b es)) { σ with mp := upd σ.mp b none }) : AW P D c Q fr σ := by
  intro _ _ G a w hs
  obtain ⟨G', h1, h2, h3⟩ := hs.w.freezeM hb hn
  refine wp_mono (h _ inferInstance G' a w ⟨⟨by simpa using hs.tmps.1, fun i c v hc hv => ?_⟩, hs.defers.mono h1, h2⟩) fun e a w h => lift_le h1 h
  rw [List.getElem?_map] at hc
  obtain ⟨c', hc', rfl⟩ := Option.map_eq_some_iff.1 hc
  exact h3 _ _ (hs.tmps.2 i c' v hc' hv)
end Go.AL
