/- Parts of the proof of ArenaStays: the logic, contracts, plain laws. -/
import Derived.Test.YtofopejmidlceaaDoorZArenaStays4
import Derived.Test.YtofopejmidlceaaDoorZArenaStays3
import Derived.Laws.StructEq
import Derived.Lib.ConvBytes
import Derived.Laws.IdiomStrings
/-! What is closed; freezing; pure functions; calls; results. -/
namespace Go.AL
open Go.RowKit (Below)
set_option linter.unusedVariables false
set_option linter.unusedSimpArgs false
variable {P : Program} {o : Oper} {ρ : Operand → AV} {σ : ASt} {R : AV → ASt → Prop} {D : List Deferred} {Q : Exit → List AV → ASt → Prop} {fr : List AV}
/-! ### closed values -/
inductive Cl : AV → Prop where
  | p (x : Value) : Cl (.p x)
  | agg (cs : List AV) (h : ∀ c ∈ cs, Cl c) : Cl (.agg cs)
  | tup (cs : List AV) (h : ∀ c ∈ cs, Cl c) : Cl (.tup cs)
  | vsl (xs : List AV) (h : ∀ c ∈ xs, Cl c) : Cl (.vsl xs)
  | vel (xs : List AV) (i off : Nat) (h : ∀ c ∈ xs, Cl c) : Cl (.vel xs i off)
  | fn (f : Fn) (aa bs : List AV) (h1 : ∀ c ∈ aa, Cl c) (h2 : ∀ c ∈ bs, Cl c) : Cl (.fn f aa bs)
  | ifc (t : TypeId) (v : AV) (h : Cl v) : Cl (.ifc t v)
  | opt (b : Bool) (v : AV) (h : Cl v) : Cl (.opt b v)
  | any : Cl .any
  | ob (o : Obj) : Cl (.ob o)
  | vmp (ks vs : List AV) (h1 : ∀ c ∈ ks, Cl c) (h2 : ∀ c ∈ vs, Cl c) : Cl (.vmp ks vs)
theorem Cl.cells {x : AV} (h : Cl x) : ∀ c ∈ x.cells, Cl c := by
  cases h with
  | agg cs h => exact h
  | _ => intro c hc; simp only [AV.cells, List.mem_singleton] at hc; subst hc; first | exact .p _ | exact .ob _ | (apply Cl.vmp <;> assumption) | (apply Cl.tup; assumption) | (apply Cl.vsl; assumption) | (apply Cl.vel; assumption) | (apply Cl.fn <;> assumption) | (apply Cl.ifc; assumption) | (apply Cl.opt; assumption) | exact .any
theorem Cl.rowCell {xs : List AV} (h : ∀ c ∈ xs, Cl c) {i j : Nat} {c : AV} (hc : rowCell xs i j = some c) : Cl c := by
  unfold AL.rowCell at hc
  obtain ⟨x, hx, hj⟩ := Option.bind_eq_some_iff.1 hc
  exact (h x (List.mem_of_getElem? hx)).cells c (List.mem_of_getElem? hj)
/-- What is closed hangs on the cells that stay alone. -/
theorem Rep.closed {G G' w c v} (hst : ∀ β o, G.st β o → G'.st β o) (h : Rep G w c v) : Cl c → Rep G' w c v := by
  induction h with
  | p x => exact fun _ => .p x
  | agg cs vs hs _ ih => exact fun hc => by cases hc with | agg _ hc => exact .agg cs vs hs fun i c v a b => ih i c v a b (hc c (List.mem_of_getElem? a))
  | tup cs vs hs _ ih => exact fun hc => by cases hc with | tup _ hc => exact .tup cs vs hs fun i c v a b => ih i c v a b (hc c (List.mem_of_getElem? a))
  | vnil a cap => exact fun _ => .vnil a cap
  | vsl xs β o s cap val hcap hs h _ ih => exact fun hc => by cases hc with | vsl _ hc => exact .vsl xs β o s cap val hcap hs (fun i j c e => ⟨hst _ _ (h i j c e).1, (h i j c e).2⟩) fun i j c e => ih i j c e (Cl.rowCell hc e)
  | vel xs i off β o s val hs h _ ih => exact fun hc => by cases hc with | vel _ _ _ hc => exact .vel xs i off β o s val hs (fun i j c e => ⟨hst _ _ (h i j c e).1, (h i j c e).2⟩) fun i j c e => ih i j c e (Cl.rowCell hc e)
  | fn f aa bs us vs h1 h2 _ _ ih3 ih4 => exact fun hc => by cases hc with | fn _ _ _ c1 c2 => exact .fn f aa bs us vs h1 h2 (fun i c v a b => ih3 i c v a b (c1 c (List.mem_of_getElem? a))) (fun i c v a b => ih4 i c v a b (c2 c (List.mem_of_getElem? a)))
  | ifc t c v _ ih => exact fun hc => by cases hc with | ifc _ _ hc => exact .ifc t c v (ih hc)
  | opt b c v _ h0 ih => exact fun hc => by cases hc with | opt _ _ hc => exact .opt b c v (fun e => ih e hc) h0
  | any v => exact fun _ => .any v
  | vmp ks vs μ clock ents h1 h2 h3 h4 _ _ h7 h8 ih5 ih6 => exact fun hc => by cases hc with | vmp _ _ c1 c2 => exact .vmp ks vs μ clock ents (hst _ _ h1) h2 h3 h4 (fun i c e a b => ih5 i c e a b (c1 c (List.mem_of_getElem? a))) (fun i c e a b => ih6 i c e a b (c2 c (List.mem_of_getElem? a))) h7 h8
  | _ => exact fun hc => by cases hc
/-! ### pure functions -/
/-- Nothing is known. -/
def σ0 : ASt := ⟨fun _ => none, fun _ => none, fun _ => none, 0⟩
structure APure (P : Program) (f : FuncId) (args : List AV) (r : AV) : Prop where
  out : ACall P f args σ0 fun r' _ => r' = r
theorem simW_σ0 {G σ w} (h : SimW G σ w) : SimW { base := w.heap.size, st := G.st, bx := fun _ => none, mp := fun _ => none, sl := fun _ => none } σ0 w where
  base := ⟨Nat.le_refl _, let ⟨w0, h1, h2, h3⟩ := h.base.ini; ⟨w0, h1, Nat.le_trans h2 h.base.le, h3⟩⟩
  bx := fun _ _ e => by cases e
  mp := fun _ _ e => by cases e
  sl := fun _ _ e => by cases e
  own := fun β k ho => by cases ho <;> rename_i e _ <;> cases e
  stIn := h.stIn
  fresh := fun _ _ => ⟨rfl, rfl, rfl, rfl, rfl, rfl⟩
theorem APure.call {f : FuncId} {args : List AV} {r : AV} (h : APure P f args r) (ha : ∀ a ∈ args, Cl a) (hr : Cl r) (σ : ASt) : ACall P f args σ fun r' σ' => r' = r ∧ σ' = σ := by
  intro G w vs hv hw
  have hs := simW_σ0 hw
  have h1 := h.out { base := w.heap.size, st := G.st, bx := fun _ => none, mp := fun _ => none, sl := fun _ => none } w vs ⟨hv.1, fun i c v a b => Rep.closed (G := G) (fun _ _ e => e) (hv.2 i c v a b) (ha c (List.mem_of_getElem? a))⟩ hs
  refine Calls.mono h1 fun e w' he => retOf_mono (fun v w1 ho => ?_) he
  obtain ⟨r', G1, σ1, hl, hw1, hr1, rfl⟩ := ho
  have hb : Below w.heap.size w w1 := hl.below
  have hst : ∀ β o, G.st β o → G1.st β o := hl.st
  have hl2 : Le G w { G with st := G1.st } w1 := ⟨rfl, fun _ _ e => e, fun _ _ e => e, fun _ _ e => e, hst, fun β o e => (hl.st2 β o e).imp id fun e => ⟨Nat.le_trans hw.base.le e.1, e.2⟩, hl.cell, hb.mono hw.base.le⟩
  refine ⟨r', { G with st := G1.st }, σ, hl2, ?_, Rep.closed (G := G1) (fun _ _ e => e) hr1 hr, rfl, rfl⟩
  refine ⟨hw.base.go hl2.below, fun b cs e => (hw.bx b cs e).mono hl2 fun β g => hb.block β ((hw.bx b cs e).lt g), fun b cs e => (hw.mp b cs e).mono hl2 fun β g => hb.block β ((hw.mp b cs e).lt g),
    fun b cs e => (hw.sl b cs e).mono hl2 fun β r g => hb.block β ((hw.sl b cs e).lt g), fun β k ho => ?_, hw1.stIn, hw.fresh⟩
  have own : ∀ β k, Owns { G with st := G1.st } σ β k → Owns G σ β k := by
    intro β k ho
    cases ho with
    | bx b β cs h g => exact .bx b β cs h g
    | mp b β cs h g => exact .mp b β cs h g
    | sl b β r cs h g => exact .sl b β r cs h g
  have ho' := own β k ho
  refine ⟨(hw.own β k ho').1, fun k' hk' => (hw.own β k ho').2.1 k' (own _ _ hk'), fun o e => ?_⟩
  rcases hl.st2 β o e with e | e
  · exact (hw.own β k ho').2.2 o e
  · have h2 : w.heap.size ≤ β := e.1
    have h3 := hw.own_lt ho'
    omega
/-- The same, from a contract over the machine itself. -/
theorem APure.of_calls {f : FuncId} {args : List AV} {r : AV} (h : ∀ G w (vs : Array Value), (∃ w0, Init w0 ∧ Below w0.heap.size w0 w) → RepL G w args vs.toList → Calls P f vs w fun e w' => ∃ v, e = .returned v ∧ Below w.heap.size w w' ∧ ∀ G', Le G w G' w' → Rep G' w' r v) : APure P f args r := by
  refine ⟨fun G w vs hv hw => ?_⟩
  refine Calls.mono (h G w vs (let ⟨w0, h1, _, h3⟩ := hw.base.ini; ⟨w0, h1, h3⟩) hv) fun e w' he => ?_
  obtain ⟨v, rfl, hb, hr⟩ := he
  exact ⟨r, G, σ0, Le.grow hw hb, hw.grow hb, hr G (Le.grow hw hb), rfl⟩
end Go.AL
/-! Freezing; results; calls; the run of what is plain. -/
namespace Go.AL
open Go.RowKit (Below)
set_option linter.unusedVariables false
set_option linter.unusedSimpArgs false
variable {P : Program} {o : Oper} {ρ : Operand → AV} {σ : ASt} {R : AV → ASt → Prop} {D : List Deferred} {Q : Exit → List AV → ASt → Prop} {fr : List AV}
/-! ### a slice of one's own stays as it is from now on -/
def frz0 (b : Nat) (xs : List AV) : AV → AV
  | .hsl b' off n => if b' = b then (if off + n ≤ xs.length then .vsl ((xs.drop off).take n) else .any) else .hsl b' off n
  | v => v
def frz1 (b : Nat) (xs : List AV) : AV → AV
  | .agg cs => .agg (cs.map (frz0 b xs))
  | v => frz0 b xs v
def frz (b : Nat) (xs : List AV) : AV → AV
  | .tup cs => .tup (cs.map (frz1 b xs))
  | v => frz1 b xs v
theorem frz_rep {G G' w b xs} (hl : Le G w G' w) (h0 : ∀ off n u, Rep G w (.hsl b off n) u → Rep G' w (if off + n ≤ xs.length then .vsl ((xs.drop off).take n) else .any) u) : ∀ v u, Rep G w v u → Rep G' w (frz b xs v) u := by
  have f0 : ∀ v u, Rep G w v u → Rep G' w (frz0 b xs v) u := by
    intro v u hr
    have hr' := hr.mono hl
    by_cases hv : ∃ off n, v = .hsl b off n
    · obtain ⟨off, n, rfl⟩ := hv
      simp only [frz0, if_true]
      exact h0 off n u hr
    · have : frz0 b xs v = v := by
        cases v <;> first | rfl | skip
        rename_i b' off n
        simp only [frz0]
        rw [if_neg (fun e => hv ⟨off, n, by rw [e]⟩)]
      rw [this]; exact hr'
  have f1 : ∀ v u, Rep G w v u → Rep G' w (frz1 b xs v) u := by
    intro v u hr
    by_cases hv : ∃ cs, v = .agg cs
    · obtain ⟨cs, rfl⟩ := hv
      cases hr with
      | agg _ vs hs h =>
        refine .agg _ vs (by simpa using hs) fun i c v hc hv => ?_
        rw [List.getElem?_map] at hc
        obtain ⟨c', hc', rfl⟩ := Option.map_eq_some_iff.1 hc
        exact f0 _ _ (h i c' v hc' hv)
    · have : frz1 b xs v = frz0 b xs v := by cases v <;> first | rfl | exact absurd ⟨_, rfl⟩ hv
      rw [this]; exact f0 v u hr
  intro v u hr
  by_cases hv : ∃ cs, v = .tup cs
  · obtain ⟨cs, rfl⟩ := hv
    cases hr with
    | tup _ vs hs h =>
      refine .tup _ vs (by simpa using hs) fun i c v hc hv => ?_
      rw [List.getElem?_map] at hc
      obtain ⟨c', hc', rfl⟩ := Option.map_eq_some_iff.1 hc
      exact f1 _ _ (h i c' v hc' hv)
  · have : frz b xs v = frz1 b xs v := by cases v <;> first | rfl | exact absurd ⟨_, rfl⟩ hv
    rw [this]; exact f1 v u hr
theorem SimW.freeze {G σ w b xs} (h : SimW G σ w) (hb : σ.sl b = some xs) : ∃ G', Le G w G' w ∧ SimW G' (σ.dropSl b) w ∧ ∀ v u, Rep G w v u → Rep G' w (frz b xs v) u := by
  rcases h.sl b xs hb with ⟨g1, rfl⟩ | ⟨β, o, s, cap, arr, el, g1, g2, g3, g4, g5, g6⟩
  · refine ⟨G, Le.refl _ _, h.less (dropSl_le σ b), frz_rep (Le.refl _ _) fun off n u hr => ?_⟩
    cases hr with
    | hsl _ _ _ β o s cap g hle => rw [g1] at g; cases g
    | hend _ _ a β o s cap g hle => rw [g1] at g; cases g
    | hnil _ a g => simp only [List.length_nil, Nat.add_zero, Nat.le_refl, if_true, List.drop_nil, List.take_nil]; exact .vnil _ _
  · have ho : Owns G σ β (2, b) := .sl b β _ xs hb g1
    have hbase := (h.own _ _ ho).1
    have hl : Le G w (G.addSt fun γ _ => γ = β) w := ⟨rfl, fun _ _ e => e, fun _ _ e => e, fun _ _ e => e, fun _ _ e => .inl e, fun γ _ e => e.imp id fun (e : γ = β) => e ▸ ⟨hbase, (h.own _ _ ho).2.2⟩, fun _ _ _ => rfl, Below.refl _ _⟩
    refine ⟨_, hl, ?_, frz_rep hl fun off n u hr => ?_⟩
    · have hw := h.less (dropSl_le σ b)
      have hown : ∀ γ k, Owns (G.addSt fun γ _ => γ = β) (σ.dropSl b) γ k → Owns G (σ.dropSl b) γ k := by
        intro γ k hk
        cases hk with
        | bx b' β' cs2 h2 g2 => exact .bx _ _ cs2 h2 g2
        | mp b' β' cs2 h2 g2 => exact .mp _ _ cs2 h2 g2
        | sl b' β' r cs2 h2 g2 => exact .sl _ _ r cs2 h2 g2
      have hup : ∀ γ k, Owns G (σ.dropSl b) γ k → Owns G σ γ k := by
        intro γ k hk
        cases hk with
        | bx b' β' cs2 h2 g2 => exact .bx _ _ cs2 ((dropSl_le σ b).bx _ _ h2) g2
        | mp b' β' cs2 h2 g2 => exact .mp _ _ cs2 ((dropSl_le σ b).mp _ _ h2) g2
        | sl b' β' r cs2 h2 g2 => exact .sl _ _ r cs2 ((dropSl_le σ b).sl _ _ h2) g2
      refine ⟨hw.base, fun b' cs e => (hw.bx b' cs e).mono hl fun _ _ => rfl, fun b' cs e => (hw.mp b' cs e).mono hl fun _ _ => rfl, fun b' cs e => (hw.sl b' cs e).mono hl fun _ _ _ => rfl, fun γ k hk => ?_, fun γ o e => ?_, hw.fresh⟩
      · have hk1 := hown γ k hk
        refine ⟨(hw.own γ k hk1).1, fun k' hk' => (hw.own γ k hk1).2.1 k' (hown _ _ hk'), fun o e => ?_⟩
        rcases e with e | e
        · exact (hw.own γ k hk1).2.2 o e
        · subst e
          have hk2 := (h.own γ _ ho).2.1 _ (hup _ _ hk1)
          subst hk2
          cases hk1 with
          | sl b' β' r cs2 h2 g2 => simp [ASt.dropSl] at h2
      · rcases e with e | e
        · exact h.stIn _ _ e
        · subst e; exact h.own_lt ho
    · split
      · rename_i hin
        cases hr with
        | hsl _ _ _ β' o' s' cap' g hle =>
          obtain ⟨rfl, rfl, rfl, rfl⟩ : β = β' ∧ o = o' ∧ s = s' ∧ cap = cap' := by rw [g] at g1; simpa using g1.symm
          have hlen : ((xs.drop off).take n).length = n := by simp; omega
          have hc0 : n ≤ cap - off := by omega
          have hc1 : ((xs.drop off).take n).length ≤ cap - off := by rw [hlen]; exact hc0
          have hin2 : ∀ i j c, rowCell ((xs.drop off).take n) i j = some c → rowCell xs (off + i) j = some c ∧ o + (off + i) * s + j < arr.size := by
            intro i j c hc
            obtain ⟨hc2, hi⟩ := rowCell_seg _ _ _ _ _ _ hc
            obtain ⟨h1, h2, h3⟩ := rowCell_lt hc2 g5
            have : xs.length * s ≤ cap * s := Nat.mul_le_mul_right _ g3.2
            exact ⟨hc2, by omega⟩
          have key := Rep.vsl (G := G.addSt fun γ _ => γ = β) (w := w) ((xs.drop off).take n) β (o + off * s) s (cap - off) (fun i j => arr.getD (o + (off + i) * s + j) undef) hc1 (fun i x hx => by
            rw [List.getElem?_take] at hx
            split at hx
            · rw [List.getElem?_drop] at hx; exact g5 _ _ hx
            · cases hx) (fun i j c hc => ⟨.inr rfl, by
            obtain ⟨_, hlt⟩ := hin2 i j c hc
            have e : o + off * s + i * s + j = o + (off + i) * s + j := by rw [Nat.add_mul]; omega
            rw [cell_of_heap g2, e]
            simp [hlt]⟩) (fun i j c hc => by
            obtain ⟨hc2, hlt⟩ := hin2 i j c hc
            have := g6 (off + i) j c _ hc2 (Array.getElem?_eq_getElem hlt)
            simp only [Array.getD, hlt, dif_pos]
            exact this.mono hl)
          rw [hlen] at key; exact key
        | hend _ _ a β' o' s' cap' g hle => simp only [List.take_zero]; exact .vnil _ _
        | hnil _ a g => simp only [List.take_zero]; exact .vnil _ _
      · exact .any _
theorem Fin.freeze {r : AV} {b : Nat} {xs : List AV} (hb : σ.sl b = some xs) (h : Fin R (frz b xs r) (σ.dropSl b)) : Fin R r σ := by
  intro G w v hw hr
  obtain ⟨G', h1, h2, h3⟩ := hw.freeze hb
  obtain ⟨r', G2, σ2, k1, k2, k3, k4⟩ := h G' w v h2 (h3 _ _ hr)
  exact ⟨r', G2, σ2, h1.trans k1, k2, k3, k4⟩
theorem Sim.freeze {G D a w b xs} (hs : Sim G fr σ D a w) (hb : σ.sl b = some xs) : ∃ G', Le G w G' w ∧ Sim G' (fr.map (frz b xs)) (σ.dropSl b) D a w := by
  obtain ⟨G', h1, h2, h3⟩ := hs.w.freeze hb
  refine ⟨G', h1, ⟨by simpa using hs.tmps.1, fun i c v hc hv => ?_⟩, hs.defers.mono h1, h2⟩
  rw [List.getElem?_map] at hc
  obtain ⟨c', hc', rfl⟩ := Option.map_eq_some_iff.1 hc
  exact h3 _ _ (hs.tmps.2 i c' v hc' hv)
theorem aw_freeze {c : Code} {b : Nat} {xs : List AV} (hb : σ.sl b = some xs) (h : AW P D c Q (fr.map (frz b xs)) (σ.dropSl b)) : AW P D c Q fr σ := by
  intro _ _ G a w hs
  obtain ⟨G', h1, h2⟩ := hs.freeze hb
  exact wp_mono (h _ inferInstance G' a w h2) fun e a w h => lift_le h1 h
/-! ### results -/
def ares (P : Program) (σ : ASt) (fr : List AV) : List ResultVar → Option (List AV)
  | [] => some []
  | .tmp t :: l => (ares P σ fr l).map fun r => fget fr t :: r
  | .cell a t :: l => (aload P σ t (fget fr a)).bind fun x => (ares P σ fr l).map fun r => x :: r
def tupOf : List AV → AV
  | [x] => x
  | l => .tup l
def resF (tmps : Array Value) : ResultVar → Sem Value
  | .tmp t => pure (tmps.getD t undef)
  | .cell x t => do loadVar t (← asAddr (tmps.getD x undef))
theorem results_eq (fn : Func) (tmps : Array Value) : results fn tmps = (do let vs ← fn.results.mapM (resF tmps); pure (if h : vs.size = 1 then vs[0] else .tuple vs)) := rfl
theorem run_results (P : Program) {G D a w} (hs : Sim G fr σ D a w) : ∀ (l : List ResultVar) (rs : List AV), ares P σ fr l = some rs →
    ∃ vs, (l.mapM (resF a.tmps)).run P w = .ok vs w ∧ RepL G w rs vs
  | [], rs, h => by
    obtain rfl := Option.some.inj h
    exact ⟨[], by simp, rfl, fun i c v h => by simp at h⟩
  | .tmp t :: l, rs, h => by
    obtain ⟨r, hr, rfl⟩ := Option.map_eq_some_iff.1 h
    obtain ⟨vs, h1, h2⟩ := run_results P hs l r hr
    refine ⟨a.tmps.getD t undef :: vs, by simp only [List.mapM_cons, Sem.run_bind, h1, resF, Sem.run_pure, Result.andThen_ok], by simpa using h2.1, fun i c v hc hv => ?_⟩
    cases i with
    | zero =>
      simp only [List.getElem?_cons_zero, Option.some.injEq] at hc hv
      subst hc; subst hv
      exact hs.ev (.tmp t)
    | succ i => exact h2.2 i c v (by simpa using hc) (by simpa using hv)
  | .cell x t :: l, rs, h => by
    obtain ⟨y, hy, h⟩ := Option.bind_eq_some_iff.1 h
    obtain ⟨r, hr, rfl⟩ := Option.map_eq_some_iff.1 h
    obtain ⟨vs, h1, h2⟩ := run_results P hs l r hr
    simp only [aload, Option.bind_eq_some_iff] at hy
    obtain ⟨⟨n, g⟩, hn, ⟨cs, off⟩, hc, hl⟩ := hy
    obtain ⟨β, o, hv, hcs⟩ := acells_spec hc hs.w (hs.ev (.tmp x))
    obtain ⟨v, k1, k2⟩ := run_loadVar_of hn hl hcs
    have hv : a.tmps.getD x undef = .pointer (some ⟨β, o + off, none⟩) := hv
    refine ⟨v :: vs, by simp only [List.mapM_cons, Sem.run_bind, h1, resF, hv, asAddr, k1, Sem.run_pure, Result.andThen_ok], by simpa using h2.1, fun i c u hc hu => ?_⟩
    cases i with
    | zero =>
      simp only [List.getElem?_cons_zero, Option.some.injEq] at hc hu
      subst hc; subst hu
      exact k2
    | succ i => exact h2.2 i c u (by simpa using hc) (by simpa using hu)
theorem aresults_of {fn : Func} {rs : List AV} (h : ares P σ fr fn.results.toList = some rs) : AResults P fn fr σ (tupOf rs) := by
  intro G D a w hs
  obtain ⟨vs, h1, h2⟩ := run_results P hs _ rs h
  have hrun : (results fn a.tmps).run P w = .ok (if hh : vs.toArray.size = 1 then vs.toArray[0] else .tuple vs.toArray) w := by
    rw [results_eq]
    simp only [Sem.run_bind, Array.mapM_eq_mapM_toList, Sem.run_map]
    rw [h1]
    rfl
  refine ⟨_, hrun, ?_⟩
  cases vs with
  | nil =>
    cases rs with
    | nil => exact .tup [] #[] rfl fun i c v h => by simp at h
    | cons _ _ => cases h2.1
  | cons v vs =>
    cases rs with
    | nil => cases h2.1
    | cons r rs =>
      cases vs with
      | nil =>
        cases rs with
        | nil => simpa [tupOf] using h2.2 0 r v rfl rfl
        | cons _ _ => have := h2.1; simp at this
      | cons v' vs =>
        cases rs with
        | nil => have := h2.1; simp at this
        | cons r' rs =>
          simp only [tupOf, List.size_toArray, List.length_cons]
          rw [dif_neg (by omega)]
          exact .tup _ _ (by simpa using h2.1) fun i c u hc hu => h2.2 i c u hc (by simpa using hu)
theorem ret_of {fn : Func} {e : Exit} (he : e = .normal ∨ e = .ret) {rs : List AV} (h : ares P σ fr fn.results.toList = some rs) (hf : Fin R (tupOf rs) σ) : RetQ P fn R e fr σ := by
  rcases he with rfl | rfl <;> exact ⟨_, aresults_of h, hf⟩
/-! ### calls -/
def callable (P : Program) (f : FuncId) : Bool := match P.funcs[f]? with | some fn => !(fn.name == "runtime.NumGoroutine") && fn.body.isSome | none => false
theorem run_callFunc {f : FuncId} (h : callable P f = true) (args : Array Value) (w : World) : (callFunc f args).run P w = .ok (.enter f args) w := by
  unfold callable at h
  cases hf : P.funcs[f]? with
  | none => rw [hf] at h; cases h
  | some fn =>
    rw [hf] at h
    simp only [Bool.and_eq_true, Bool.not_eq_true'] at h
    have hb : fn.body.isNone = false := by cases hb : fn.body <;> simp_all
    simp only [callFunc, Sem.run_bind, run_program, Result.andThen_ok, hf, h.1, hb, Bool.false_eq_true, if_false]
    rfl
def acallee : AV → Option (FuncId × List AV × List AV)
  | .p (.func (.func f) us vs) => if us.size = 0 ∧ vs.size = 0 then some (f, [], []) else none
  | .fn (.func f) aa bs => some (f, aa, bs)
  | _ => none
theorem RepL.append {G w aa us bs vs} (h1 : RepL G w aa us) (h2 : RepL G w bs vs) : RepL G w (aa ++ bs) (us ++ vs) := by
  refine ⟨by simp [h1.1, h2.1], fun i c v hc hv => ?_⟩
  rw [List.getElem?_append] at hc hv
  rw [← h1.1] at hv
  split at hc
  · rename_i hi; rw [if_pos hi] at hv; exact h1.2 i c v hc hv
  · rename_i hi; rw [if_neg hi] at hv; exact h2.2 _ c v hc hv
theorem opq_call {f : Operand} {aa : Array Operand} {ts : Array TypeId} (ho : o.op = .call { callee := .value f, args := aa, argTypes := ts }) {F : FuncId} {first cap : List AV} (hf : acallee (ρ f) = some (F, first, cap)) (hc : callable P F = true)
    (h : ACall P F (first ++ aa.toList.map ρ ++ cap) σ R) : OpQ P o ρ σ R := by
  intro G e w he hw
  have hrf := he f
  generalize ρ f = cf at hf hrf
  generalize hvf : e f = vf at hrf
  have hargs : RepL G w (aa.toList.map ρ) (aa.toList.map e) := ⟨by simp, fun i c v hc hv => by
    simp only [List.getElem?_map, Option.map_eq_some_iff] at hc hv
    obtain ⟨a, ha, rfl⟩ := hc
    obtain ⟨b, hb, rfl⟩ := hv
    obtain rfl := Option.some.inj (ha.symm.trans hb)
    exact he _⟩
  have go : ∀ us vs : Array Value, vf = .func (.func F) us vs → RepL G w first us.toList → RepL G w cap vs.toList → OutcN P G w R ((execOp e o).run P w) := by
    intro us vs hv h1 h2
    subst hv
    simp only [execOp, ho, resolve, hvf, Deferred.ofValue, Sem.run_bind, Sem.run_pure, Result.andThen_ok, invoke, run_callFunc hc]
    refine h G w _ ?_ hw
    simpa [List.append_assoc] using (h1.append (hargs.append h2))
  cases hrf with
  | p =>
    cases vf with
    | func q us vs =>
      cases q with
      | func q =>
        obtain ⟨⟨u0, v0⟩, hf⟩ := ite_some' hf
        simp only [Option.some.injEq, Prod.mk.injEq] at hf
        obtain ⟨rfl, rfl, rfl⟩ := hf
        have hu := Array.eq_empty_of_size_eq_zero u0
        have hv := Array.eq_empty_of_size_eq_zero v0
        exact go us vs rfl (by subst hu; exact ⟨rfl, fun i c v h => by simp at h⟩) (by subst hv; exact ⟨rfl, fun i c v h => by simp at h⟩)
      | _ => cases hf
    | _ => cases hf
  | fn q as' bs' us vs h1 h2 h3 h4 =>
    cases q with
    | func q =>
      simp only [acallee, Option.some.injEq, Prod.mk.injEq] at hf
      obtain ⟨rfl, rfl, rfl⟩ := hf
      exact go us vs rfl ⟨by simpa using h1, fun i c v hc hv => h3 i c v hc (by simpa using hv)⟩ ⟨by simpa using h2, fun i c v hc hv => h4 i c v hc (by simpa using hv)⟩
    | _ => cases hf
  | _ => cases hf
end Go.AL
/-! `==` of structs. -/
namespace Go.AL
open Go.RowKit (Below)
set_option linter.unusedVariables false
set_option linter.unusedSimpArgs false
variable {P : Program} {o : Oper} {ρ : Operand → AV} {σ : ASt} {R : AV → ASt → Prop}
/-- What kind of type it is, for `==`. -/
def tleaf (P : Program) (t : TypeId) : Nat :=
  match P.underlying t with
  | some .bool => 1
  | some (.int _) => 2
  | some .string => 3
  | _ => 0
/-- The parts of a struct that may be compared. -/
def tflds (P : Program) (t : TypeId) : Option (List (TypeId × Nat)) :=
  match P.underlying t with
  | some (.struct fs) => if P.stoodInHeld t = false ∧ fs.toList.all (fun f => f.name != "_") = true then some (fs.toList.map fun f => (f.type, f.offset)) else none
  | _ => none
def teqok (P : Program) (t : TypeId) : Bool := !P.eqGuardType P.depth t
def aeqL (P : Program) (E : TypeId → AV → AV → Option Bool) (xs ys : List AV) : List (TypeId × Nat) → Option Bool
  | [] => some true
  | f :: fs => (tsize P f.1).bind fun ng => (aloadC xs f.2 ng.1 ng.2).bind fun a => (aloadC ys f.2 ng.1 ng.2).bind fun b => (E f.1 a b).bind fun r => (aeqL P E xs ys fs).map fun s => r && s
def aeqF (P : Program) : Nat → TypeId → AV → AV → Option Bool
  | 0, _, _, _ => none
  | d + 1, t, x, y =>
    match x, y with
    | .p (.int k a), .p (.int k' b) => if tleaf P t = 2 ∧ k = k' then some (decide (a = b)) else none
    | .p (.string a), .p (.string b) => if tleaf P t = 3 then some (decide (a = b)) else none
    | .p (.bool a), .p (.bool b) => if tleaf P t = 1 then some (a == b) else none
    | .agg xs, .agg ys => (tflds P t).bind (aeqL P (aeqF P d) xs ys)
    | _, _ => none
theorem tleaf_spec {t : TypeId} {k : Nat} (h : tleaf P t = k) (hk : k ≠ 0) : ∃ d, P.underlying t = some d ∧ ((k = 1 ∧ d = .bool) ∨ (k = 2 ∧ ∃ e, d = .int e) ∨ (k = 3 ∧ d = .string)) := by
  unfold tleaf at h
  split at h <;> rename_i hd
  · exact ⟨_, hd, by simp [← h]⟩
  · exact ⟨_, hd, by simp [← h]⟩
  · exact ⟨_, hd, by simp [← h]⟩
  · exact absurd h.symm hk
theorem aeqL_spec {G : Ghost} {w : World} {d : Nat} {E : TypeId → AV → AV → Option Bool} {xs ys : List AV} {us vs : Array Value}
    (hE : ∀ t x y r u v, E t x y = some r → Rep G w x u → Rep G w y v → (Op.equalIn d t u v).run P w = .ok r w)
    (h1 : xs.length = us.size) (h2 : ∀ (i : Nat) c v, xs[i]? = some c → us[i]? = some v → Rep G w c v) (h3 : ys.length = vs.size) (h4 : ∀ (i : Nat) c v, ys[i]? = some c → vs[i]? = some v → Rep G w c v) :
    ∀ (fs : List Field) (r : Bool), fs.all (fun f => f.name != "_") = true → aeqL P E xs ys (fs.map fun f => (f.type, f.offset)) = some r → (Op.eqFields d us vs fs).run P w = .ok r w
  | [], r, _, h => by
    obtain rfl := Option.some.inj h
    simp [Op.eqFields]
  | f :: fs, r, hn, h => by
    simp only [List.all_cons, Bool.and_eq_true, bne_iff_ne, ne_eq] at hn
    simp only [List.map_cons, aeqL, Option.bind_eq_some_iff, Option.map_eq_some_iff] at h
    obtain ⟨⟨n, g⟩, ht, a, ha, b, hb, r1, hr1, s, hs, rfl⟩ := h
    obtain ⟨u, hu, hu2⟩ := run_part_of ht ha h1 h2
    obtain ⟨v, hv, hv2⟩ := run_part_of ht hb h3 h4
    have e1 := hE _ _ _ _ _ _ hr1 hu2 hv2
    have e2 := aeqL_spec hE h1 h2 h3 h4 fs s hn.2 hs
    rw [Op.eqFields]
    simp only [if_pos (show f.name ≠ "_" from hn.1), Sem.run_bind, hu, hv, e1, Result.andThen_ok]
    cases r1
    · simp
    · simpa using e2
theorem aeqF_spec {G : Ghost} {w : World} : ∀ (d D : Nat), d ≤ D → ∀ (t : TypeId) (x y : AV) (r : Bool) (u v : Value), aeqF P d t x y = some r → Rep G w x u → Rep G w y v → (Op.equalIn D t u v).run P w = .ok r w
  | 0, _, _, _, _, _, _, _, _, h, _, _ => by cases h
  | d + 1, 0, hd, _, _, _, _, _, _, _, _, _ => by omega
  | d + 1, D + 1, hd, t, x, y, r, u, v, h, hx, hy => by
    unfold aeqF at h
    split at h
    · obtain ⟨⟨ht, rfl⟩, h0⟩ := ite_some' h
      obtain ⟨e, he, hk⟩ := tleaf_spec ht (by simp)
      obtain ⟨q, rfl⟩ : ∃ q, e = .int q := by simpa using hk
      obtain rfl := Option.some.inj h0
      clear h
      cases hx; cases hy
      rename_i k a b
      have hb : (a == b) = decide (a = b) := rfl
      simp only [Op.equalIn, Sem.run_bind, run_underlying' he, Result.andThen_ok, if_true, hb]
      rfl
    · obtain ⟨ht, h0⟩ := ite_some' h
      obtain ⟨e, he, hk⟩ := tleaf_spec ht (by simp)
      obtain rfl : e = .string := by simpa using hk
      obtain rfl := Option.some.inj h0
      clear h
      cases hx; cases hy
      rename_i a b
      have hb : (a == b) = decide (a = b) := by rw [beq_toListBytes, beq_toList]
      simp only [Op.equalIn, Sem.run_bind, run_underlying' he, Result.andThen_ok, hb]
      rfl
    · obtain ⟨ht, h0⟩ := ite_some' h
      obtain ⟨e, he, hk⟩ := tleaf_spec ht (by simp)
      obtain rfl : e = .bool := by simpa using hk
      obtain rfl := Option.some.inj h0
      clear h
      cases hx; cases hy
      simp only [Op.equalIn, Sem.run_bind, run_underlying' he, Result.andThen_ok]
      rfl
    · rename_i xs ys
      simp only [Option.bind_eq_some_iff] at h
      obtain ⟨fl, hfl, h⟩ := h
      unfold tflds at hfl
      split at hfl
      · rename_i fs hu
        obtain ⟨⟨hs, hn⟩, hf0⟩ := ite_some' hfl
        obtain rfl := Option.some.inj hf0
        cases hx with
        | agg _ us h1 h2 =>
          cases hy with
          | agg _ vs h3 h4 =>
            have hf : P.fieldsOf t = fs := by simp [Program.fieldsOf, hu]
            rw [run_equalIn_struct w D t us vs (by rw [hf]; exact hu) hs, hf]
            exact aeqL_spec (fun t x y r u v h hx hy => aeqF_spec d D (by omega) t x y r u v h hx hy) h1 h2 h3 h4 fs.toList r hn h
      · cases hfl
    · cases h
theorem run_eqGuard_agg {op : BinOp} {t : TypeId} {x y : Operand} {a b : Array Value} (h : teqok P t = true) (w : World) : (eqGuard op t x y (.agg a) (.agg b)).run P w = .ok () w := by
  have h' : P.eqGuardType P.depth t = false := by simpa [teqok] using h
  unfold eqGuard
  cases op <;> first
    | rfl
    | simp [h']
def afcmp (op : BinOp) (k : FloatKind) (x y : Nat) : Option Value :=
  match op with
  | .eql => some (.bool (k.format.order x y == some .eq))
  | .neq => some (.bool (k.format.order x y != some .eq))
  | .lss => some (.bool (k.format.order x y == some .lt))
  | .leq => some (.bool (k.format.order x y == some .lt || k.format.order x y == some .eq))
  | .gtr => some (.bool (k.format.order x y == some .gt))
  | .geq => some (.bool (k.format.order x y == some .gt || k.format.order x y == some .eq))
  | _ => none
theorem run_binOp_fcmp {op : BinOp} {k : FloatKind} {a b : Nat} {t : TypeId} {v : Value} (h : afcmp op k a b = some v) (w : World) : (binOp op t (.float k a) (.float k b)).run P w = .ok v w := by
  have hk : ∀ s, (if k ≠ k then (stuck "BinOp: operands of different kinds" : Sem Value) else s) = s := fun s => if_neg (by simp)
  cases op <;> simp only [afcmp, Option.some.injEq, reduceCtorEq] at h <;> (subst h; simp only [binOp, hk]; rfl)
/-- As `abin`, and structs, too. -/
def abinS (P : Program) (op : BinOp) (t : TypeId) (x y : AV) : Option Value :=
  match x, y with
  | .agg xs, .agg ys => if teqok P t = true then (match op with | .eql => (aeqF P 20 t (.agg xs) (.agg ys)).map .bool | .neq => (aeqF P 20 t (.agg xs) (.agg ys)).map fun b => .bool !b | _ => none) else none
  | .p (.float k a), .p (.float k' b) => if k = k' then afcmp op k a b else none
  | x, y => abin P op t x y
theorem opq_binOpS {op : BinOp} {t t2 : TypeId} {x y : Operand} (ho : o.op = .binOp op t x y t2) {v : Value} (h : abinS P op t (ρ x) (ρ y) = some v) (hc : tkind P t = 3 → isConstO y = true) (hr : R (.p v) σ) : OpQ P o ρ σ R := by
  unfold abinS at h
  split at h
  · rename_i xs ys hxe hye
    obtain ⟨ht, h⟩ := ite_some' h
    refine opq_v (s := fun e => do eqGuard op t x y (e x) (e y); binOp op t (e x) (e y)) (fun e => by simp only [execOp, ho]) (.p v) hr fun G e w he hw => ⟨v, ?_, .p v⟩
    have hx := he x
    have hy := he y
    rw [hxe] at hx
    rw [hye] at hy
    generalize e x = vx at hx
    generalize e y = vy at hy
    cases hx with
    | agg _ us h1 h2 =>
      cases hy with
      | agg _ vs h3 h4 =>
        simp only [Sem.run_bind, run_eqGuard_agg ht, Result.andThen_ok]
        split at h
        · simp only [Option.map_eq_some_iff] at h
          obtain ⟨r, hq, rfl⟩ := h
          have := aeqF_spec (P := P) (G := G) (w := w) 20 Op.maxDepth (by decide) t _ _ r _ _ hq (.agg _ us h1 h2) (.agg _ vs h3 h4)
          simp [binOp, Op.equal, this]
        · simp only [Option.map_eq_some_iff] at h
          obtain ⟨r, hq, rfl⟩ := h
          have := aeqF_spec (P := P) (G := G) (w := w) 20 Op.maxDepth (by decide) t _ _ r _ _ hq (.agg _ us h1 h2) (.agg _ vs h3 h4)
          simp [binOp, Op.equal, this]
        · cases h
  · rename_i k a k' b hxe hye
    obtain ⟨rfl, h0⟩ := ite_some' h
    refine opq_v (s := fun e => do eqGuard op t x y (e x) (e y); binOp op t (e x) (e y)) (fun e => by simp only [execOp, ho]) (.p v) hr fun G e w he hw => ⟨v, ?_, .p v⟩
    have hx := he x
    have hy := he y
    rw [hxe] at hx
    rw [hye] at hy
    generalize e x = vx at hx
    generalize e y = vy at hy
    cases hx; cases hy
    simp only [Sem.run_bind]
    rw [run_eqGuard (by intros; contradiction) (by intros; contradiction)]
    exact run_binOp_fcmp h0 w
  · exact opq_binOp ho h hc hr
end Go.AL
/-! Strings to bytes, and back. -/
namespace Go.AL
open Go.RowKit (Below)
set_option linter.unusedVariables false
set_option linter.unusedSimpArgs false
variable {P : Program} {o : Oper} {ρ : Operand → AV} {σ : ASt} {R : AV → ASt → Prop}
def isBytes (P : Program) (t : TypeId) : Bool :=
  match P.underlying t with
  | some (.slice e) => match P.underlying e with | some (.int .u8) => true | _ => false
  | _ => false
theorem isBytes_spec {t : TypeId} (h : isBytes P t = true) : ∃ e, P.underlying t = some (.slice e) ∧ P.underlying e = some (.int .u8) := by
  unfold isBytes at h
  split at h
  · split at h
    · exact ⟨_, by assumption, by assumption⟩
    · cases h
  · cases h
/-- A byte. -/
abbrev vbyte (b : UInt8) : AV := .p (.int .u8 b.toNat)
def bytesAV (l : List UInt8) : AV := .vsl (l.map vbyte)
/-- The bytes that these are. -/
def bytesOf : List AV → Option (List Int)
  | [] => some []
  | .p (.int .u8 n) :: l => (bytesOf l).map fun r => n :: r
  | _ => none
def strOf (l : List Int) : ByteArray := ⟨(l.map fun n => UInt8.ofNat n.toNat).toArray⟩
def aconvA (P : Program) (s d : TypeId) (x : AV) : Option AV :=
  match x with
  | .vsl xs => if isBytes P s = true ∧ isString P d = true then (bytesOf xs).map fun l => .p (.string (strOf l)) else none
  | .p (.slice none _ _) => if isBytes P s = true ∧ isString P d = true then some (.p (.string ⟨#[]⟩)) else none
  | .p (.string t) => if isString P s = true ∧ isBytes P d = true then some (bytesAV t.data.toList) else (aconv P s d x).map .p
  | x => (aconv P s d x).map .p
theorem below_bytes (w : World) (e : TypeId) (s : ByteArray) : Below w.heap.size w (Lib.bytesWorld w e s) := by
  refine ⟨?_, ?_, ?_, ?_, fun i hi => Lib.bytesWorld_at_old w e s i hi⟩
  · simp [Lib.bytesWorld, World.freeze]; rfl
  · simp [Lib.bytesWorld, World.freeze]
  · simp [Lib.bytesWorld, World.freeze]; rfl
  · rw [Lib.bytesWorld_size]; omega
theorem bytesOf_spec : ∀ (xs : List AV) (l : List Int), bytesOf xs = some l → xs = l.map fun n => .p (.int .u8 n)
  | [], l, h => by obtain rfl := Option.some.inj h; rfl
  | .p (.int .u8 n) :: xs, l, h => by
    simp only [bytesOf, Option.map_eq_some_iff] at h
    obtain ⟨r, hr, rfl⟩ := h
    rw [bytesOf_spec xs r hr]; rfl
theorem foldl_push_ints : ∀ (l : List Int) (r : ByteArray), l.foldl (fun r n => r.push (UInt8.ofNat n.toNat)) r = ⟨r.data ++ (l.map fun n => UInt8.ofNat n.toNat).toArray⟩
  | [], r => by simp
  | b :: l, r => by
    simp only [List.map_cons, List.foldl_cons]
    rw [foldl_push_ints l]
    simp [ByteArray.push]
theorem opq_convertA {src dst : TypeId} {x : Operand} (ho : o.op = .convert src dst x) {r : AV} (h : aconvA P src dst (ρ x) = some r) (hr : R r σ) : OpQ P o ρ σ R := by
  unfold aconvA at h
  split at h
  · rename_i xs hxe
    obtain ⟨⟨hb, hs⟩, h0⟩ := ite_some' h
    simp only [Option.map_eq_some_iff] at h0
    obtain ⟨l, hl, rfl⟩ := h0
    have hxs := bytesOf_spec xs l hl
    obtain ⟨el, h1, h2⟩ := isBytes_spec hb
    have h3 := isString_spec hs
    refine opq_v (s := fun e => convert src dst (e x)) (fun e => by simp only [execOp, ho]) _ hr fun G e w he hw => ⟨.string (strOf l), ?_, .p _⟩
    have hx := he x
    rw [hxe] at hx
    generalize e x = vx at hx
    cases hx with
    | vnil n c =>
      have : l = [] := by simpa using hxs.symm
      subst this
      simp only [convert, Sem.run_bind, run_underlying' h1, run_underlying' h2, run_underlying' h3, Result.andThen_ok]
      cases n with
      | none => rfl
      | some a =>
        have := run_bytesToString (P := P) w a 0 c [] (run_loadCells_list w a [] (fun j v hj => by simp at hj))
        rw [this]
        rfl
    | vsl _ β o s cap val hcap hs h hr =>
      subst hxs
      rw [List.length_map, run_convert_bytes_string w src dst el _ _ cap h1 h2 h3]
      have hs1 : ∀ i, i < l.length → s = 1 := fun i hi => by
        have := hs i (.p (.int .u8 l[i])) (by simp [hi])
        simpa [AV.cells] using this.symm
      have hL := run_loadCells_list (P := P) w ⟨β, o, none⟩ (l.map (Value.int .u8)) (fun j v hj => by
        simp only [List.getElem?_map, Option.map_eq_some_iff] at hj
        obtain ⟨n, hn, rfl⟩ := hj
        have hlt := (List.getElem?_eq_some_iff.1 hn).1
        have hc : rowCell (l.map fun n => AV.p (.int .u8 n)) j 0 = some (.p (.int .u8 n)) := by simp [rowCell, hn, AV.cells]
        have e1 := (h j 0 _ hc).2
        have e2 := hr j 0 _ hc
        generalize val j 0 = u at e1 e2
        cases e2
        rw [hs1 j hlt] at e1
        unfold Addr.add
        simp only [Nat.mul_one, Nat.add_zero] at e1
        split
        · rename_i h0; subst h0; simpa using e1
        · exact e1)
      simp only [List.length_map] at hL ⊢
      rw [run_bytesToString w ⟨β, o, none⟩ l.length cap _ hL, foldl_push_ints]
      have he0 : ByteArray.empty.data = #[] := rfl
      rw [he0]
      simp [strOf]
  · rename_i n c hxe
    obtain ⟨⟨hb, hs⟩, h0⟩ := ite_some' h
    obtain rfl := Option.some.inj h0
    obtain ⟨el, h1, h2⟩ := isBytes_spec hb
    have h3 := isString_spec hs
    refine opq_v (s := fun e => convert src dst (e x)) (fun e => by simp only [execOp, ho]) _ hr fun G e w he hw => ⟨.string ⟨#[]⟩, ?_, .p _⟩
    have hx := he x
    rw [hxe] at hx
    generalize e x = vx at hx
    cases hx
    simp only [convert, Sem.run_bind, run_underlying' h1, run_underlying' h2, run_underlying' h3, Result.andThen_ok]
    rfl
  · rename_i t hxe
    split at h
    · rename_i hc
      obtain rfl := Option.some.inj h
      have hs := isString_spec hc.1
      obtain ⟨el, h1, h2⟩ := isBytes_spec hc.2
      intro G e w he hw
      have hx := he x
      rw [hxe] at hx
      simp only [execOp, ho, Sem.run_bind]
      generalize e x = vx at hx
      cases hx
      rw [Lib.run_convert_string_bytes w src dst el t hs h1 h2]
      simp only [Result.andThen_ok, Sem.run_pure]
      have hb := below_bytes w el t
      have hl := Le.addSt hw hb (fun β _ => β = w.heap.size) fun β o e => by subst e; exact Nat.le_refl _
      refine ⟨bytesAV t.data.toList, _, σ, hl, hw.addSt hb _ (fun β o e => by subst e; exact ⟨Nat.le_refl _, by rw [Lib.bytesWorld_size]; omega⟩), ?_, hr⟩
      have hlen : (t.data.toList.map vbyte).length = t.size := by simp
      have := Rep.vsl (G := G.addSt fun β _ => β = w.heap.size) (w := Lib.bytesWorld w el t) (t.data.toList.map vbyte) w.heap.size 0 1 (grownCap w t.size 0 el) (fun i _ => .int .u8 (t.data.toList.getD i 0).toNat) (by rw [hlen]; exact grownCap_ge _ _ _ _)
        (fun i x hx => by
          simp only [List.getElem?_map, Option.map_eq_some_iff] at hx
          obtain ⟨b, _, rfl⟩ := hx
          rfl) (fun i j c hc => by
          unfold rowCell at hc
          obtain ⟨y, hy, hj⟩ := Option.bind_eq_some_iff.1 hc
          simp only [List.getElem?_map, Option.map_eq_some_iff] at hy
          obtain ⟨b, hb, rfl⟩ := hy
          have hi := (List.getElem?_eq_some_iff.1 hb).1
          cases j with
          | succ j => cases hj
          | zero =>
            refine ⟨.inr rfl, ?_⟩
            have := Lib.bytesWorld_cell w el t i (by simpa using hi)
            simpa using this) (fun i j c hc => by
          unfold rowCell at hc
          obtain ⟨y, hy, hj⟩ := Option.bind_eq_some_iff.1 hc
          simp only [List.getElem?_map, Option.map_eq_some_iff] at hy
          obtain ⟨b, hb, rfl⟩ := hy
          cases j with
          | succ j => cases hj
          | zero =>
            obtain rfl := Option.some.inj hj
            simp only [List.getD, hb, Option.getD_some]
            exact .p _)
      rw [hlen] at this
      exact this
    · simp only [Option.map_eq_some_iff] at h
      obtain ⟨v, hv, rfl⟩ := h
      exact opq_convert ho (by first | exact hv | (rw [hxe]; exact hv)) hr
  · simp only [Option.map_eq_some_iff] at h
    obtain ⟨v, hv, rfl⟩ := h
    exact opq_convert ho hv hr
end Go.AL
