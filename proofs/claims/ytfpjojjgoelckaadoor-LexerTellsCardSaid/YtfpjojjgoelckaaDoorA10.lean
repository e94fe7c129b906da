import Derived.Test.YtfpjojjgoelckaaDoorA9
/-! What is closed; freezing; pure functions; calls; results. -/
namespace Go.AL
open Go.RowKit (Below)
set_option linter.unusedVariables false
set_option linter.unusedSimpArgs false

variable {P : Program} {o : Oper} {ρ : Operand → AV} {σ : ASt} {R : AV → ASt → Prop} {D : List Deferred} {Q : Exit → List AV → ASt → Prop} {fr : List AV}

/-! ### closed values -/
inductive Cl : AV → Prop where
  | p (x : Value) : Cl (.p x)
  | agg (cs : List AV) (h : ∀ c ∈ cs, Cl c) : Cl (.agg cs)
  | tup (cs : List AV) (h : ∀ c ∈ cs, Cl c) : Cl (.tup cs)
  | vsl (xs : List AV) (h : ∀ c ∈ xs, Cl c) : Cl (.vsl xs)
  | vel (xs : List AV) (i off : Nat) (h : ∀ c ∈ xs, Cl c) : Cl (.vel xs i off)
  | fn (f : Fn) (aa bs : List AV) (h1 : ∀ c ∈ aa, Cl c) (h2 : ∀ c ∈ bs, Cl c) : Cl (.fn f aa bs)
  | ifc (t : TypeId) (v : AV) (h : Cl v) : Cl (.ifc t v)
  | opt (b : Bool) (v : AV) (h : Cl v) : Cl (.opt b v)
  | any : Cl .any
theorem Cl.cells {x : AV} (h : Cl x) : ∀ c ∈ x.cells, Cl c := by
  cases h with
  | agg cs h => exact h
  | _ => intro c hc; simp only [AV.cells, List.mem_singleton] at hc; subst hc; first | exact .p _ | (apply Cl.tup; assumption) | (apply Cl.vsl; assumption) | (apply Cl.vel; assumption) | (apply Cl.fn <;> assumption) | (apply Cl.ifc; assumption) | (apply Cl.opt; assumption) | exact .any
theorem Cl.rowCell {xs : List AV} (h : ∀ c ∈ xs, Cl c) {i j : Nat} {c : AV} (hc : rowCell xs i j = some c) : Cl c := by
  unfold AL.rowCell at hc
  obtain ⟨x, hx, hj⟩ := Option.bind_eq_some_iff.1 hc
  exact (h x (List.mem_of_getElem? hx)).cells c (List.mem_of_getElem? hj)
/-- What is closed hangs on the cells that stay alone. -/
theorem Rep.closed {G G' w c v} (hst : ∀ β o, G.st β o → G'.st β o) (h : Rep G w c v) : Cl c → Rep G' w c v := by
  induction h with
  | p x => exact fun _ => .p x
  | agg cs vs hs _ ih => exact fun hc => by cases hc with | agg _ hc => exact .agg cs vs hs fun i c v a b => ih i c v a b (hc c (List.mem_of_getElem? a))
  | tup cs vs hs _ ih => exact fun hc => by cases hc with | tup _ hc => exact .tup cs vs hs fun i c v a b => ih i c v a b (hc c (List.mem_of_getElem? a))
  | vnil a cap => exact fun _ => .vnil a cap
  | vsl xs β o s cap val hcap hs h _ ih => exact fun hc => by cases hc with | vsl _ hc => exact .vsl xs β o s cap val hcap hs (fun i j c e => ⟨hst _ _ (h i j c e).1, (h i j c e).2⟩) fun i j c e => ih i j c e (Cl.rowCell hc e)
  | vel xs i off β o s val hs h _ ih => exact fun hc => by cases hc with | vel _ _ _ hc => exact .vel xs i off β o s val hs (fun i j c e => ⟨hst _ _ (h i j c e).1, (h i j c e).2⟩) fun i j c e => ih i j c e (Cl.rowCell hc e)
  | fn f aa bs us vs h1 h2 _ _ ih3 ih4 => exact fun hc => by cases hc with | fn _ _ _ c1 c2 => exact .fn f aa bs us vs h1 h2 (fun i c v a b => ih3 i c v a b (c1 c (List.mem_of_getElem? a))) (fun i c v a b => ih4 i c v a b (c2 c (List.mem_of_getElem? a)))
  | ifc t c v _ ih => exact fun hc => by cases hc with | ifc _ _ hc => exact .ifc t c v (ih hc)
  | opt b c v _ h0 ih => exact fun hc => by cases hc with | opt _ _ hc => exact .opt b c v (fun e => ih e hc) h0
  | any v => exact fun _ => .any v
  | _ => exact fun hc => by cases hc

/-! ### pure functions -/
/-- Nothing is known. -/
def σ0 : ASt := ⟨fun _ => none, fun _ => none, fun _ => none, 0⟩
theorem σ0_ok : σ0.Ok := ⟨fun _ _ => rfl, fun _ _ => rfl, fun _ _ => rfl⟩
def APure (P : Program) (f : FuncId) (args : List AV) (r : AV) : Prop := ACall P f args σ0 fun r' _ => r' = r
theorem simW_σ0 {G σ w} (h : SimW G σ w) : SimW { base := w.heap.size, st := G.st, bx := fun _ => none, mp := fun _ => none, sl := fun _ => none } σ0 w where
  base := ⟨Nat.le_refl _, let ⟨w0, h1, h2, h3⟩ := h.base.ini; ⟨w0, h1, Nat.le_trans h2 h.base.le, h3⟩⟩
  bx := fun _ _ e => by cases e
  mp := fun _ _ e => by cases e
  sl := fun _ _ e => by cases e
  own := fun β k ho => by cases ho <;> rename_i e _ <;> cases e
  stIn := h.stIn
  fresh := fun _ _ => ⟨rfl, rfl, rfl, rfl, rfl, rfl⟩
theorem APure.call {f : FuncId} {args : List AV} {r : AV} (h : APure P f args r) (ha : ∀ a ∈ args, Cl a) (hr : Cl r) (σ : ASt) : ACall P f args σ fun r' σ' => r' = r ∧ σ' = σ := by
  intro G w vs hv hw
  have hs := simW_σ0 hw
  have h1 := h { base := w.heap.size, st := G.st, bx := fun _ => none, mp := fun _ => none, sl := fun _ => none } w vs ⟨hv.1, fun i c v a b => Rep.closed (G := G) (fun _ _ e => e) (hv.2 i c v a b) (ha c (List.mem_of_getElem? a))⟩ hs
  refine Calls.mono h1 fun e w' he => retOf_mono (fun v w1 ho => ?_) he
  obtain ⟨r', G1, σ1, hl, hw1, hr1, rfl⟩ := ho
  have hb : Below w.heap.size w w1 := hl.below
  have hst : ∀ β o, G.st β o → G1.st β o := hl.st
  have hl2 : Le G w { G with st := G1.st } w1 := ⟨rfl, fun _ _ e => e, fun _ _ e => e, fun _ _ e => e, hst, fun β o e => (hl.st2 β o e).imp id fun e => Nat.le_trans hw.base.le e, hl.cell, hb.mono hw.base.le⟩
  refine ⟨r', { G with st := G1.st }, σ, hl2, ?_, Rep.closed (G := G1) (fun _ _ e => e) hr1 hr, rfl, rfl⟩
  refine ⟨hw.base.go hl2.below, fun b cs e => (hw.bx b cs e).mono hl2 fun β g => hb.block β ((hw.bx b cs e).lt g), fun b cs e => (hw.mp b cs e).mono hl2 fun β g => hb.block β ((hw.mp b cs e).lt g),
    fun b cs e => (hw.sl b cs e).mono hl2 fun β r g => hb.block β ((hw.sl b cs e).lt g), fun β k ho => ?_, hw1.stIn, hw.fresh⟩
  have own : ∀ β k, Owns { G with st := G1.st } σ β k → Owns G σ β k := by
    intro β k ho
    cases ho with
    | bx b β cs h g => exact .bx b β cs h g
    | mp b β cs h g => exact .mp b β cs h g
    | sl b β r cs h g => exact .sl b β r cs h g
  have ho' := own β k ho
  refine ⟨(hw.own β k ho').1, fun k' hk' => (hw.own β k ho').2.1 k' (own _ _ hk'), fun o e => ?_⟩
  rcases hl.st2 β o e with e | e
  · exact (hw.own β k ho').2.2 o e
  · have h2 : w.heap.size ≤ β := e
    have h3 := hw.own_lt ho'
    omega
/-- The same, from a contract over the machine itself. -/
theorem APure.of_calls {f : FuncId} {args : List AV} {r : AV} (h : ∀ G w (vs : Array Value), (∃ w0, Init w0 ∧ Below w0.heap.size w0 w) → RepL G w args vs.toList → Calls P f vs w fun e w' => ∃ v, e = .returned v ∧ Below w.heap.size w w' ∧ ∀ G', Le G w G' w' → Rep G' w' r v) : APure P f args r := by
  intro G w vs hv hw
  refine Calls.mono (h G w vs (let ⟨w0, h1, _, h3⟩ := hw.base.ini; ⟨w0, h1, h3⟩) hv) fun e w' he => ?_
  obtain ⟨v, rfl, hb, hr⟩ := he
  exact ⟨r, G, σ0, Le.grow hw hb, hw.grow hb, hr G (Le.grow hw hb), rfl⟩
end Go.AL
