/- Parts of the proof of ShapeBack: the logic, contracts, plain laws. -/
import Derived.Test.YtadahjmamgidnaaZShapeBack21
import Derived.Test.YtadahjmamgidnaaZShapeBack23
/-! Ranges over functions: calls of yield; small contracts over one variable and a loop's record; leaving with marks. -/
namespace Go.AL
open Go.RowKit (Below)
set_option linter.unusedVariables false
set_option linter.unusedSimpArgs false
variable {P : Program} {σ : ASt} {R : AV → ASt → Prop} {D : List Deferred} {Q : Exit → List AV → ASt → Prop} {fr : List AV} {ops : Array Oper} {o : Oper} {ρ : Operand → AV}
/-! ### leaving with marks -/
theorem Rep.move {G w G' w'} (hb : ∀ b β, G.bx b = some β → G'.bx b = some β) (hm : ∀ b β, G.mp b = some β → G'.mp b = some β) (hs : ∀ b β, G.sl b = some β → G'.sl b = some β)
    (hc : ∀ β o v, G.st β o → w.cell? ⟨β, o, none⟩ = some v → G'.st β o ∧ w'.cell? ⟨β, o, none⟩ = some v) {c v} (h : Rep G w c v) : Rep G' w' c v := by
  induction h with
  | p x => exact .p x
  | agg cs vs hs _ ih => exact .agg cs vs hs ih
  | tup cs vs hs _ ih => exact .tup cs vs hs ih
  | ptr b off β h => exact .ptr b off β (hb _ _ h)
  | vnil a cap => exact .vnil a cap
  | vsl xs β o s cap val hcap hs h _ ih => exact .vsl xs β o s cap val hcap hs (fun i j c e => hc _ _ _ (h i j c e).1 (h i j c e).2) ih
  | vel xs i off β o s val hs h _ ih => exact .vel xs i off β o s val hs (fun i j c e => hc _ _ _ (h i j c e).1 (h i j c e).2) ih
  | hsl b off len β o s cap h hle => exact .hsl b off len β o s cap (hs _ _ h) hle
  | hend b off a β o s cap h hle => exact .hend b off a β o s cap (hs _ _ h) hle
  | hnil b a h => exact .hnil b a (hs _ _ h)
  | hel b i off β o s cap h => exact .hel b i off β o s cap (hs _ _ h)
  | map m μ h => exact .map m μ (hm _ _ h)
  | it m μ h => exact .it m μ (hm _ _ h)
  | yld m μ h => exact .yld m μ (hm _ _ h)
  | fn f aa bs us vs h1 h2 _ _ ih3 ih4 => exact .fn f aa bs us vs h1 h2 ih3 ih4
  | ifc t c v _ ih => exact .ifc t c v ih
  | opt b c v _ h0 ih => exact .opt b c v ih h0
  | any v => exact .any v
theorem cell_def {w : World} {β : Nat} {o : Obj} (h : w.heap[β]? = some o) (ho : o.isCells = false) (i : Nat) : w.cell? ⟨β, i, none⟩ = none := by
  unfold World.cell?
  simp only [h]
  cases o <;> first | rfl | cases ho
/-- The marks' blocks are shut. -/
def shutM (w : World) : List Nat → World
  | [] => w
  | μ :: ms => shutM (w.putObj μ (.deferred none)) ms
theorem shutM_spec : ∀ (ms : List Nat) (w : World), (shutM w ms).os = w.os ∧ (shutM w ms).tape = w.tape ∧ (shutM w ms).output = w.output ∧ (shutM w ms).heap.size = w.heap.size ∧ ∀ k, k ∉ ms → (shutM w ms).heap[k]? = w.heap[k]?
  | [], w => ⟨rfl, rfl, rfl, rfl, fun _ _ => rfl⟩
  | μ :: ms, w => by
    obtain ⟨h1, h2, h3, h4, h5⟩ := shutM_spec ms (w.putObj μ (.deferred none))
    refine ⟨h1, h2, h3, h4.trans World.putObj_size, fun k hk => ?_⟩
    simp only [List.mem_cons, not_or] at hk
    exact (h5 k hk.2).trans (World.putObj_heap_other hk.1)
theorem leaves_marks {fn : Func} {tmps : Array Value} {R : Ending → World → Prop} : ∀ (ms : List Nat) (w : World), ms.Nodup → (∀ μ ∈ ms, w.heap[μ]? = some (.deferred (some []))) →
    (∃ v, (results fn tmps).run P (shutM w ms) = .ok v (shutM w ms) ∧ R (.returned v) (shutM w ms)) → LeavesInM Fence.wide 2 P fn tmps R (ms.map colD) .returning w
  | [], w, _, _, h => h
  | μ :: ms, w, hnd, hm, h => by
    refine ⟨by simp, .inl ⟨μ, _, rfl, run_takeDeferred (hm μ List.mem_cons_self), ?_⟩⟩
    refine leaves_marks ms _ (List.nodup_cons.1 hnd).2 (fun k hk => ?_) h
    exact (World.putObj_heap_other (fun (e : k = μ) => (List.nodup_cons.1 hnd).1 (by rw [← e]; exact hk))).trans (hm k (List.mem_cons_of_mem _ hk))
theorem SimW.shutM {G w} {ms : List Nat} (h : SimW G σ w) (hms : ∀ μ ∈ ms, G.base ≤ μ ∧ G.st μ 0 ∧ w.heap[μ]? = some (.deferred (some []))) :
    SimW { G with st := fun β o => G.st β o ∧ β ∉ ms } σ (Go.AL.shutM w ms) ∧ (∀ c v, Rep G w c v → Rep { G with st := fun β o => G.st β o ∧ β ∉ ms } (Go.AL.shutM w ms) c v) ∧ Below G.base w (Go.AL.shutM w ms) := by
  obtain ⟨k1, k2, k3, k4, k5⟩ := shutM_spec ms w
  obtain ⟨w', hw'⟩ : ∃ w', w' = Go.AL.shutM w ms := ⟨_, rfl⟩
  rw [← hw'] at k1 k2 k3 k4 k5 ⊢
  have hb : Below G.base w w' := ⟨k1, k2, k3, Nat.le_of_eq k4.symm, fun k hk => k5 k fun hm => by have := (hms k hm).1; omega⟩
  have mv : ∀ c v, Rep G w c v → Rep { G with st := fun β o => G.st β o ∧ β ∉ ms } w' c v := fun c v hr =>
    Rep.move (G := G) (w := w) (G' := { G with st := fun β o => G.st β o ∧ β ∉ ms }) (w' := w') (fun _ _ e => e) (fun _ _ e => e) (fun _ _ e => e) (fun β o v hst hc => by
      have hn : β ∉ ms := fun hm => by rw [cell_def (hms β hm).2.2 rfl] at hc; cases hc
      exact ⟨⟨hst, hn⟩, (cell_block (k5 β hn)).trans hc⟩) hr
  have own : ∀ β k, Owns { G with st := fun β o => G.st β o ∧ β ∉ ms } σ β k → Owns G σ β k := by
    intro β k ho
    cases ho with
    | bx b β cs h1 h2 => exact .bx b β cs h1 h2
    | mp b β es h1 h2 => exact .mp b β es h1 h2
    | sl b β r xs h1 h2 => exact .sl b β r xs h1 h2
  have hnm : ∀ β k, Owns G σ β k → w'.heap[β]? = w.heap[β]? := fun β k ho => k5 β fun hm => (h.own β k ho).2.2 0 (hms β hm).2.1
  refine ⟨⟨h.base.go hb, fun b cs e => ?_, fun b es e => ?_, fun b xs e => ?_, fun β k ho => ?_, fun β o e => ?_, h.fresh⟩, mv, hb⟩
  · obtain ⟨β, arr, el, h1, h2, h3, h4⟩ := h.bx b cs e
    exact ⟨β, arr, el, h1, (hnm β _ (.bx b β cs e h1)).trans h2, h3, fun i c v a b => mv _ _ (h4 i c v a b)⟩
  · rcases h.mp b es e with ⟨μ, ents, clock, h1, h2, h3, h4, h5⟩ | ⟨μ, ob, ofr, h1, h2, h3, h4⟩
    · exact .inl ⟨μ, ents, clock, h1, (hnm μ _ (.mp b μ es e h1)).trans h2, h3, fun i k x en a b => ⟨mv _ _ (h4 i k x en a b).1, mv _ _ (h4 i k x en a b).2.1, (h4 i k x en a b).2.2⟩, h5⟩
    · refine .inr ⟨μ, ob, ofr, h1, (hnm μ _ (.mp b μ es e h1)).trans h2, ?_, h4⟩
      have := ObR.to (f := fun x => x) (fun x _ v hr => mv x v hr) h3
      simpa using this
  · rcases h.sl b xs e with ⟨h1, h2⟩ | ⟨β, o, s, cap, arr, el, h1, h2, h3, h4, h5, h6⟩
    · exact .inl ⟨h1, h2⟩
    · exact .inr ⟨β, o, s, cap, arr, el, h1, (hnm β _ (.sl b β _ xs e h1)).trans h2, h3, h4, h5, fun i j c v a b => mv _ _ (h6 i j c v a b)⟩
  · have ho' := own β k ho
    exact ⟨(h.own β k ho').1, fun k' hk' => (h.own β k ho').2.1 k' (own _ _ hk'), fun o e => (h.own β k ho').2.2 o e.1⟩
  · have := h.stIn β o e.1
    show β < w'.heap.size
    omega
/-- A pure function whose body holds ranges over functions. -/
theorem apure_marks {f : FuncId} {fn : Func} {c : Code} {n : Nat} {args : List AV} {r : AV} (hf : P.funcs[f]? = some fn) (hn : fn.ntmps = n) (hb : fn.body = some c) (hcl : ∀ a ∈ args, Cl a) (hr : Cl r)
    (h : AW P mkD c (RetQ P fn fun r' _ => r' = r) (args ++ List.replicate (n - args.length) (.p undef)) σ0) : APure P f args r := by
  subst hn
  intro G w vs hv hw
  have hs0 := simW_σ0 hw
  obtain ⟨Gb, hGb⟩ : ∃ Gb : Ghost, Gb = { base := w.heap.size, st := G.st, bx := fun _ => none, mp := fun _ => none, sl := fun _ => none } := ⟨_, rfl⟩
  rw [← hGb] at hs0
  have hstb : Gb.st = G.st := by rw [hGb]
  have hbb : Gb.base = w.heap.size := by rw [hGb]
  have hv0 : RepL Gb w args vs.toList := ⟨hv.1, fun i c v a b => Rep.closed (G := G) (fun _ _ e => by rw [hstb]; exact e) (hv.2 i c v a b) (hcl c (List.mem_of_getElem? a))⟩
  have hlen : args.length = vs.size := by simpa using hv.1
  have hs : Sim Gb (args ++ List.replicate (fn.ntmps - args.length) (.p undef)) σ0 mkD { tmps := vs ++ Array.replicate (fn.ntmps - vs.size) undef, defers := [] } w := by
    refine ⟨⟨by simp [hlen], fun i c v hc hv2 => ?_⟩, .inr ⟨rfl, [], rfl, List.nodup_nil, fun _ h => nomatch h⟩, hs0⟩
    simp only [Array.toList_append, Array.toList_replicate] at hv2
    rw [← hlen] at hv2
    by_cases hi : i < args.length
    · rw [List.getElem?_append_left hi] at hc
      rw [List.getElem?_append_left (by simpa [← hlen] using hi)] at hv2
      exact hv0.2 i c v hc hv2
    · rw [List.getElem?_append_right (by omega)] at hc
      rw [List.getElem?_append_right (by simp; omega)] at hv2
      rw [List.getElem?_replicate] at hc hv2
      split at hc
      · split at hv2
        · obtain rfl := Option.some.inj hc
          obtain rfl := Option.some.inj hv2
          exact .p _
        · cases hv2
      · cases hc
  have fin : ∀ (fr' : List AV) (σ' : ASt) (a' : Act) (w' : World) (G' : Ghost), Le Gb w G' w' → Sim G' fr' σ' mkD a' w' → (∃ r', AResults P fn fr' σ' r' ∧ Fin (fun r' _ => r' = r) r' σ') →
      LeavesInM Fence.wide 2 P fn a'.tmps (retOf (Outc G w fun r' _ => r' = r)) a'.defers .returning w' := by
    rintro fr' σ' a' w' G' hl hs' ⟨r', hres, hfin⟩
    rcases hs'.defers with ⟨h1, _⟩ | ⟨_, ms, hd, hnd, hms⟩
    · exact absurd rfl h1
    rw [hd]
    refine leaves_marks ms w' hnd (fun μ hm => (hms μ hm).2.2) ?_
    obtain ⟨q1, q2, q3⟩ := hs'.w.shutM hms
    obtain ⟨v, e1, e2⟩ := hres _ [] { tmps := a'.tmps, defers := [] } _ ⟨⟨hs'.tmps.1, fun i c v a b => q2 _ _ (hs'.tmps.2 i c v a b)⟩, .inl ⟨by simp [mkD], rfl⟩, q1⟩
    refine ⟨v, e1, ?_⟩
    obtain ⟨r2, G2, σ2, hl2, hw2, hr2, rfl⟩ := hfin _ _ v q1 e2
    obtain ⟨k1, k2, k3, k4, k5⟩ := shutM_spec ms w'
    have hbase : G'.base = w.heap.size := hl.base.trans hbb
    have hbel : Below w.heap.size w (shutM w' ms) := by
      have h1 := hl.below; rw [hbb] at h1
      rw [hbase] at q3
      exact h1.trans q3
    have hb2 := hbel
    have hst : ∀ β o, G.st β o → G2.st β o := fun β o e => hl2.st _ _ ⟨hl.st _ _ (by rw [hstb]; exact e), fun hm => by have := hw.stIn β o e; have := (hms β hm).1; omega⟩
    have hle : Le G w { G with st := G2.st } _ := ⟨rfl, fun _ _ e => e, fun _ _ e => e, fun _ _ e => e, hst, fun β o e => by
      rcases hl2.st2 β o e with e | ⟨e, e'⟩
      · rcases hl.st2 β o e.1 with e | ⟨e, e'⟩
        · exact .inl (by rw [← hstb]; exact e)
        · exact .inr ⟨by have := hw.base.le; rw [hbb] at e; omega, fun o' => by rw [← hstb]; exact e' o'⟩
      · refine .inr ⟨by have := hw.base.le; rw [show ({ G' with st := fun β o => G'.st β o ∧ β ∉ ms } : Ghost).base = G'.base from rfl, hbase] at e; omega, fun o' e2 => e' o' ⟨hl.st _ _ (by rw [hstb]; exact e2), fun hm => by have := hw.stIn β o' e2; have := (hms β hm).1; omega⟩⟩,
      fun β o e => hb2.block β (hw.stIn β o e), hb2.mono hw.base.le⟩
    refine ⟨_, { G with st := G2.st }, σ0, hle, ?_, Rep.closed (G := G2) (fun _ _ e => e) hr2 hr, rfl⟩
    refine ⟨hw.base.go hle.below, fun _ _ e => (nomatch e), fun _ _ e => (nomatch e), fun _ _ e => (nomatch e), fun β k ho => ?_, hw2.stIn, hw.fresh⟩
    cases ho with
    | bx b β cs h g => cases h
    | mp b β cs h g => cases h
    | sl b β r cs h g => cases h
  refine callsIn_wide.1 (callsIn_of_wp_marks (F := Fence.wide) (n := 2) hf hb trivial ?_)
  refine wpIn_mono (h ⟨none⟩ (@FitD.mk ⟨none⟩ _ (.inr rfl)) Gb _ w hs) ?_
  rintro e a' w' ⟨G', fr', σ', hl, hs', hq⟩
  cases e with
  | normal => exact fin fr' σ' a' w' G' hl hs' hq
  | ret => exact fin fr' σ' a' w' G' hl hs' hq
  | _ => exact hq.elim
end Go.AL
/-! Ranges over functions: yield; small contracts over one variable and a loop's record; the statement. -/
namespace Go.AL
open Go.RowKit (Below)
set_option linter.unusedVariables false
set_option linter.unusedSimpArgs false
variable {P : Program} {σ : ASt} {R : AV → ASt → Prop} {D : List Deferred} {Q : Exit → List AV → ASt → Prop} {fr : List AV} {ops : Array Oper} {o : Oper} {ρ : Operand → AV}
/-! ### a call of yield -/
def AYield (P : Program) (m : Nat) (args : List AV) (σ : ASt) (R : AV → ASt → Prop) : Prop :=
  ∀ G w (vs : Array Value) μ, RepL G w args vs.toList → SimW G σ w → G.mp m = some μ →
    ∃ fn tmps assign body, (Instr.yield μ vs).run P w = .ok (.round μ fn tmps assign body) w ∧ RoundIn Fence.wide 1 P μ fn tmps assign body w (retOf (Outc G w R))
theorem opq_yield {f : Operand} {aa : Array Operand} {ts : Array TypeId} (ho : o.op = .call { callee := .value f, args := aa, argTypes := ts }) {m : Nat} (hf : ρ f = .yld m) (h : AYield P m (aa.toList.map ρ) σ R) : OpQ P o ρ σ R := by
  intro G e w he hw
  have hrf := he f
  rw [hf] at hrf
  generalize hvf : e f = vf at hrf
  have hargs : RepL G w (aa.toList.map ρ) (aa.toList.map e) := ⟨by simp, fun i c v hc hv => by
    simp only [List.getElem?_map, Option.map_eq_some_iff] at hc hv
    obtain ⟨a, ha, rfl⟩ := hc
    obtain ⟨b, hb, rfl⟩ := hv
    obtain rfl := Option.some.inj (ha.symm.trans hb)
    exact he _⟩
  obtain ⟨μ, rfl, g⟩ : ∃ μ, vf = .func (.yield μ) #[] #[] ∧ G.mp m = some μ := by cases hrf; exact ⟨_, rfl, by assumption⟩
  obtain ⟨fn, tmps, assign, body, h1, h2⟩ := h G w (aa.map e) μ (by simpa using hargs) hw g
  have run : (execOp e o).run P w = .ok (.round μ fn tmps assign body) w := by
    simp only [execOp, ho, resolve, hvf, Deferred.ofValue, Sem.run_bind, Sem.run_pure, Result.andThen_ok, invoke]
    simpa using h1
  rw [run]
  exact h2
theorem awl_yield {rest : List Oper} {f : Operand} {aa : Array Operand} {ts : Array TypeId} (ho : o.op = .call { callee := .value f, args := aa, argTypes := ts }) (hw : awanted ops o fr = some true) {m : Nat} (hf : aev fr f = .yld m) {args : List AV} (ha : aa.toList.map (aev fr) = args)
    (h : AYield P m args σ fun r σ' => AWL P D ops Q rest (aput fr o.dst r) σ') : AWL P D ops Q (o :: rest) fr σ :=
  awl_cons hw (opq_yield ho hf (by rw [ha]; exact h))
theorem awl_acall {rest : List Oper} {f : Operand} {aa : Array Operand} {ts : Array TypeId} (ho : o.op = .call { callee := .value f, args := aa, argTypes := ts }) (hw : awanted ops o fr = some true)
    {F : FuncId} {first cap : List AV} (hf : acallee (aev fr f) = some (F, first, cap)) (hc : callable P F = true) {args : List AV} (ha : first ++ aa.toList.map (aev fr) ++ cap = args) (h : ACall P F args σ fun r σ' => AWL P D ops Q rest (aput fr o.dst r) σ') : AWL P D ops Q (o :: rest) fr σ :=
  awl_cons hw (opq_call ho hf hc (by rw [ha]; exact h))
theorem AYield.mono {m args} {R' : AV → ASt → Prop} (h : AYield P m args σ R) (hr : ∀ r σ, R r σ → R' r σ) : AYield P m args σ R' := fun G w vs μ h1 h2 h3 => by
  obtain ⟨fn, tmps, assign, body, k1, k2⟩ := h G w vs μ h1 h2 h3
  exact ⟨fn, tmps, assign, body, k1, RoundIn.mono k2 fun e w' he => retOf_mono (fun v w' h => Outc.mono h hr) he⟩
/-! ### the record turns -/
theorem rec_turn {G w m} {r0 : Loop} {fs : List AV} (hw : SimW G σ w) (hm : σ.mp m = some (obE (.loop r0) fs)) :
    ∃ μ r, G.mp m = some μ ∧ w.heap[μ]? = some (.loop r) ∧ erL r = r0 ∧ RepL G w fs r.tmps.toList ∧ ∀ r', r'.tmps = r.tmps → Le G w G (w.putObj μ (.loop r')) ∧ SimW G { σ with mp := upd σ.mp m (some (obE (.loop (erL r')) fs)) } (w.putObj μ (.loop r')) := by
  obtain ⟨μ, o', g, hh, hr, he⟩ := mp_ob (hw.mp m _ hm)
  cases o' <;> simp only [erO, reduceCtorEq, Obj.loop.injEq] at he
  rename_i r
  have hown : Owns G σ μ (1, m) := .mp m μ _ hm g
  have hlt := hw.own_lt hown
  refine ⟨μ, r, g, hh, he, hr, fun r' ht => ?_⟩
  have htouch : Touch w (w.putObj μ (.loop r')) μ := ⟨rfl, rfl, rfl, World.putObj_size, fun k hk => World.putObj_heap_other hk⟩
  have hl := Le.touch hw hown htouch
  refine ⟨hl, hw.touch_mp hm g htouch fun hl' => .inr ⟨μ, _, fs, g, World.putObj_heap_same hlt, ?_, rfl⟩⟩
  have : RepL G w fs r.tmps.toList := hr
  show RepL G _ fs r'.tmps.toList
  rw [ht]
  exact this.mono hl'
/-- The record's own part: ready. -/
def lp0 (ps : Array Tmp) (assign body : Code) : Loop := { state := .ready, pending := none, fn := 0, tmps := #[], params := ps, assign, body, defers := 0 }
/-- Behind a round. -/
def nxt (r : Loop) : Option Code → Loop
  | none => r
  | some c => { r with state := .done, pending := some c }
/-! ### small contracts -/
/-- One variable, number 0; one record, number 1. -/
def yst (cs : List AV) (es : List (AV × AV)) : ASt := ⟨fun b => if b = 0 then some cs else none, fun b => if b = 1 then some es else none, fun _ => none, 2⟩
@[simp] theorem yst_bx (cs es) (b : Nat) : (yst cs es).bx b = if b = 0 then some cs else none := rfl
@[simp] theorem yst_mp (cs es) (b : Nat) : (yst cs es).mp b = if b = 1 then some es else none := rfl
@[simp] theorem yst_sl (cs es) (b : Nat) : (yst cs es).sl b = none := rfl
@[simp] theorem yst_next (cs es) : (yst cs es).next = 2 := rfl
def sub (b : Nat) : AV → AV
  | .ptr 0 off => .ptr b off
  | v => v
/-- Closed, but for that variable's address. -/
def F0 (v : AV) : Prop := Cl v ∨ ∃ off, v = .ptr 0 off
theorem F0.ren {b m n : Nat} {v : AV} (h : F0 v) : ren (ridx [b, m] n) v = sub b v := by
  rcases h with h | ⟨off, rfl⟩
  · rw [ren_closed _ h]; cases h <;> rfl
  · simp [Go.AL.ren, ridx, sub]
theorem F0.rens {b m n : Nat} {l : List AV} (h : ∀ v ∈ l, F0 v) : rens (ridx [b, m] n) l = l.map (sub b) := by
  rw [rens_map]; exact List.map_congr_left fun v hv => (h v hv).ren
theorem cl_sub {b : Nat} {v : AV} (h : Cl v) : sub b v = v := by cases h <;> rfl
/-- The arguments, too: that variable's address, the record's yield, what is closed. -/
def subA (b m : Nat) : AV → AV
  | .ptr 0 off => .ptr b off
  | .yld 1 => .yld m
  | v => v
def A0 (v : AV) : Prop := Cl v ∨ (∃ off, v = .ptr 0 off) ∨ v = .yld 1
theorem A0.rens {b m n : Nat} {l : List AV} (h : ∀ v ∈ l, A0 v) : rens (ridx [b, m] n) l = l.map (subA b m) := by
  rw [rens_map]
  refine List.map_congr_left fun v hv => ?_
  rcases h v hv with h | ⟨off, rfl⟩ | rfl
  · rw [ren_closed _ h]; cases h <;> rfl
  · simp [ren, ridx, subA]
  · simp [ren, ridx, subA]
def ScR (fs : List AV) (r : AV) (cs' : List AV) (o' : Obj) (r' : AV) (σ' : ASt) : Prop := r' = r ∧ σ'.bx 0 = some cs' ∧ σ'.mp 1 = some (obE o' fs)
def SC (P : Program) (f : FuncId) (args cs : List AV) (o : Obj) (fs : List AV) (r : AV) (cs' : List AV) (o' : Obj) : Prop := ACall P f args (yst cs (obE o fs)) (ScR fs r cs' o')
def SY (P : Program) (args cs : List AV) (o : Obj) (fs : List AV) (r : AV) (cs' : List AV) (o' : Obj) : Prop := AYield P 1 args (yst cs (obE o fs)) (ScR fs r cs' o')
/-- What comes of such a call. -/
def ScB (σ : ASt) (b m : Nat) (fs : List AV) (r : AV) (cs' : List AV) (o' : Obj) (r' : AV) (σ' : ASt) : Prop :=
  r' = r ∧ ∃ n, σ.next ≤ n ∧ σ' = { σ with bx := upd σ.bx b (some cs'), mp := upd σ.mp m (some (obE o' (fs.map (sub b)))), next := n }
structure ScH (σ : ASt) (b m : Nat) (args cs : List AV) (o : Obj) (fs : List AV) (r : AV) (cs' : List AV) : Prop where
  hargs : ∀ v ∈ args, A0 v
  hfs : ∀ v ∈ fs, F0 v
  hcs : ∀ v ∈ cs, Cl v
  hcs' : ∀ v ∈ cs', Cl v
  hr : Cl r
  bx : σ.bx b = some cs
  mp : σ.mp m = some (obE o (fs.map (sub b)))
  bm : σ.mp b = none
  bs : σ.sl b = none
  mx : σ.bx m = none
  ms : σ.sl m = none
theorem sc_core {b m : Nat} {args cs : List AV} {ob ob' : Obj} {fs : List AV} {r : AV} {cs' : List AV} (hh : ScH σ b m args cs ob fs r cs') {G : Ghost} {w : World} {vs : Array Value} (hv : RepL G w (args.map (subA b m)) vs.toList) (hw : SimW G σ w) :
    ∃ Gc : Ghost, SimW Gc (yst cs (obE ob fs)) w ∧ RepL Gc w args vs.toList ∧ Gc.mp 1 = G.mp m ∧ ∀ v w1, Outc Gc w (ScR fs r cs' ob') v w1 → Outc G w (ScB σ b m fs r cs' ob') v w1 := by
  have hok : σ.Ok := ⟨fun b hb => (hw.fresh b hb).2.2.2.1, fun b hb => (hw.fresh b hb).2.2.2.2.1, fun b hb => (hw.fresh b hb).2.2.2.2.2⟩
  have hbn : b < σ.next := by
    rcases Nat.lt_or_ge b σ.next with h' | h'
    · exact h'
    · have := hok.bx b h'; rw [hh.bx] at this; cases this
  have hmn : m < σ.next := by
    rcases Nat.lt_or_ge m σ.next with h' | h'
    · exact h'
    · have := hok.mp m h'; rw [hh.mp] at this; cases this
  have hne : b ≠ m := fun e => by have := hh.mp; rw [← e, hh.bm] at this; cases this
  obtain ⟨Gc, h1, h2, h3, h4⟩ := frame_core (σ := σ) (σc := yst cs (obE ob fs)) (args := args) [b, m] rfl ⟨fun i hi => if_neg (by simp at hi; omega), fun i hi => if_neg (by simp at hi; omega), fun _ _ => rfl⟩
    (by simp; exact ⟨hbn, hmn⟩) (by simp [hne]) (fun i cs0 e => by
      simp only [yst_bx] at e
      split at e
      · rename_i hi; subst hi
        obtain rfl := Option.some.inj e
        rw [rens_closed hh.hcs]; simpa [ridx] using hh.bx
      · cases e) (fun i es e => by
      simp only [yst_mp] at e
      split at e
      · rename_i hi; subst hi
        obtain rfl := Option.some.inj e
        rw [obE_ren, F0.rens hh.hfs]; simpa [ridx] using hh.mp
      · cases e) (fun i xs e => by cases e) (G := G) (w := w) (vs := vs) (by rw [A0.rens hh.hargs]; exact hv) hw
  refine ⟨Gc, h1, h2, by rw [h3]; simp [ridx], fun v w1 ho => ?_⟩
  -- of what comes behind, only these two are kept
  have ho2 : Outc Gc w (fun r' τ => ∃ n, τ = ⟨fun i => if i = 0 then some cs' else none, fun i => if i = 1 then some (obE ob' fs) else none, fun _ => none, n⟩ ∧ r' = r) v w1 := ho.low fun r' τ ⟨e1, e2, e3⟩ =>
    ⟨⟨fun i => if i = 0 then some cs' else none, fun i => if i = 1 then some (obE ob' fs) else none, fun _ => none, τ.next⟩, ⟨fun i c e => (by
        dsimp only at e
        split at e
        · rename_i hi; subst hi; rw [e2]; exact e
        · cases e), fun i c e => (by
        dsimp only at e
        split at e
        · rename_i hi; subst hi; rw [e3]; exact e
        · cases e), fun i c e => (by cases e), Nat.le_refl _⟩, τ.next, rfl, e1⟩
  have ho3 := h4 _ v w1 ho2
  refine ho3.mono fun r' σ' ⟨rc, τ, ⟨n, e1, e2⟩, e3, e4⟩ => ?_
  subst e2
  refine ⟨by rw [e3, ren_closed _ hh.hr], σ.next + (τ.next - 2), by omega, ?_⟩
  rw [e4, e1]
  unfold back
  have inv0 : ∀ c, rinv [b, m] σ.next c = if σ.next ≤ c then some (2 + (c - σ.next)) else if c = b then some 0 else if c = m then some 1 else none := by
    intro c
    unfold rinv
    split
    · rfl
    · simp [rfind]
  congr 1
  · funext c
    dsimp only
    rw [inv0]
    unfold upd
    by_cases h1 : σ.next ≤ c
    · rw [if_pos h1, if_neg (by omega), hok.bx c h1]
      show Option.map _ (if 2 + (c - σ.next) = 0 then some cs' else none) = none
      rw [if_neg (by omega)]; rfl
    · rw [if_neg h1]
      by_cases h2 : c = b
      · subst h2
        rw [if_pos rfl, if_pos rfl]
        show Option.map _ (some cs') = _
        rw [Option.map_some, rens_closed hh.hcs']
      · rw [if_neg h2, if_neg h2]
        by_cases h3 : c = m
        · subst h3
          rw [if_pos rfl, hh.mx]; rfl
        · rw [if_neg h3]
  · funext c
    dsimp only
    rw [inv0]
    unfold upd
    by_cases h1 : σ.next ≤ c
    · rw [if_pos h1, if_neg (by omega), hok.mp c h1]
      show Option.map _ (if 2 + (c - σ.next) = 1 then some (obE ob' fs) else none) = none
      rw [if_neg (by omega)]; rfl
    · rw [if_neg h1]
      by_cases h2 : c = b
      · subst h2
        rw [if_pos rfl, if_neg hne]
        show Option.map _ (if 0 = 1 then some (obE ob' fs) else none) = _
        rw [if_neg (by omega), hh.bm]; rfl
      · rw [if_neg h2]
        by_cases h3 : c = m
        · subst h3
          rw [if_pos rfl, if_pos rfl]
          show Option.map _ (some (obE ob' fs)) = _
          rw [Option.map_some, obE_ren, F0.rens hh.hfs]
        · rw [if_neg h3, if_neg h3]
  · funext c
    dsimp only
    rw [inv0]
    by_cases h1 : σ.next ≤ c
    · rw [if_pos h1, hok.sl c h1]; rfl
    · rw [if_neg h1]
      by_cases h2 : c = b
      · subst h2; rw [if_pos rfl, hh.bs]; rfl
      · rw [if_neg h2]
        by_cases h3 : c = m
        · subst h3; rw [if_pos rfl, hh.ms]; rfl
        · rw [if_neg h3]
theorem SC.call {f : FuncId} {b m : Nat} {args args' cs : List AV} {ob ob' : Obj} {fs : List AV} {r : AV} {cs' : List AV} (h : SC P f args cs ob fs r cs' ob') (ha : args.map (subA b m) = args') (hh : ScH σ b m args cs ob fs r cs') : ACall P f args' σ (ScB σ b m fs r cs' ob') := by
  subst ha
  intro G w vs hv hw
  obtain ⟨Gc, h1, h2, _, h4⟩ := sc_core hh hv hw
  exact Calls.mono (h Gc w vs h2 h1) fun e w' he => retOf_mono (fun v w1 ho => h4 v w1 ho) he
theorem SY.call {b m : Nat} {args args' cs : List AV} {ob ob' : Obj} {fs : List AV} {r : AV} {cs' : List AV} (h : SY P args cs ob fs r cs' ob') (ha : args.map (subA b m) = args') (hh : ScH σ b m args cs ob fs r cs') : AYield P m args' σ (ScB σ b m fs r cs' ob') := by
  subst ha
  intro G w vs μ hv hw hμ
  obtain ⟨Gc, h1, h2, h3, h4⟩ := sc_core hh hv hw
  obtain ⟨fn, tmps, assign, body, k1, k2⟩ := h Gc w vs μ h2 h1 (h3.trans hμ)
  exact ⟨fn, tmps, assign, body, k1, RoundIn.mono k2 fun e w' he => retOf_mono (fun v w1 ho => h4 v w1 ho) he⟩
end Go.AL
/-! The statement 'for x := range f'. -/
namespace Go.AL
open Go.RowKit (Below)
set_option linter.unusedVariables false
set_option linter.unusedSimpArgs false
variable {P : Program} {σ : ASt} {R : AV → ASt → Prop} {Q : Exit → List AV → ASt → Prop} {fr : List AV}
/-- How a round's body is left. -/
def BQ (cs' : List AV) (j : Option Code) (es' : List (AV × AV)) : Exit → List AV → ASt → Prop
  | .normal, _, σ' => j = none ∧ σ'.bx 0 = some cs' ∧ σ'.mp 1 = some es'
  | .ret, _, σ' => j = some .ret ∧ σ'.bx 0 = some cs' ∧ σ'.mp 1 = some es'
  | .exit id, _, σ' => j = some (.exit id) ∧ σ'.bx 0 = some cs' ∧ σ'.mp 1 = some es'
  | .goto t, _, σ' => j = some (.goto t) ∧ σ'.bx 0 = some cs' ∧ σ'.mp 1 = some es'
  | _, _, _ => False
/-- One round. -/
def Round (P : Program) (p : Tmp) (assign body : Code) (fs cs : List AV) (x : AV) (cs' : List AV) (j : Option Code) : Prop :=
  ∀ es, AW P [] assign (thenA (fun fr1 σ1 => σ1.mp 1 = some es ∧ ∀ es', AW P [] body (BQ cs' j es') fr1 { σ1 with mp := upd σ1.mp 1 (some es') }) (fun _ _ _ => False)) (fset fs p x) (yst cs es)
theorem fitNil [r : Rd] : FitD [] := ⟨.inl (by simp [mkD])⟩
theorem sy_of_round {p : Tmp} {assign body : Code} {fs cs cs' : List AV} {x : AV} {j : Option Code} (h : Round P p assign body fs cs x cs' j) :
    SY P [x] cs (.loop (lp0 #[p] assign body)) fs (.p (.bool j.isNone)) cs' (.loop (nxt (lp0 #[p] assign body) j)) := by
  intro G w vs μ hv hw hμ
  obtain ⟨μ', r, g, hh, hr, hrep, _⟩ := rec_turn hw (m := 1) (r0 := lp0 #[p] assign body) (fs := fs) rfl
  obtain rfl : μ' = μ := Option.some.inj (g.symm.trans hμ)
  have hps : r.params = #[p] := congrArg Loop.params hr
  have hpa : r.assign = assign := congrArg Loop.assign hr
  have hpb : r.body = body := congrArg Loop.body hr
  have hst : r.state = .ready := congrArg Loop.state hr
  have hpe : r.pending = none := congrArg Loop.pending hr
  have hsz : vs.size = 1 := by have := hv.1; simp at this; exact this.symm
  obtain ⟨v, rfl⟩ : ∃ v, vs = #[v] := by
    obtain ⟨l⟩ := vs
    match l, hsz with
    | [v], _ => exact ⟨v, rfl⟩
  have hx : Rep G w x v := hv.2 0 x v rfl rfl
  refine ⟨r.fn, _, r.assign, r.body, run_yield hh (by rw [hps]; rfl), ?_⟩
  rw [hps, hpa, hpb]
  refine roundIn_of_wpIn (F := Fence.wide) trivial ?_
  have hsim : Sim G (fset fs p x) (yst cs (obE (.loop (lp0 #[p] assign body)) fs)) [] { tmps := (#[p].zip #[v]).foldl (fun tmps (t, a) => tmps.setIfInBounds t a) r.tmps, defers := [] } w := by
    have hs0 : Sim G fs (yst cs (obE (.loop (lp0 #[p] assign body)) fs)) [] { tmps := r.tmps, defers := [] } w := ⟨hrep, .inl ⟨by simp [mkD], rfl⟩, hw⟩
    have := hs0.put (some p) hx
    simpa [aput, Act.put] using this
  have hA := h _ ⟨some μ'⟩ (@fitNil ⟨some μ'⟩) G _ w hsim
  refine wpIn_mono (F := Fence.wide.inRound μ') (Q := lift G w [] _) (fun b k cs hro hb hr => hA b k cs hro hb (room_wide _)) ?_
  rintro e a1 w1 ⟨G1, fr1, σ1, hl1, hs1, hq⟩
  cases e with
  | normal =>
    obtain ⟨hes, hbody⟩ := hq
    obtain ⟨μ1, r1, g1, hh1, hr1, hrep1, turn1⟩ := rec_turn hs1.w hes
    obtain rfl : μ1 = μ' := Option.some.inj (g1.symm.trans (hl1.mp _ _ hμ))
    have hst1 : r1.state = .ready := congrArg Loop.state hr1
    obtain ⟨hl2, hw2⟩ := turn1 { r1 with state := .busy } rfl
    refine ⟨_, run_beginRound hh1 hst1, ?_⟩
    have hB := hbody _ ⟨some μ1⟩ (@fitNil ⟨some μ1⟩) G1 a1 _ (hs1.le hl2 hw2)
    refine wpIn_mono (F := Fence.wide.inRound μ1) (Q := lift G1 _ [] _) (fun b k cs hro hb hr => hB b k cs hro hb (room_wide _)) ?_
    rintro e a3 w3 ⟨G3, fr3, σ3, hl3, hs3, hq3⟩
    have hend : ∀ jmp, j = jmp → σ3.bx 0 = some cs' → σ3.mp 1 = some (obE (.loop (erL { r1 with state := .busy })) fs) →
        ∃ u w4, (Instr.endRound μ1 jmp).run P w3 = .ok u w4 ∧ retOf (Outc G w (ScR fs (.p (.bool j.isNone)) cs' (.loop (nxt (lp0 #[p] assign body) j)))) (.returned u) w4 := by
      intro jmp hj hb3 hm3
      subst hj
      obtain ⟨μ3, r3, g3, hh3, hr3, hrep3, turn3⟩ := rec_turn hs3.w hm3
      obtain rfl : μ3 = μ1 := Option.some.inj (g3.symm.trans (hl3.mp _ _ (hl2.mp _ _ g1)))
      obtain ⟨hl4, hw4⟩ := turn3 { r3 with state := if j.isNone then .ready else .done, pending := j } rfl
      refine ⟨_, _, run_endRound j hh3, _, G3, _, hl1.trans (hl2.trans (hl3.trans hl4)), hw4, .p _, rfl, hb3, ?_⟩
      have e : erL { r3 with state := if j.isNone then .ready else .done, pending := j } = nxt (lp0 #[p] assign body) j := by
        have e3 : r3.params = #[p] ∧ r3.assign = assign ∧ r3.body = body := by
          have h1 : (erL r3).params = (erL { r1 with state := .busy }).params := congrArg Loop.params hr3
          have h2 : (erL r3).assign = (erL { r1 with state := .busy }).assign := congrArg Loop.assign hr3
          have h3 : (erL r3).body = (erL { r1 with state := .busy }).body := congrArg Loop.body hr3
          exact ⟨h1.trans (show (erL r1).params = _ from congrArg Loop.params hr1), h2.trans (show (erL r1).assign = _ from congrArg Loop.assign hr1), h3.trans (show (erL r1).body = _ from congrArg Loop.body hr1)⟩
        obtain ⟨e4, e5, e6⟩ := e3
        cases j <;> simp [erL, nxt, lp0, e4, e5, e6]
      rw [e]
      simp [upd]
    cases e with
    | normal => exact hend none hq3.1 hq3.2.1 hq3.2.2
    | ret => exact hend (some .ret) hq3.1 hq3.2.1 hq3.2.2
    | exit id => exact hend (some (.exit id)) hq3.1 hq3.2.1 hq3.2.2
    | goto t => exact hend (some (.goto t)) hq3.1 hq3.2.1 hq3.2.2
    | _ => exact hq3.elim
  | _ => exact hq.elim
/-- All of them, one by one, until one is left for good. -/
def visit {α : Type} (stp : List AV → α → List AV × Option Code) : List α → List AV → List AV × Option Code
  | [], cs => (cs, none)
  | x :: l, cs => match stp cs x with
    | (cs', none) => visit stp l cs'
    | (cs', some c) => (cs', some c)
theorem visit_append {α : Type} (stp : List AV → α → List AV × Option Code) : ∀ (l l' : List α) (cs : List AV), visit stp (l ++ l') cs = match visit stp l cs with
    | (cs', none) => visit stp l' cs'
    | (cs', some c) => (cs', some c)
  | [], _, _ => rfl
  | x :: l, l', cs => by
    simp only [List.cons_append, visit]
    cases h : stp cs x with
    | mk cs' j => cases j with
      | none => exact visit_append stp l l' cs'
      | some c => rfl
theorem aw_rangeFunc {α : Type} {g : Operand} {p : Tmp} {assign body : Code} {gf : FuncId} {cap : List AV} (hg : aev fr g = .fn (.func gf) [] cap) (hcap : ∀ c ∈ cap, Cl c) (hc : callable P gf = true)
    {b : Nat} {cs0 : List AV} (hb : σ.bx b = some cs0) (hbm : σ.mp b = none) (hbs : σ.sl b = none) (fs : List AV) (hF : ∀ v ∈ fs, F0 v) (hfr : fr = fs.map (sub b))
    (enc : α → AV) (stp : List AV → α → List AV × Option Code) (xs : List α) (I : List AV → Prop) (h0 : I cs0) (hI : ∀ cs, I cs → ∀ c ∈ cs, Cl c) (hIs : ∀ cs, I cs → ∀ x ∈ xs, I (stp cs x).1)
    (hiter : (∀ cs, I cs → ∀ x ∈ xs, SY P [enc x] cs (.loop (lp0 #[p] assign body)) fs (.p (.bool (stp cs x).2.isNone)) (stp cs x).1 (.loop (nxt (lp0 #[p] assign body) (stp cs x).2))) →
      ∃ r, Cl r ∧ SC P gf (.yld 1 :: cap) cs0 (.loop (lp0 #[p] assign body)) fs r (visit stp xs cs0).1 (.loop (nxt (lp0 #[p] assign body) (visit stp xs cs0).2)))
    (hround : ∀ cs, I cs → ∀ x ∈ xs, Round P p assign body fs cs (enc x) (stp cs x).1 (stp cs x).2)
    (hn : (visit stp xs cs0).2 = none → ∀ n, σ.next ≤ n → Q .normal fr { σ with bx := upd σ.bx b (some (visit stp xs cs0).1), next := n })
    (hs : ∀ c, (visit stp xs cs0).2 = some c → ∀ n, σ.next ≤ n → AW P mkD c Q fr { σ with bx := upd σ.bx b (some (visit stp xs cs0).1), next := n }) :
    AW P mkD (.rangeFunc g #[p] assign body) Q fr σ := by
  have hvI : ∀ (l : List α) (cs : List AV), (∀ x ∈ l, x ∈ xs) → I cs → I (visit stp l cs).1 := by
    intro l
    induction l with
    | nil => intro cs _ h; exact h
    | cons x l ih =>
      intro cs hl h
      have h1 := hIs cs h x (hl x List.mem_cons_self)
      simp only [visit]
      cases h2 : stp cs x with
      | mk cs' j =>
        rw [h2] at h1
        cases j with
        | none => exact ih cs' (fun y hy => hl y (List.mem_cons_of_mem _ hy)) h1
        | some c => exact h1
  obtain ⟨rv, hrv, hsc⟩ := hiter fun cs hcs x hx => sy_of_round (hround cs hcs x hx)
  intro rd hfit G a w hs0
  have hro : rd.ro = none := by rcases hfit.fit with h | h; · exact absurd rfl h
                                · exact h
  refine wpIn_rangeFunc (F := wideR) fun fn _ => ?_
  have hro' : (wideR : Fence).round = none := hro
  rw [hro']
  -- the block for deferred calls, the record
  obtain ⟨w1, hw1⟩ : ∃ w1, w1 = w.alloc (.deferred (some [])) := ⟨_, rfl⟩
  obtain ⟨rec, hrec⟩ : ∃ rec : Loop, rec = { state := .ready, pending := none, fn, tmps := a.tmps, params := #[p], assign, body, defers := w.heap.size } := ⟨_, rfl⟩
  obtain ⟨w2, hw2⟩ : ∃ w2, w2 = w1.alloc (.loop rec) := ⟨_, rfl⟩
  have hb1 : Below w.heap.size w w1 := by rw [hw1]; exact (Below.refl _ _).alloc (Nat.le_refl _) _
  have hz1 : w1.heap.size = w.heap.size + 1 := by rw [hw1]; exact World.size_alloc _ _
  obtain ⟨q, hq⟩ : ∃ q : Nat → Nat → Prop, q = fun β _ => β = w.heap.size := ⟨_, rfl⟩
  have hl1 : Le G w (G.addSt q) w1 := Le.addSt hs0.w hb1 q fun β o e => by rw [hq] at e; omega
  have hs1 : SimW (G.addSt q) σ w1 := hs0.w.addSt hb1 q fun β o e => by rw [hq] at e; omega
  have hb2 : Below w1.heap.size w1 w2 := by rw [hw2]; exact (Below.refl _ _).alloc (Nat.le_refl _) _
  have hl2 := Le.addMp hs1 hb2 w1.heap.size
  have hh2 : w2.heap[w1.heap.size]? = some (.loop rec) := by rw [hw2]; exact World.alloc_heap_new _ _
  have hes2 : SimW ((G.addSt q).addMp σ.next w1.heap.size) (σ.addMp (obE (.loop (lp0 #[p] assign body)) (fs.map (sub b)))) w2 := hs1.addMp hb2 (Nat.le_refl _) fun hl => .inr ⟨_, .loop rec, fs.map (sub b), upd_same _ _ _, hh2, by
    have h1 : RepL G w fr a.tmps.toList := hs0.tmps
    rw [hfr] at h1
    have := (h1.mono hl1).mono hl
    show RepL _ _ _ rec.tmps.toList
    rw [hrec]; exact this, by rw [hrec]; rfl⟩
  obtain ⟨G2, hG2⟩ : ∃ G2, G2 = (G.addSt q).addMp σ.next w1.heap.size := ⟨_, rfl⟩
  rw [← hG2] at hes2 hl2
  have hl02 : Le G w G2 w2 := hl1.trans hl2
  have hgm : G2.mp σ.next = some w1.heap.size := by rw [hG2]; exact upd_same _ _ _
  -- the function
  have hfn := hs0.ev g
  rw [hg] at hfn
  obtain ⟨caps, hv, hcv⟩ : ∃ caps : Array Value, a.eval g = .func (.func gf) #[] caps ∧ RepL G w cap caps.toList := by
    generalize a.eval g = v at hfn
    cases hfn with
    | fn _ _ _ us vs h1 h2 h3 h4 =>
      have : us = #[] := Array.eq_empty_of_size_eq_zero h1.symm
      subst this
      exact ⟨vs, rfl, by simpa using h2, fun i c v hc hv => h4 i c v hc (by simpa using hv)⟩
  refine ⟨w.heap.size + 1, [colD w.heap.size], w2, { target := .fn (.func gf) caps, args := #[.func (.yield (w.heap.size + 1)) #[] #[]] }, w2, gf, #[.func (.yield (w.heap.size + 1)) #[] #[]] ++ caps, w2, ?_, ?_, fun _ _ => trivial, ?_, fun _ => by decide, ?_⟩
  · rw [hw2, hw1, hrec]; exact run_enterLoop_outer _ _ _ _ _
  · simp only [resolve, hv]
    simp [go_sem]
  · simp only [invoke, run_callFunc hc, Sem.run_bind, Result.andThen_ok, Sem.run_pure]
  have hcall : ACall P gf (.yld σ.next :: cap) (σ.addMp (obE (.loop (lp0 #[p] assign body)) (fs.map (sub b)))) (ScB (σ.addMp (obE (.loop (lp0 #[p] assign body)) (fs.map (sub b)))) b σ.next fs rv (visit stp xs cs0).1 (.loop (nxt (lp0 #[p] assign body) (visit stp xs cs0).2))) := by
    have hfresh := hs0.w.fresh σ.next (Nat.le_refl _)
    have hne : b ≠ σ.next := fun e => by have := hfresh.2.2.2.1; rw [← e, hb] at this; cases this
    refine hsc.call (b := b) (m := σ.next) ?_ ⟨?_, hF, hI _ h0, hI _ (hvI xs cs0 (fun _ h => h) h0), hrv, hb, upd_same _ _ _, ?_, hbs, hfresh.2.2.2.1, hfresh.2.2.2.2.2⟩
    · simp only [List.map_cons, subA, List.cons.injEq, true_and]
      conv => rhs; rw [← List.map_id cap]
      exact List.map_congr_left fun c hcc => by have := hcap c hcc; cases this <;> rfl
    · intro v hv
      rcases List.mem_cons.1 hv with rfl | hv
      · exact .inr (.inr rfl)
      · exact .inl (hcap v hv)
    · show upd σ.mp σ.next _ b = none
      rw [upd_ne _ _ hne]; exact hbm
  have hargs : RepL G2 w2 (.yld σ.next :: cap) ((#[.func (.yield (w.heap.size + 1)) #[] #[]] : Array Value) ++ caps).toList := by
    rw [Array.toList_append]
    exact repL_cons (.yld _ _ (by rw [← hz1]; exact hgm)) (hcv.mono hl02)
  refine wideR_callsIn.2 (Calls.mono (hcall G2 w2 _ hargs hes2) fun e w3 he => ?_)
  cases e with
  | panicked c => exact he.elim
  | outgrown => exact he.elim
  | returned v =>
    obtain ⟨r', G3, σ3, hl3, hw3, _, _, n, hnn, rfl⟩ := he
    obtain ⟨μ3, r3, g3, hh3, hr3, hrep3, turn3⟩ := rec_turn hw3 (m := σ.next) (r0 := nxt (lp0 #[p] assign body) (visit stp xs cs0).2) (fs := fs.map (sub b)) (upd_same _ _ _)
    obtain rfl : μ3 = w.heap.size + 1 := by rw [← hz1]; exact Option.some.inj (g3.symm.trans (hl3.mp _ _ hgm))
    obtain ⟨hl4, hw4⟩ := turn3 { r3 with state := .exhausted } rfl
    have hnb : r3.state ≠ .busy := by
      have : (erL r3).state = (nxt (lp0 #[p] assign body) (visit stp xs cs0).2).state := congrArg Loop.state hr3
      replace this : r3.state = _ := this
      rw [this]; cases (visit stp xs cs0).2 <;> simp [nxt, lp0]
    have hpend : r3.pending = (visit stp xs cs0).2 := by
      have : (erL r3).pending = (nxt (lp0 #[p] assign body) (visit stp xs cs0).2).pending := congrArg Loop.pending hr3
      replace this : r3.pending = _ := this
      rw [this]; cases (visit stp xs cs0).2 <;> rfl
    obtain ⟨jmp, hjmp⟩ : ∃ jmp, jmp = r3.pending := ⟨_, rfl⟩
    have hrun : (Instr.endLoop (w.heap.size + 1)).run P w3 = .ok jmp (w3.putObj (w.heap.size + 1) (.loop { r3 with state := .exhausted })) := by rw [hjmp]; exact run_endLoop hh3 hnb
    refine ⟨jmp, _, hrun, ?_⟩
    have hle : Le G w G3 (w3.putObj (w.heap.size + 1) (.loop { r3 with state := .exhausted })) := hl02.trans (hl3.trans hl4)
    have hsim : Sim G3 fr { σ with bx := upd σ.bx b (some (visit stp xs cs0).1), next := n } mkD { a with defers := [colD w.heap.size] ++ a.defers } (w3.putObj (w.heap.size + 1) (.loop { r3 with state := .exhausted })) := by
      refine ⟨hs0.tmps.mono hle, ?_, hw4.less ⟨fun _ _ e => e, fun i es e => ?_, fun _ _ e => e, Nat.le_refl _⟩⟩
      · rcases hs0.defers.mono hle with ⟨h1, _⟩ | ⟨_, ms, h1, h2, h3⟩
        · exact absurd rfl h1
        · rcases hs0.defers with ⟨h4, _⟩ | ⟨_, ms0, h4, h5, h6⟩
          · exact absurd rfl h4
          have hst : (G.addSt q).st w.heap.size 0 := .inr (by rw [hq])
          refine .inr ⟨rfl, w.heap.size :: ms0, by show colD w.heap.size :: a.defers = _; rw [h4]; rfl, List.nodup_cons.2 ⟨fun hm => ?_, h5⟩, fun μ hm => ?_⟩
          · have := (Array.getElem?_eq_some_iff.1 (h6 _ hm).2.2).1; omega
          · rcases List.mem_cons.1 hm with rfl | hm
            · refine ⟨by rw [hle.base]; exact hs0.w.base.le, (hl2.trans (hl3.trans hl4)).st _ _ hst, ?_⟩
              rw [(hl2.trans (hl3.trans hl4)).cell _ _ hst, hw1]
              exact World.alloc_heap_new _ _
            · have := h6 μ hm
              exact ⟨by rw [hle.base]; exact this.1, hle.st _ _ this.2.1, (hle.cell _ _ this.2.1).trans this.2.2⟩
      · show upd (upd (upd σ.mp σ.next _) σ.next _) σ.next _ i = some es
        have e' : σ.mp i = some es := e
        have hne : i ≠ σ.next := fun e2 => by have := (hs0.w.fresh σ.next (Nat.le_refl _)).2.2.2.2.1; rw [← e2, e'] at this; cases this
        rw [upd_ne _ _ hne, upd_ne _ _ hne, upd_ne _ _ hne]; exact e'
    have hnn' : σ.next ≤ n := Nat.le_trans (Nat.le_succ _) hnn
    rw [hjmp.trans hpend]
    cases hj : (visit stp xs cs0).2 with
    | none => exact ⟨G3, fr, _, hle, hsim, hn hj n hnn'⟩
    | some c =>
      have := hs c hj n hnn' rd hfit G3 _ _ hsim
      exact wpIn_mono this fun e a w h => lift_le hle h
/-! ### within an iterator -/
/-- One variable, one record, and what comes next. -/
def ystN (cs : List AV) (es : List (AV × AV)) (n : Nat) : ASt := ⟨fun b => if b = 0 then some cs else none, fun b => if b = 1 then some es else none, fun _ => none, n⟩
@[simp] theorem ystN_bx (cs es n) (b : Nat) : (ystN cs es n).bx b = if b = 0 then some cs else none := rfl
@[simp] theorem ystN_mp (cs es n) (b : Nat) : (ystN cs es n).mp b = if b = 1 then some es else none := rfl
@[simp] theorem ystN_sl (cs es n) (b : Nat) : (ystN cs es n).sl b = none := rfl
@[simp] theorem ystN_next (cs es n) : (ystN cs es n).next = n := rfl
theorem yst_N (cs es) : yst cs es = ystN cs es 2 := rfl
theorem le_ystN {cs es n} (h0 : σ.bx 0 = some cs) (h1 : σ.mp 1 = some es) (hn : σ.next ≤ n) : (ystN cs es n).Le σ where
  bx := fun b c e => by
    simp only [ystN_bx] at e
    split at e
    · rename_i hb; subst hb; rw [h0]; exact e
    · cases e
  mp := fun b c e => by
    simp only [ystN_mp] at e
    split at e
    · rename_i hb; subst hb; rw [h1]; exact e
    · cases e
  sl := fun b c e => by cases e
  next := hn
theorem sub0 {fs : List AV} : fs.map (sub 0) = fs := by
  conv => rhs; rw [← List.map_id fs]
  exact List.map_congr_left fun v _ => by
    unfold sub
    split <;> rfl
variable {ops : Array Oper} {o : Oper} {rest : List Oper} {D : List Deferred}
/-- A call of yield, next in a run, within an iterator. -/
theorem awl_yieldN (mu : List Nat) {f : Operand} {aa : Array Operand} {ts : Array TypeId} (ho : o.op = .call { callee := .value f, args := aa, argTypes := ts }) (hw : awanted ops o fr = some true) (hf : aev fr f = .yld 1) {args : List AV} (ha : aa.toList.map (aev fr) = args)
    {cs cs' : List AV} {ob ob' : Obj} {fs : List AV} {r : AV} (h : SY P args cs ob fs r cs' ob') (hargs : ∀ v ∈ args, Cl v) (hfs : ∀ v ∈ fs, F0 v) (hcs : ∀ v ∈ cs, Cl v) (hcs' : ∀ v ∈ cs', Cl v) (hr : Cl r)
    (hb : σ.bx 0 = some cs) (hm : σ.mp 1 = some (obE ob fs)) (hbm : σ.mp 0 = none) (hbs : σ.sl 0 = none) (hmx : σ.bx 1 = none) (hms : σ.sl 1 = none)
    (hk : ∀ n, σ.next ≤ n → Shut (ARun P D ops Q mu rest (aput fr o.dst r) (ystN cs' (obE ob' fs) n))) : AWL P D ops Q (o :: rest) fr σ := by
  have e : args.map (subA 0 1) = args := by
    conv => rhs; rw [← List.map_id args]
    exact List.map_congr_left fun v hv => by have := hargs v hv; cases this <;> rfl
  refine awl_yield ho hw hf ha ((h.call e ⟨fun v hv => .inl (hargs v hv), hfs, hcs, hcs', hr, hb, by rw [sub0]; exact hm, hbm, hbs, hmx, hms⟩).mono ?_)
  rintro r' σ' ⟨rfl, n, hn, rfl⟩
  exact (awl_run' mu (hk n hn)).less (le_ystN (by simp [upd]) (by rw [sub0]; simp [upd]) (Nat.le_refl _))
theorem awl_scN (mu : List Nat) {f : Operand} {aa : Array Operand} {ts : Array TypeId} (ho : o.op = .call { callee := .value f, args := aa, argTypes := ts }) (hw : awanted ops o fr = some true)
    {F : FuncId} {first cap : List AV} (hf : acallee (aev fr f) = some (F, first, cap)) (hc : callable P F = true) {args : List AV} (ha : first ++ aa.toList.map (aev fr) ++ cap = args)
    {cs cs' : List AV} {ob ob' : Obj} {fs : List AV} {r : AV} (h : SC P F args cs ob fs r cs' ob') (hargs : ∀ v ∈ args, Cl v ∨ v = .yld 1) (hfs : ∀ v ∈ fs, F0 v) (hcs : ∀ v ∈ cs, Cl v) (hcs' : ∀ v ∈ cs', Cl v) (hr : Cl r)
    (hb : σ.bx 0 = some cs) (hm : σ.mp 1 = some (obE ob fs)) (hbm : σ.mp 0 = none) (hbs : σ.sl 0 = none) (hmx : σ.bx 1 = none) (hms : σ.sl 1 = none)
    (hk : ∀ n, σ.next ≤ n → Shut (ARun P D ops Q mu rest (aput fr o.dst r) (ystN cs' (obE ob' fs) n))) : AWL P D ops Q (o :: rest) fr σ := by
  have e : args.map (subA 0 1) = args := by
    conv => rhs; rw [← List.map_id args]
    exact List.map_congr_left fun v hv => by
      rcases hargs v hv with h | rfl
      · cases h <;> rfl
      · rfl
  refine awl_acall ho hw hf hc ha ((h.call e ⟨fun v hv => (hargs v hv).imp id .inr, hfs, hcs, hcs', hr, hb, by rw [sub0]; exact hm, hbm, hbs, hmx, hms⟩).mono ?_)
  rintro r' σ' ⟨rfl, n, hn, rfl⟩
  exact (awl_run' mu (hk n hn)).less (le_ystN (by simp [upd]) (by rw [sub0]; simp [upd]) (Nat.le_refl _))
theorem f0_nil : ∀ v ∈ ([] : List AV), F0 v := fun _ h => nomatch h
theorem f0_cons {v : AV} {l : List AV} (h : F0 v) (t : ∀ v ∈ l, F0 v) : ∀ u ∈ v :: l, F0 u := fun u hu => by
  rcases List.mem_cons.1 hu with rfl | hu
  · exact h
  · exact t u hu
theorem sc_of {f : FuncId} {fn : Func} {c : Code} {n : Nat} {args cs cs' fs : List AV} {ob ob' : Obj} {r : AV} (hf : P.funcs[f]? = some fn) (hn : fn.ntmps = n) (hb : fn.body = some c)
    (h : AW P [] c (RetQ P fn (ScR fs r cs' ob')) (args ++ List.replicate (n - args.length) (.p undef)) (ystN cs (obE ob fs) 2)) : SC P f args cs ob fs r cs' ob' := acall_of hf hn hb h
end Go.AL
/-! Contracts: shape.walk. -/
namespace Go.AL
open Go.Proofs
set_option linter.unusedSimpArgs false
set_option linter.unusedVariables false
mutual
def partsT : Tree → List Tree
  | .mk k n a b c d w ks => .mk k n a b c d w ks :: partsTs ks
def partsTs : List Tree → List Tree
  | [] => []
  | t :: ts => partsT t ++ partsTs ts
end
theorem partsTs_append : ∀ l m : List Tree, partsTs (l ++ m) = partsTs l ++ partsTs m
  | [], m => by simp [partsTs]
  | t :: l, m => by rw [List.cons_append, partsTs, partsTs, partsTs_append l m, List.append_assoc]
theorem partsTs_take {l : List Tree} {i : Nat} (h : i < l.length) : partsTs (l.take (i + 1)) = partsTs (l.take i) ++ partsT l[i] := by
  rw [List.take_add_one, List.getElem?_eq_getElem h, partsTs_append]; simp [partsTs]
theorem partsTs_mem : ∀ {l : List Tree} {t x : Tree}, t ∈ l → x ∈ partsT t → x ∈ partsTs l
  | u :: l, t, x, h, hx => by
    rw [partsTs]
    rcases List.mem_cons.1 h with rfl | h
    · exact List.mem_append_left _ hx
    · exact List.mem_append_right _ (partsTs_mem h hx)
theorem partsTs_take_mem {l : List Tree} {i : Nat} {x : Tree} (h : x ∈ partsTs (l.take i)) : x ∈ partsTs l := by
  have := partsTs_append (l.take i) (l.drop i)
  rw [List.take_append_drop] at this; rw [this]; exact List.mem_append_left _ h
section
set_option linter.unusedVariables false
variable (stp : List AV → Tree → List AV × Option Code) (xs : List Tree) (I : List AV → Prop) (fs : List AV) (lp : Loop)
theorem visit_inv {stp : List AV → Tree → List AV × Option Code} {xs : List Tree} {I : List AV → Prop} (hIs : ∀ cs, I cs → ∀ x ∈ xs, I (stp cs x).1) : ∀ (l : List Tree) (cs : List AV), (∀ x ∈ l, x ∈ xs) → I cs → I (visit stp l cs).1
  | [], cs, _, h => h
  | x :: l, cs, hl, h => by
    have h1 := hIs cs h x (hl x List.mem_cons_self)
    simp only [visit]
    cases h2 : stp cs x with
    | mk cs' j =>
      rw [h2] at h1
      cases j with
      | none => exact visit_inv hIs l cs' (fun y hy => hl y (List.mem_cons_of_mem _ hy)) h1
      | some c => exact h1
def WalkP (t : Tree) : Prop := t.sh → (∀ x ∈ partsT t, x ∈ xs) → ∀ cs, I cs →
  SC Try.prog 73 [t.av, .yld 1] cs (.loop lp) fs (vb (visit stp (partsT t) cs).2.isNone) (visit stp (partsT t) cs).1 (.loop (nxt lp (visit stp (partsT t) cs).2))
set_option maxHeartbeats 8000000 in
set_option maxRecDepth 100000 in
theorem walk_ok (hfs : ∀ v ∈ fs, F0 v) (hI : ∀ cs, I cs → ∀ c ∈ cs, Cl c) (hIs : ∀ cs, I cs → ∀ x ∈ xs, I (stp cs x).1)
    (HY : ∀ cs, I cs → ∀ x ∈ xs, SY Try.prog [x.av] cs (.loop lp) fs (vb (stp cs x).2.isNone) (stp cs x).1 (.loop (nxt lp (stp cs x).2))) : ∀ t, WalkP stp xs I fs lp t := by
  refine Tree.byKids fun k n a b c d w ks ih => ?_
  intro hsh hxs cs hcs
  rw [Tree.sh, shs_all] at hsh
  obtain ⟨hlk, hsh⟩ := hsh
  have hl := avs_len ks
  have hx0 : (.mk k n a b c d w ks : Tree) ∈ xs := hxs _ (by rw [partsT]; exact List.mem_cons_self)
  have hy := HY cs hcs _ hx0
  have hI1 := hIs cs hcs _ hx0
  rw [partsT] at hxs ⊢
  simp only [visit]
  generalize hT : (.mk k n a b c d w ks : Tree) = T at *
  rw [show T.av = .agg [vi k, vi n, vi a, vi b, vi c, vi d, vs w, .vsl (avs ks)] by rw [← hT, Tree.av]] at hy ⊢
  generalize stp cs T = s1 at *
  obtain ⟨cs1, j1⟩ := s1
  refine sc_of Try.func73 Try.ntmps73 rfl ?_
  simp only [List.length_cons, List.length_nil, List.cons_append, List.nil_append, List.replicate]
  repeat' (first
    | refine aw_seq ?_
    | (refine aw_run [6] ?_; try simp -implicitDefEqProofs (maxSteps := 1000000))
    | ((first | refine awl_skip' [6] rfl ?_ | refine aw_skip ?_ | refine aw_exit ?_); try simp -implicitDefEqProofs (maxSteps := 1000000))
    | (refine aw_cond rfl (fun h => ?_) (fun h => ?_) <;> try (with_reducible first | exact ff_tt h | exact tt_ff h))
    | refine aw_block ?_
    | refine aw_ret (ret_of (.inr rfl) (by simp [Try.results73]; rfl) (Fin.of ?_))
    | refine ret_of (.inl rfl) (by simp [Try.results73]; rfl) (Fin.of ?_))
  refine awl_yieldN [] rfl rfl rfl rfl hy (by simp) hfs (hI _ hcs) (hI _ hI1) (by simp) rfl rfl rfl rfl rfl rfl ?_
  intro n1 hn1
  simp -implicitDefEqProofs
  repeat' (first
    | refine aw_seq ?_
    | (refine aw_run [6] ?_; try simp -implicitDefEqProofs (maxSteps := 1000000) [hl])
    | ((first | refine awl_skip' [6] rfl ?_ | refine aw_skip ?_ | refine aw_exit ?_); try simp -implicitDefEqProofs (maxSteps := 1000000) [hl])
    | (refine aw_cond rfl (fun h => ?_) (fun h => ?_) <;> try (with_reducible first | exact ff_tt h | exact tt_ff h))
    | refine aw_block ?_
    | refine aw_ret (ret_of (.inr rfl) (by simp [Try.results73]; rfl) (Fin.of ?_))
    | refine ret_of (.inl rfl) (by simp [Try.results73]; rfl) (Fin.of ?_))
  · obtain ⟨c, rfl⟩ := Option.isSome_iff_exists.1 h
    simp [ScR, tupOf]
  obtain rfl : j1 = none := by cases j1 <;> simp_all
  show AW _ _ _ (inBlockA 0 (thenA _ (RetQ _ _ (ScR fs (vb (visit stp (partsTs ks) cs1).2.isNone) (visit stp (partsTs ks) cs1).1 (.loop (nxt lp (visit stp (partsTs ks) cs1).2)))))) _ _
  refine aw_loopW [1, 12, 13, 14] (fun q fr σ => ∃ (i M : Nat) (cs2 : List AV), i + q = ks.length ∧ visit stp (partsTs (ks.take i)) cs1 = (cs2, none) ∧ 2 ≤ M ∧ σ = ystN cs2 (obE (.loop lp) fs) M ∧ fr = frm 23 [(1, .yld 1), (12, .vsl (avs ks)), (13, vi ks.length), (14, vi (i : Nat))]) ks.length ?_ ?_
  · exact ⟨_, le_ystN rfl rfl (Nat.le_refl _), 0, n1, cs1, by omega, by simp [partsTs, visit], hn1, rfl, by simp [hl]⟩
  · rintro q fr σ ⟨i, M, cs2, hi, hv, hM, rfl, rfl⟩
    simp -implicitDefEqProofs
    by_cases hlt : i < ks.length
    · have hlti : (i : Int) < ks.length := by omega
      obtain ⟨t, ht⟩ : ∃ t, ks[i] = t := ⟨_, rfl⟩
      have hmem : t ∈ ks := ht ▸ List.getElem_mem hlt
      have hxt : ∀ x ∈ partsT t, x ∈ xs := fun x hx => hxs x (List.mem_cons_of_mem _ (partsTs_mem hmem hx))
      have hI2 : I cs2 := by
        have := visit_inv hIs (partsTs (ks.take i)) cs1 (fun x hx => hxs x (List.mem_cons_of_mem _ (partsTs_take_mem hx))) hI1
        rw [hv] at this; exact this
      have hr := ih t hmem (hsh t hmem) hxt cs2 hI2
      have hI3 := visit_inv hIs (partsT t) cs2 hxt hI2
      have hva : visit stp (partsTs (ks.take (i + 1))) cs1 = visit stp (partsT t) cs2 := by rw [partsTs_take hlt, ht, visit_append, hv]
      have hvb : ∀ c3 j, visit stp (partsT t) cs2 = (c3, some j) → visit stp (partsTs ks) cs1 = (c3, some j) := fun c3 j h => by
        have e : partsTs ks = partsTs (ks.take (i + 1)) ++ partsTs (ks.drop (i + 1)) := by rw [← partsTs_append, List.take_append_drop]
        rw [e, visit_append, hva, h]
      have hg := avs_get hlt
      rw [ht] at hg
      have hla : i < (avs ks).length := by omega
      have wi : IntKind.i64.wrap ((i : Int) + 1) = (i : Int) + 1 := wrap_id (by omega) (by omega)
      generalize visit stp (partsT t) cs2 = s3 at *
      obtain ⟨cs3, j3⟩ := s3
      have hM0 : ¬ M = 0 := by omega
      have hM1 : ¬ M = 1 := by omega
      have hM2 : ¬ 0 = M := by omega
      have hM3 : ¬ 1 = M := by omega
      obtain ⟨tk, tn, ta, tb, tc, td, tw, tks⟩ := t
      rw [Tree.av] at hr hg
      repeat' (first
        | refine aw_seq ?_
        | (refine aw_run [6] ?_; try simp -implicitDefEqProofs (maxSteps := 1000000) [hl, hlti, hla, hg, wi])
        | ((first | refine awl_skip' [6] rfl ?_ | refine aw_skip ?_ | refine aw_exit ?_); try simp -implicitDefEqProofs (maxSteps := 1000000) [hl, hlti, hla, hg, wi])
        | (refine aw_cond rfl (fun h => ?_) (fun h => ?_) <;> try (with_reducible first | exact ff_tt h | exact tt_ff h))
        | refine aw_block ?_
        | refine aw_ret (ret_of (.inr rfl) (by simp [Try.results73]; rfl) (Fin.of ?_))
        | refine ret_of (.inl rfl) (by simp [Try.results73]; rfl) (Fin.of ?_))
      refine awl_scN [6] rfl rfl rfl (by kernel_rfl) rfl hr (by simp) hfs (hI _ hI2) (hI _ hI3) (by simp) (by simp [hM0, hM1, hM2, hM3]) (by simp [hM0, hM1, hM2, hM3]) (by simp [hM0, hM1, hM2, hM3]) (by simp [hM0, hM1, hM2, hM3]) (by simp [hM0, hM1, hM2, hM3]) (by simp [hM0, hM1, hM2, hM3]) ?_
      intro n3 hn3
      simp -implicitDefEqProofs
      have hn4 : 2 ≤ n3 := by have := hn3; simp at this; omega
      repeat' (first
        | refine aw_seq ?_
        | (refine aw_run [6] ?_; try simp -implicitDefEqProofs (maxSteps := 1000000) [hl, hlti, hla, hg, wi])
        | ((first | refine awl_skip' [6] rfl ?_ | refine aw_skip ?_ | refine aw_exit ?_); try simp -implicitDefEqProofs (maxSteps := 1000000) [hl, hlti, hla, hg, wi])
        | (refine aw_cond rfl (fun h => ?_) (fun h => ?_) <;> try (with_reducible first | exact ff_tt h | exact tt_ff h))
        | refine aw_block ?_
        | refine aw_ret (ret_of (.inr rfl) (by simp [Try.results73]; rfl) (Fin.of ?_))
        | refine ret_of (.inl rfl) (by simp [Try.results73]; rfl) (Fin.of ?_))
      · obtain ⟨c, rfl⟩ := Option.isSome_iff_exists.1 h
        rw [hvb cs3 c rfl]
        exact ⟨rfl, rfl, rfl⟩
      · obtain rfl : j3 = none := by cases j3 <;> simp_all
        exact ⟨q - 1, by omega, _, le_ystN rfl rfl (Nat.le_refl _), i + 1, by omega, n3, cs3, hva, hn4, rfl, by omega⟩
    · have hlti : ¬ (i : Int) < ks.length := by omega
      rw [List.take_of_length_le (by omega)] at hv
      rw [hv]
      repeat' (first
        | refine aw_seq ?_
        | (refine aw_run [6] ?_; try simp -implicitDefEqProofs (maxSteps := 1000000) [hl, hlti])
        | ((first | refine awl_skip' [6] rfl ?_ | refine aw_skip ?_ | refine aw_exit ?_); try simp -implicitDefEqProofs (maxSteps := 1000000) [hl, hlti])
        | (refine aw_cond rfl (fun h => ?_) (fun h => ?_) <;> try (with_reducible first | exact ff_tt h | exact tt_ff h))
        | refine aw_block ?_
        | refine aw_ret (ret_of (.inr rfl) (by simp [Try.results73]; rfl) (Fin.of ?_))
        | refine ret_of (.inl rfl) (by simp [Try.results73]; rfl) (Fin.of ?_))
      exact ⟨rfl, rfl, rfl⟩
end
end Go.AL
