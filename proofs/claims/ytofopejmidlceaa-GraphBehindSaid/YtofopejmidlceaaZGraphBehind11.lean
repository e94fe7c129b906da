/- Parts of the proof of GraphBehind: the logic, contracts, plain laws. -/
import Derived.Test.YtofopejmidlceaaZGraphBehind10
import Derived.Shelf.SlIter.Nil
import Derived.Shelf.SlIterI.Nil
/-! Ranges over functions: yield; small contracts over one variable and a loop's record; the statement. -/
namespace Go.AL
open Go.RowKit (Below)
set_option linter.unusedVariables false
set_option linter.unusedSimpArgs false
variable {P : Program} {σ : ASt} {R : AV → ASt → Prop} {D : List Deferred} {Q : Exit → List AV → ASt → Prop} {fr : List AV} {ops : Array Oper} {o : Oper} {ρ : Operand → AV}
/-! ### a call of yield -/
def AYield (P : Program) (m : Nat) (args : List AV) (σ : ASt) (R : AV → ASt → Prop) : Prop :=
  ∀ G w (vs : Array Value) μ, RepL G w args vs.toList → SimW G σ w → G.mp m = some μ →
    ∃ fn tmps assign body, (Instr.yield μ vs).run P w = .ok (.round μ fn tmps assign body) w ∧ RoundIn Fence.wide 1 P μ fn tmps assign body w (retOf (Outc G w R))
theorem AYield.mono {m args} {R' : AV → ASt → Prop} (h : AYield P m args σ R) (hr : ∀ r σ, R r σ → R' r σ) : AYield P m args σ R' := fun G w vs μ h1 h2 h3 => by
  obtain ⟨fn, tmps, assign, body, k1, k2⟩ := h G w vs μ h1 h2 h3
  exact ⟨fn, tmps, assign, body, k1, RoundIn.mono k2 fun e w' he => retOf_mono (fun v w' h => Outc.mono h hr) he⟩
/-! ### the record turns -/
/-! ### small contracts -/
/-- One variable, number 0; one record, number 1. -/
def yst (cs : List AV) (es : List (AV × AV)) : ASt := ⟨fun b => if b = 0 then some cs else none, fun b => if b = 1 then some es else none, fun _ => none, 2⟩
@[simp] theorem yst_bx (cs es) (b : Nat) : (yst cs es).bx b = if b = 0 then some cs else none := rfl
@[simp] theorem yst_mp (cs es) (b : Nat) : (yst cs es).mp b = if b = 1 then some es else none := rfl
@[simp] theorem yst_sl (cs es) (b : Nat) : (yst cs es).sl b = none := rfl
@[simp] theorem yst_next (cs es) : (yst cs es).next = 2 := rfl
def sub (b : Nat) : AV → AV
  | .ptr 0 off => .ptr b off
  | v => v
/-- Closed, but for that variable's address. -/
def F0 (v : AV) : Prop := Cl v ∨ ∃ off, v = .ptr 0 off
theorem F0.ren {b m n : Nat} {v : AV} (h : F0 v) : ren (ridx [b, m] n) v = sub b v := by
  rcases h with h | ⟨off, rfl⟩
  · rw [ren_closed _ h]; cases h <;> rfl
  · simp [Go.AL.ren, ridx, sub]
theorem F0.rens {b m n : Nat} {l : List AV} (h : ∀ v ∈ l, F0 v) : rens (ridx [b, m] n) l = l.map (sub b) := by
  rw [rens_map]; exact List.map_congr_left fun v hv => (h v hv).ren
/-- The arguments, too: that variable's address, the record's yield, what is closed. -/
def subA (b m : Nat) : AV → AV
  | .ptr 0 off => .ptr b off
  | .yld 1 => .yld m
  | v => v
def A0 (v : AV) : Prop := Cl v ∨ (∃ off, v = .ptr 0 off) ∨ v = .yld 1
theorem A0.rens {b m n : Nat} {l : List AV} (h : ∀ v ∈ l, A0 v) : rens (ridx [b, m] n) l = l.map (subA b m) := by
  rw [rens_map]
  refine List.map_congr_left fun v hv => ?_
  rcases h v hv with h | ⟨off, rfl⟩ | rfl
  · rw [ren_closed _ h]; cases h <;> rfl
  · simp [ren, ridx, subA]
  · simp [ren, ridx, subA]
def ScR (fs : List AV) (r : AV) (cs' : List AV) (o' : Obj) (r' : AV) (σ' : ASt) : Prop := r' = r ∧ σ'.bx 0 = some cs' ∧ σ'.mp 1 = some (obE o' fs)
def SC (P : Program) (f : FuncId) (args cs : List AV) (o : Obj) (fs : List AV) (r : AV) (cs' : List AV) (o' : Obj) : Prop := ACall P f args (yst cs (obE o fs)) (ScR fs r cs' o')
def SY (P : Program) (args cs : List AV) (o : Obj) (fs : List AV) (r : AV) (cs' : List AV) (o' : Obj) : Prop := AYield P 1 args (yst cs (obE o fs)) (ScR fs r cs' o')
/-- What comes of such a call. -/
def ScB (σ : ASt) (b m : Nat) (fs : List AV) (r : AV) (cs' : List AV) (o' : Obj) (r' : AV) (σ' : ASt) : Prop :=
  r' = r ∧ ∃ n, σ.next ≤ n ∧ σ' = { σ with bx := upd σ.bx b (some cs'), mp := upd σ.mp m (some (obE o' (fs.map (sub b)))), next := n }
structure ScH (σ : ASt) (b m : Nat) (args cs : List AV) (o : Obj) (fs : List AV) (r : AV) (cs' : List AV) : Prop where
  hargs : ∀ v ∈ args, A0 v
  hfs : ∀ v ∈ fs, F0 v
  hcs : ∀ v ∈ cs, Cl v
  hcs' : ∀ v ∈ cs', Cl v
  hr : Cl r
  bx : σ.bx b = some cs
  mp : σ.mp m = some (obE o (fs.map (sub b)))
  bm : σ.mp b = none
  bs : σ.sl b = none
  mx : σ.bx m = none
  ms : σ.sl m = none
theorem sc_core {b m : Nat} {args cs : List AV} {ob ob' : Obj} {fs : List AV} {r : AV} {cs' : List AV} (hh : ScH σ b m args cs ob fs r cs') {G : Ghost} {w : World} {vs : Array Value} (hv : RepL G w (args.map (subA b m)) vs.toList) (hw : SimW G σ w) :
    ∃ Gc : Ghost, SimW Gc (yst cs (obE ob fs)) w ∧ RepL Gc w args vs.toList ∧ Gc.mp 1 = G.mp m ∧ ∀ v w1, Outc Gc w (ScR fs r cs' ob') v w1 → Outc G w (ScB σ b m fs r cs' ob') v w1 := by
  have hok : σ.Ok := ⟨fun b hb => (hw.fresh b hb).2.2.2.1, fun b hb => (hw.fresh b hb).2.2.2.2.1, fun b hb => (hw.fresh b hb).2.2.2.2.2⟩
  have hbn : b < σ.next := by
    rcases Nat.lt_or_ge b σ.next with h' | h'
    · exact h'
    · have := hok.bx b h'; rw [hh.bx] at this; cases this
  have hmn : m < σ.next := by
    rcases Nat.lt_or_ge m σ.next with h' | h'
    · exact h'
    · have := hok.mp m h'; rw [hh.mp] at this; cases this
  have hne : b ≠ m := fun e => by have := hh.mp; rw [← e, hh.bm] at this; cases this
  obtain ⟨Gc, h1, h2, h3, h4⟩ := frame_core (σ := σ) (σc := yst cs (obE ob fs)) (args := args) [b, m] rfl ⟨fun i hi => if_neg (by simp at hi; omega), fun i hi => if_neg (by simp at hi; omega), fun _ _ => rfl⟩
    (by simp; exact ⟨hbn, hmn⟩) (by simp [hne]) (fun i cs0 e => by
      simp only [yst_bx] at e
      split at e
      · rename_i hi; subst hi
        obtain rfl := Option.some.inj e
        rw [rens_closed hh.hcs]; simpa [ridx] using hh.bx
      · cases e) (fun i es e => by
      simp only [yst_mp] at e
      split at e
      · rename_i hi; subst hi
        obtain rfl := Option.some.inj e
        rw [obE_ren, F0.rens hh.hfs]; simpa [ridx] using hh.mp
      · cases e) (fun i xs e => by cases e) (G := G) (w := w) (vs := vs) (by rw [A0.rens hh.hargs]; exact hv) hw
  refine ⟨Gc, h1, h2, by rw [h3]; simp [ridx], fun v w1 ho => ?_⟩
  -- of what comes behind, only these two are kept
  have ho2 : Outc Gc w (fun r' τ => ∃ n, τ = ⟨fun i => if i = 0 then some cs' else none, fun i => if i = 1 then some (obE ob' fs) else none, fun _ => none, n⟩ ∧ r' = r) v w1 := ho.low fun r' τ ⟨e1, e2, e3⟩ =>
    ⟨⟨fun i => if i = 0 then some cs' else none, fun i => if i = 1 then some (obE ob' fs) else none, fun _ => none, τ.next⟩, ⟨fun i c e => (by
        dsimp only at e
        split at e
        · rename_i hi; subst hi; rw [e2]; exact e
        · cases e), fun i c e => (by
        dsimp only at e
        split at e
        · rename_i hi; subst hi; rw [e3]; exact e
        · cases e), fun i c e => (by cases e), Nat.le_refl _⟩, τ.next, rfl, e1⟩
  have ho3 := h4 _ v w1 ho2
  refine ho3.mono fun r' σ' ⟨rc, τ, ⟨n, e1, e2⟩, e3, e4⟩ => ?_
  subst e2
  refine ⟨by rw [e3, ren_closed _ hh.hr], σ.next + (τ.next - 2), by omega, ?_⟩
  rw [e4, e1]
  unfold back
  have inv0 : ∀ c, rinv [b, m] σ.next c = if σ.next ≤ c then some (2 + (c - σ.next)) else if c = b then some 0 else if c = m then some 1 else none := by
    intro c
    unfold rinv
    split
    · rfl
    · simp [rfind]
  congr 1
  · funext c
    dsimp only
    rw [inv0]
    unfold upd
    by_cases h1 : σ.next ≤ c
    · rw [if_pos h1, if_neg (by omega), hok.bx c h1]
      show Option.map _ (if 2 + (c - σ.next) = 0 then some cs' else none) = none
      rw [if_neg (by omega)]; rfl
    · rw [if_neg h1]
      by_cases h2 : c = b
      · subst h2
        rw [if_pos rfl, if_pos rfl]
        show Option.map _ (some cs') = _
        rw [Option.map_some, rens_closed hh.hcs']
      · rw [if_neg h2, if_neg h2]
        by_cases h3 : c = m
        · subst h3
          rw [if_pos rfl, hh.mx]; rfl
        · rw [if_neg h3]
  · funext c
    dsimp only
    rw [inv0]
    unfold upd
    by_cases h1 : σ.next ≤ c
    · rw [if_pos h1, if_neg (by omega), hok.mp c h1]
      show Option.map _ (if 2 + (c - σ.next) = 1 then some (obE ob' fs) else none) = none
      rw [if_neg (by omega)]; rfl
    · rw [if_neg h1]
      by_cases h2 : c = b
      · subst h2
        rw [if_pos rfl, if_neg hne]
        show Option.map _ (if 0 = 1 then some (obE ob' fs) else none) = _
        rw [if_neg (by omega), hh.bm]; rfl
      · rw [if_neg h2]
        by_cases h3 : c = m
        · subst h3
          rw [if_pos rfl, if_pos rfl]
          show Option.map _ (some (obE ob' fs)) = _
          rw [Option.map_some, obE_ren, F0.rens hh.hfs]
        · rw [if_neg h3, if_neg h3]
  · funext c
    dsimp only
    rw [inv0]
    by_cases h1 : σ.next ≤ c
    · rw [if_pos h1, hok.sl c h1]; rfl
    · rw [if_neg h1]
      by_cases h2 : c = b
      · subst h2; rw [if_pos rfl, hh.bs]; rfl
      · rw [if_neg h2]
        by_cases h3 : c = m
        · subst h3; rw [if_pos rfl, hh.ms]; rfl
        · rw [if_neg h3]
theorem SC.call {f : FuncId} {b m : Nat} {args args' cs : List AV} {ob ob' : Obj} {fs : List AV} {r : AV} {cs' : List AV} (h : SC P f args cs ob fs r cs' ob') (ha : args.map (subA b m) = args') (hh : ScH σ b m args cs ob fs r cs') : ACall P f args' σ (ScB σ b m fs r cs' ob') := by
  subst ha
  intro G w vs hv hw
  obtain ⟨Gc, h1, h2, _, h4⟩ := sc_core hh hv hw
  exact Calls.mono (h Gc w vs h2 h1) fun e w' he => retOf_mono (fun v w1 ho => h4 v w1 ho) he
theorem SY.call {b m : Nat} {args args' cs : List AV} {ob ob' : Obj} {fs : List AV} {r : AV} {cs' : List AV} (h : SY P args cs ob fs r cs' ob') (ha : args.map (subA b m) = args') (hh : ScH σ b m args cs ob fs r cs') : AYield P m args' σ (ScB σ b m fs r cs' ob') := by
  subst ha
  intro G w vs μ hv hw hμ
  obtain ⟨Gc, h1, h2, h3, h4⟩ := sc_core hh hv hw
  obtain ⟨fn, tmps, assign, body, k1, k2⟩ := h Gc w vs μ h2 h1 (h3.trans hμ)
  exact ⟨fn, tmps, assign, body, k1, RoundIn.mono k2 fun e w' he => retOf_mono (fun v w1 ho => h4 v w1 ho) he⟩
end Go.AL
/-! The statement 'for x := range f'. -/
namespace Go.AL
open Go.RowKit (Below)
set_option linter.unusedVariables false
set_option linter.unusedSimpArgs false
variable {P : Program} {σ : ASt} {R : AV → ASt → Prop} {Q : Exit → List AV → ASt → Prop} {fr : List AV}
/-! ### within an iterator -/
variable {ops : Array Oper} {o : Oper} {rest : List Oper} {D : List Deferred}
end Go.AL
/-! An array's value at an index; a large array's variable. -/
namespace Go.AL
set_option linter.unusedVariables false
set_option linter.unusedSimpArgs false
variable {P : Program} {σ : ASt} {R : AV → ASt → Prop} {D : List Deferred} {Q : Exit → List AV → ASt → Prop} {fr : List AV} {ops : Array Oper} {o : Oper} {ρ : Operand → AV} {rest : List Oper}
end Go.AL
/-! Maps whose keys are structs; maps that stay as they are. -/
namespace Go.AL
open Go.RowKit (Below)
set_option linter.unusedVariables false
set_option linter.unusedSimpArgs false
variable {P : Program} {σ : ASt} {R : AV → ASt → Prop} {D : List Deferred} {Q : Exit → List AV → ASt → Prop} {fr : List AV} {ops : Array Oper} {o : Oper} {ρ : Operand → AV} {rest : List Oper}
/-! ### keys -/
/-! ### looking one up -/
theorem outc_val {G : Ghost} {w : World} {x : AV} {v : Value} (hrep : Rep G w x v) (ok b : Bool) : Rep G w (if ok = true then .tup [x, .p (.bool b)] else x) (if ok = true then .tuple #[v, .bool b] else v) := by
  cases ok with
  | false => exact hrep
  | true =>
    refine .tup _ _ rfl fun i c u a c' => ?_
    match i, a, c' with
    | 0, a, c' => cases a; cases c'; exact hrep
    | 1, a, c' => cases a; cases c'; exact .p _
/-! ### in one of one's own -/
theorem mp_real {G : Ghost} {w : World} {b : Nat} {es : List (AV × AV)} (h : MpOK G w b es) (hn : ∀ p ∈ es, p.1 ≠ noV) :
    ∃ μ ents clock, G.mp b = some μ ∧ w.heap[μ]? = some (.map ents clock) ∧ ents.size = es.length ∧
    (∀ (i : Nat) k x (e : MapEntry), es[i]? = some (k, x) → ents[i]? = some e → Rep G w k e.key ∧ Rep G w x e.val ∧ e.born < clock) ∧ (∀ (i j : Nat) (e e' : MapEntry), ents[i]? = some e → ents[j]? = some e' → e.born = e'.born → i = j) := by
  rcases h with h | ⟨μ, ob, ofr, _, _, _, rfl⟩
  · exact h
  · exact absurd rfl (hn _ List.mem_cons_self)
/-! ### it stays from now on -/
end Go.AL
/-! A map that stays, looked up by a number, a text or a truth; in regions that draw, too. -/
namespace Go.AL
open Go.RowKit (Below)
set_option linter.unusedVariables false
set_option linter.unusedSimpArgs false
variable {P : Program} {σ : ASt} {R : AV → ASt → Prop} {D : List Deferred} {Q : Exit → List AV → ASt → Prop} {fr : List AV} {ops : Array Oper} {o : Oper} {ρ : Operand → AV} {rest : List Oper}
theorem opq_lookupB {t : TypeId} {m k : Operand} {ok : Bool} (ho : o.op = .lookup t m k ok) {d : TypeDesc} {el : TypeId} (ht : tmap P t = some (d, el)) {es : List (AV × AV)} (hm : ρ m = .vmp (es.map Prod.fst) (es.map Prod.snd)) {kv : Value} (hk : ρ k = .p kv)
    {r : Option (Nat × AV)} (hf : amfind d (.p kv) es 0 = some r) {x : AV} (hx : match r with | some (_, y) => x = y | none => tzero P el = some x) (hr : R (if ok = true then .tup [x, .p (.bool r.isSome)] else x) σ) : OpQ P o ρ σ R := by
  obtain ⟨kt, u1, u2, u3⟩ := tmap_spec ht
  refine opq_v (s := fun e => Instr.lookup t (e m) (e k) ok) (fun e => by simp only [execOp, ho]) _ hr fun G e w he hw => ?_
  have hm' := he m
  rw [hm] at hm'
  have hk' := he k
  rw [hk] at hk'
  generalize hem : e m = vm at hm'
  generalize hek : e k = vk at hk'
  cases hk'
  generalize hks : es.map Prod.fst = ks at hm'
  generalize hvs : es.map Prod.snd = vs at hm'
  cases hm' with
  | vmp _ _ μ clock ents h1 h2 h3 h4 h5 h6 _ _ =>
    have hl : es.length = ents.size := by rw [← h3, ← hks, List.length_map]
    have hf := findNow_spec (G := G) (w := w) es ents.toList 0 r (by simp [hl]) (fun n k x e a c => ⟨h5 n k e (by rw [← hks, List.getElem?_map, a]; rfl) (by simpa using c), h6 n x e (by rw [← hvs, List.getElem?_map, a]; rfl) (by simpa using c)⟩) hf
    cases r with
    | none =>
      obtain ⟨i, v, hi, hv, rfl⟩ := tzero_spec hx
      refine ⟨_, ?_, outc_val (rep_ofV G w v) ok _⟩
      simp [Instr.lookup, run_underlying' u1, run_getObj_map h2, run_checkKey u2 u3, run_findKey u2 hf, run_zeroValue' hi hv]
    | some jy =>
      obtain ⟨j, y⟩ := jy
      obtain ⟨e', _, he', hre, hf⟩ := hf
      have hx' : x = y := hx
      refine ⟨_, ?_, outc_val (v := e'.val) (by rw [hx']; exact hre) ok _⟩
      simp [Instr.lookup, run_underlying' u1, run_getObj_map h2, run_checkKey u2 u3, run_findKey u2 hf]
theorem awl_lookupB (mu : List Nat) {t : TypeId} {m k : Operand} {ok : Bool} (ho : o.op = .lookup t m k ok) (hw : awanted ops o fr = some true) {d : TypeDesc} {el : TypeId} (ht : tmap P t = some (d, el)) {es : List (AV × AV)} (hm : aev fr m = .vmp (es.map Prod.fst) (es.map Prod.snd)) {kv : Value} (hk : aev fr k = .p kv)
    {r : Option (Nat × AV)} (hf : amfind d (.p kv) es 0 = some r) {x : AV} (hx : match r with | some (_, y) => x = y | none => tzero P el = some x)
    (hk2 : Shut (ARun P D ops Q mu rest (aput fr o.dst (if ok = true then .tup [x, .p (.bool r.isSome)] else x)) σ)) : AWL P D ops Q (o :: rest) fr σ :=
  awl_cons hw (opq_lookupB ho ht hm hk hf hx (awl_run' mu hk2))
end Go.AL
/-! One step of a walk, as the default of an argument: it is looked for anew wherever the lemma is used. -/
namespace Go.AL
set_option linter.unusedVariables false
set_option linter.unusedSimpArgs false
variable {P : Program} {σ : ASt} {R : AV → ASt → Prop} {D : List Deferred} {Q : Exit → List AV → ASt → Prop} {fr : List AV} {ops : Array Oper}
/-- The variables that are written. -/
inductive Mu (l : List Nat) : Prop where
  | mk
theorem aw_runM {mu : List Nat} (m : Mu mu) {id : Nat} {l : List Oper} (h : Shut (ARun P D l.toArray Q mu l fr σ)) : AW P D (.region id l.toArray false) Q fr σ := aw_run mu h
theorem aw_ymixM {mu : List Nat} (m : Mu mu) {id : Nat} {l : List Oper} (hm : P.follows .mixedOrders = true) (hB : mixB .any (preSt mu l) (postSt mu l) = true) (h : Shut (YRun P l.toArray σ (fun fr => Shut (ARun P D l.toArray Q mu (postSt mu l) fr σ)) (preSt mu l) fr)) : AW P D (.region id l.toArray true) Q fr σ := aw_ymix mu hm hB h
theorem aw_zrunM {mu : List Nat} (m : Mu mu) {id : Nat} {l : List Oper} (hm : P.follows .mixedOrders = true) (hne : l.any (zst mu []) = true) (hB : zB mu [] l = true) (h : Shut (ZRun P mu [] l (fun fr σ => Q .normal fr σ) 0 l fr σ [] [])) : AW P D (.region id l.toArray true) Q fr σ := aw_zrun mu [] hm hne hB h
theorem awl_skipM {mu : List Nat} (m : Mu mu) {o : Oper} {rest : List Oper} (hw : awanted ops o fr = some false) (hk : Shut (ARun P D ops Q mu rest (aput fr o.dst (.p undef)) σ)) : AWL P D ops Q (o :: rest) fr σ := awl_skip' mu hw hk
theorem awl_pureM {mu : List Nat} (m : Mu mu) {o : Oper} {rest : List Oper} {f : Operand} {aa : Array Operand} {ts : Array TypeId} (ho : o.op = .call { callee := .value f, args := aa, argTypes := ts }) (hw : awanted ops o fr = some true)
    {F : FuncId} {first cap : List AV} (hf : acallee (aev fr f) = some (F, first, cap)) (hc : callable P F = true) {args : List AV} (ha : first ++ aa.toList.map (aev fr) ++ cap = args) {r : AV} (h : APure P F args r) (hcl : ∀ a ∈ args, Cl a) (hr : Cl r)
    (hk : Shut (ARun P D ops Q mu rest (aput fr o.dst r) σ)) : AWL P D ops Q (o :: rest) fr σ := awl_pure' mu ho hw hf hc ha h hcl hr hk
theorem awl_pureGM {mu : List Nat} (m : Mu mu) {o : Oper} {rest : List Oper} {f : Operand} {aa : Array Operand} {ts : Array TypeId} (ho : o.op = .call { callee := .value f, args := aa, argTypes := ts }) {c : Bool} (hg : gcond ops o fr = some c)
    {F : FuncId} {first cap : List AV} (hf : acallee (peel (aev fr f)) = some (F, first, cap)) (hc : callable P F = true) {args : List AV} (ha : first ++ aa.toList.map (fun x => peel (aev fr x)) ++ cap = args) {r : AV} (h : c = true → APure P F args r)
    (hok : okS c (aev fr f) = true ∧ ∀ x ∈ aa.toList, okS c (aev fr x) = true) (hcl : ∀ a ∈ args, Cl a) (hr : Cl r)
    (hk : Shut (ARun P D ops Q mu rest (aput fr o.dst (.opt c r)) σ)) : AWL P D ops Q (o :: rest) fr σ := awl_pure_guard mu ho hg hf hc ha h hok hcl hr hk
theorem awl_boxM {mu : List Nat} (m : Mu mu) {o : Oper} {rest : List Oper} {f : Operand} {aa : Array Operand} {ts : Array TypeId} (ho : o.op = .call { callee := .value f, args := aa, argTypes := ts }) (hw : awanted ops o fr = some true)
    {F : FuncId} {first cap : List AV} (hf : acallee (aev fr f) = some (F, first, cap)) (hc : callable P F = true) {args args' cs cs' : List AV} {r : AV} {b : Nat} (h : BK P F args cs r cs') (he : first ++ aa.toList.map (aev fr) ++ cap = args') (ha : ArgBs b args args')
    (hb : σ.bx b = some cs) (hbm : σ.mp b = none) (hbs : σ.sl b = none)
    (hk : Shut (ARun P D ops Q mu rest (aput fr o.dst r) { σ with bx := upd σ.bx b (some cs') })) : AWL P D ops Q (o :: rest) fr σ := awl_boxK mu ho hw hf hc h he ha hb hbm hbs hk
theorem aw_condT {c : Operand} {x y : Code} {t : Bool} (hc : aev fr c = .p (.bool t)) (ht : t = true) (h : AW P D x Q fr σ) : AW P D (.cond c x y) Q fr σ := aw_cond hc (fun _ => h) fun e => by rw [ht] at e; cases e
theorem aw_condF {c : Operand} {x y : Code} {t : Bool} (hc : aev fr c = .p (.bool t)) (ht : t = false) (h : AW P D y Q fr σ) : AW P D (.cond c x y) Q fr σ := aw_cond hc (fun e => by rw [ht] at e; cases e) fun _ => h
/-- Into a function. -/
theorem apure_in {f : FuncId} {fn : Func} {c : Code} {n : Nat} {args : List AV} {r : AV} {K : Prop} (hf : P.funcs[f]? = some fn) (hn : fn.ntmps = n) (hb : fn.body = some c) (k : K)
    (h : K → AW P [] c (RetQ P fn fun r' _ => r' = r) (args ++ List.replicate (n - args.length) (.p undef)) σ0 := by intro k; simp only [List.length_cons, List.length_nil, List.cons_append, List.nil_append, List.replicate]; exact k) : APure P f args r := apure_of hf hn hb (h k)
theorem aw_id {c : Code} (h : AW P D c Q fr σ) : AW P D c Q fr σ := h
theorem awl_id {l : List Oper} (h : AWL P D ops Q l fr σ) : AWL P D ops Q l fr σ := h
theorem yl_id {K : List AV → Prop} {l : List Oper} (h : YL P ops σ K l fr) : YL P ops σ K l fr := h
theorem zl_id {mu imp : List Nat} {l l' : List Oper} {K : List AV → ASt → Prop} {i : Nat} {old : List ASt} {pd : List Pend} (h : ZS P mu imp l K i l' fr σ old pd) : ZS P mu imp l K i l' fr σ old pd := h
/-- A step: ms the variables that are written, F what simp may use, C contracts. -/
theorem aw_W {P Q A B : Prop} (ms : List Nat) (F : A) (C : B) (k : Q) (h : Mu ms → A → B → Shut Q → P := by
  intro m F C k
  first
  | (with_reducible refine aw_id ?_
     first
     | (refine aw_seq ?_; exact k.1; done)
     | ((first | refine aw_runM m ?_ | refine aw_ymixM m draws (by decide +kernel) ?_); (try simp -implicitDefEqProofs (maxSteps := 1000000) [F]); exact k.1; done)
     | (refine aw_zrunM m draws (by decide +kernel) (by decide +kernel) ?_; (try simp -implicitDefEqProofs (maxSteps := 1000000) [F]); (repeat first | refine zcurL (by decide +kernel) ?_ | refine zcurH (by decide +kernel) ?_ | refine zcurL' (by decide +kernel) ?_ | refine zcurH' (by decide +kernel) ?_); exact k.1; done)
     | ((first | refine aw_yrun draws (by kernel_rfl) ?_ | refine aw_skip ?_ | refine aw_exit ?_); (try simp -implicitDefEqProofs (maxSteps := 1000000) [F]); exact k.1; done)
     | (refine aw_condT rfl (by with_reducible exact rfl) ?_; exact k.1; done)
     | (refine aw_condF rfl (by with_reducible exact rfl) ?_; exact k.1; done)
     | (refine aw_block ?_; exact k.1; done)
     | (refine aw_ret (ret_of (.inr rfl) (by simp; rfl) (Fin.of ?_)); exact k.1; done))
  | (with_reducible refine awl_id ?_
     first
     | ((first
         | refine awl_skipM m rfl ?_
         | refine awl_pureGM m rfl rfl rfl (by first | assumption | kernel_rfl) rfl (fun hc => by first | exact C.1 | exact C.2.1 | exact C.2.2.1 | exact C.2.2.2.1 | exact C.2.2.2.2.1 | exact C.2.2.2.2.2.1 | exact C.2.2.2.2.2.2.1 | exact C.2.2.2.2.2.2.2.1 | exact C.2.2.2.2.2.2.2.2.1 | exact C.2.2.2.2.2.2.2.2.2.1 | apply C.1 | apply C.2.1 | apply C.2.2.1 | apply C.2.2.2.1 | apply C.2.2.2.2.1 | apply C.2.2.2.2.2.1 | apply C.2.2.2.2.2.2.1 | apply C.2.2.2.2.2.2.2.1 | apply C.2.2.2.2.2.2.2.2.1 | apply C.2.2.2.2.2.2.2.2.2.1) (by simp) (by simp) (by simp) ?_
         | refine awl_pureM m rfl rfl rfl (by first | assumption | kernel_rfl) rfl (by first | exact C.1 | exact C.2.1 | exact C.2.2.1 | exact C.2.2.2.1 | exact C.2.2.2.2.1 | exact C.2.2.2.2.2.1 | exact C.2.2.2.2.2.2.1 | exact C.2.2.2.2.2.2.2.1 | exact C.2.2.2.2.2.2.2.2.1 | exact C.2.2.2.2.2.2.2.2.2.1 | apply C.1 | apply C.2.1 | apply C.2.2.1 | apply C.2.2.2.1 | apply C.2.2.2.2.1 | apply C.2.2.2.2.2.1 | apply C.2.2.2.2.2.2.1 | apply C.2.2.2.2.2.2.2.1 | apply C.2.2.2.2.2.2.2.2.1 | apply C.2.2.2.2.2.2.2.2.2.1) (by simp) (by simp) ?_)
        (try simp -implicitDefEqProofs (maxSteps := 1000000) [F])
        exact k.1; done)
     | (refine awl_boxM m rfl rfl rfl (by first | assumption | kernel_rfl) (by first | exact C.1 | exact C.2.1 | exact C.2.2.1 | exact C.2.2.2.1 | exact C.2.2.2.2.1 | exact C.2.2.2.2.2.1 | exact C.2.2.2.2.2.2.1 | exact C.2.2.2.2.2.2.2.1 | exact C.2.2.2.2.2.2.2.2.1 | exact C.2.2.2.2.2.2.2.2.2.1 | apply C.1 | apply C.2.1 | apply C.2.2.1 | apply C.2.2.2.1 | apply C.2.2.2.2.1 | apply C.2.2.2.2.2.1 | apply C.2.2.2.2.2.2.1 | apply C.2.2.2.2.2.2.2.1 | apply C.2.2.2.2.2.2.2.2.1 | apply C.2.2.2.2.2.2.2.2.2.1) rfl (by repeat (first | exact .nil | refine .cons (.ptr _) ?_ | (apply ArgBs.cons; focus (apply ArgB.cl; simp; done)))) ?_ ?_ ?_ ?_; (iterate 3 (focus (simp [σ0]; done))); simp -implicitDefEqProofs (maxSteps := 1000000) [F]; exact k.1; done))
  | (with_reducible refine yl_id ?_
     first
     | refine yl_skip rfl ?_
     | refine yl_pureG rfl rfl rfl (by first | assumption | kernel_rfl) rfl (fun hc => by first | exact C.1 | exact C.2.1 | exact C.2.2.1 | exact C.2.2.2.1 | exact C.2.2.2.2.1 | exact C.2.2.2.2.2.1 | exact C.2.2.2.2.2.2.1 | exact C.2.2.2.2.2.2.2.1 | exact C.2.2.2.2.2.2.2.2.1 | exact C.2.2.2.2.2.2.2.2.2.1 | apply C.1 | apply C.2.1 | apply C.2.2.1 | apply C.2.2.2.1 | apply C.2.2.2.2.1 | apply C.2.2.2.2.2.1 | apply C.2.2.2.2.2.2.1 | apply C.2.2.2.2.2.2.2.1 | apply C.2.2.2.2.2.2.2.2.1 | apply C.2.2.2.2.2.2.2.2.2.1) (by simp) (by simp) (by simp) ?_
     | refine yl_pure rfl rfl rfl (by first | assumption | kernel_rfl) rfl (by first | exact C.1 | exact C.2.1 | exact C.2.2.1 | exact C.2.2.2.1 | exact C.2.2.2.2.1 | exact C.2.2.2.2.2.1 | exact C.2.2.2.2.2.2.1 | exact C.2.2.2.2.2.2.2.1 | exact C.2.2.2.2.2.2.2.2.1 | exact C.2.2.2.2.2.2.2.2.2.1 | apply C.1 | apply C.2.1 | apply C.2.2.1 | apply C.2.2.2.1 | apply C.2.2.2.2.1 | apply C.2.2.2.2.2.1 | apply C.2.2.2.2.2.2.1 | apply C.2.2.2.2.2.2.2.1 | apply C.2.2.2.2.2.2.2.2.1 | apply C.2.2.2.2.2.2.2.2.2.1) (by simp) (by simp) ?_
     (try simp -implicitDefEqProofs (maxSteps := 1000000) [F])
     exact k.1; done)
  | (with_reducible refine zl_id ?_
     first
     | refine zl_skip (by simp) rfl ?_
     | refine zl_pure_guard (by simp) rfl rfl rfl (by first | assumption | kernel_rfl) rfl (fun hc => by first | exact C.1 | exact C.2.1 | exact C.2.2.1 | exact C.2.2.2.1 | exact C.2.2.2.2.1 | exact C.2.2.2.2.2.1 | exact C.2.2.2.2.2.2.1 | exact C.2.2.2.2.2.2.2.1 | exact C.2.2.2.2.2.2.2.2.1 | exact C.2.2.2.2.2.2.2.2.2.1 | apply C.1 | apply C.2.1 | apply C.2.2.1 | apply C.2.2.2.1 | apply C.2.2.2.2.1 | apply C.2.2.2.2.2.1 | apply C.2.2.2.2.2.2.1 | apply C.2.2.2.2.2.2.2.1 | apply C.2.2.2.2.2.2.2.2.1 | apply C.2.2.2.2.2.2.2.2.2.1) (by simp) (by simp) (by simp) ?_
     | refine zl_pure (by simp) rfl rfl rfl (by first | assumption | kernel_rfl) rfl (by first | exact C.1 | exact C.2.1 | exact C.2.2.1 | exact C.2.2.2.1 | exact C.2.2.2.2.1 | exact C.2.2.2.2.2.1 | exact C.2.2.2.2.2.2.1 | exact C.2.2.2.2.2.2.2.1 | exact C.2.2.2.2.2.2.2.2.1 | exact C.2.2.2.2.2.2.2.2.2.1 | apply C.1 | apply C.2.1 | apply C.2.2.1 | apply C.2.2.2.1 | apply C.2.2.2.2.1 | apply C.2.2.2.2.2.1 | apply C.2.2.2.2.2.2.1 | apply C.2.2.2.2.2.2.2.1 | apply C.2.2.2.2.2.2.2.2.1 | apply C.2.2.2.2.2.2.2.2.2.1) (by simp) (by simp) ?_
     (try simp -implicitDefEqProofs (maxSteps := 1000000) [F])
     (repeat first | refine zcurL (by decide +kernel) ?_ | refine zcurH (by decide +kernel) ?_ | refine zcurL' (by decide +kernel) ?_ | refine zcurH' (by decide +kernel) ?_)
     exact k.1; done)
  | (refine ret_of (.inl rfl) (by simp; rfl) (Fin.of ?_); exact k.1; done)
  | ((fail_if_success (with_reducible first | refine awl_id ?_ | refine aw_id ?_ | refine yl_id ?_ | refine zl_id ?_)); (first | refine awl_id ?_ | refine aw_id ?_ | refine yl_id ?_ | refine zl_id ?_); (try simp -implicitDefEqProofs (maxSteps := 1000000) [F]); exact k.1; done)) : P := h ⟨⟩ F C ⟨k⟩
/-- A step: ms the variables that are written, F what simp may use, C contracts. -/
theorem aw_N {P Q A B : Prop} (ms : List Nat) (F : A) (C : B) (k : Q) (h : Mu ms → A → B → Shut Q → P := by
  intro m F C k
  first
  | (with_reducible refine aw_id ?_
     first
     | (refine aw_seq ?_; exact k.1; done)
     | (refine aw_runM m ?_; (try simp -implicitDefEqProofs (maxSteps := 1000000) [F]); exact k.1; done)
     | ((first | refine aw_skip ?_ | refine aw_exit ?_); (try simp -implicitDefEqProofs (maxSteps := 1000000) [F]); exact k.1; done)
     | (refine aw_condT rfl (by with_reducible exact rfl) ?_; exact k.1; done)
     | (refine aw_condF rfl (by with_reducible exact rfl) ?_; exact k.1; done)
     | (refine aw_block ?_; exact k.1; done)
     | (refine aw_ret (ret_of (.inr rfl) (by simp; rfl) (Fin.of ?_)); exact k.1; done))
  | (with_reducible refine awl_id ?_
     first
     | ((first
         | refine awl_skipM m rfl ?_
         | refine awl_pureGM m rfl rfl rfl (by first | assumption | kernel_rfl) rfl (fun hc => by first | exact C.1 | exact C.2.1 | exact C.2.2.1 | exact C.2.2.2.1 | exact C.2.2.2.2.1 | exact C.2.2.2.2.2.1 | exact C.2.2.2.2.2.2.1 | exact C.2.2.2.2.2.2.2.1 | exact C.2.2.2.2.2.2.2.2.1 | exact C.2.2.2.2.2.2.2.2.2.1 | apply C.1 | apply C.2.1 | apply C.2.2.1 | apply C.2.2.2.1 | apply C.2.2.2.2.1 | apply C.2.2.2.2.2.1 | apply C.2.2.2.2.2.2.1 | apply C.2.2.2.2.2.2.2.1 | apply C.2.2.2.2.2.2.2.2.1 | apply C.2.2.2.2.2.2.2.2.2.1) (by simp) (by simp) (by simp) ?_
         | refine awl_pureM m rfl rfl rfl (by first | assumption | kernel_rfl) rfl (by first | exact C.1 | exact C.2.1 | exact C.2.2.1 | exact C.2.2.2.1 | exact C.2.2.2.2.1 | exact C.2.2.2.2.2.1 | exact C.2.2.2.2.2.2.1 | exact C.2.2.2.2.2.2.2.1 | exact C.2.2.2.2.2.2.2.2.1 | exact C.2.2.2.2.2.2.2.2.2.1 | apply C.1 | apply C.2.1 | apply C.2.2.1 | apply C.2.2.2.1 | apply C.2.2.2.2.1 | apply C.2.2.2.2.2.1 | apply C.2.2.2.2.2.2.1 | apply C.2.2.2.2.2.2.2.1 | apply C.2.2.2.2.2.2.2.2.1 | apply C.2.2.2.2.2.2.2.2.2.1) (by simp) (by simp) ?_)
        (try simp -implicitDefEqProofs (maxSteps := 1000000) [F])
        exact k.1; done)
     | (refine awl_boxM m rfl rfl rfl (by first | assumption | kernel_rfl) (by first | exact C.1 | exact C.2.1 | exact C.2.2.1 | exact C.2.2.2.1 | exact C.2.2.2.2.1 | exact C.2.2.2.2.2.1 | exact C.2.2.2.2.2.2.1 | exact C.2.2.2.2.2.2.2.1 | exact C.2.2.2.2.2.2.2.2.1 | exact C.2.2.2.2.2.2.2.2.2.1 | apply C.1 | apply C.2.1 | apply C.2.2.1 | apply C.2.2.2.1 | apply C.2.2.2.2.1 | apply C.2.2.2.2.2.1 | apply C.2.2.2.2.2.2.1 | apply C.2.2.2.2.2.2.2.1 | apply C.2.2.2.2.2.2.2.2.1 | apply C.2.2.2.2.2.2.2.2.2.1) rfl (by repeat (first | exact .nil | refine .cons (.ptr _) ?_ | (apply ArgBs.cons; focus (apply ArgB.cl; simp; done)))) ?_ ?_ ?_ ?_; (iterate 3 (focus (simp [σ0]; done))); simp -implicitDefEqProofs (maxSteps := 1000000) [F]; exact k.1; done))
  | (refine ret_of (.inl rfl) (by simp; rfl) (Fin.of ?_); exact k.1; done)
  | ((fail_if_success (with_reducible first | refine awl_id ?_ | refine aw_id ?_)); (first | refine awl_id ?_ | refine aw_id ?_); (try simp -implicitDefEqProofs (maxSteps := 1000000) [F]); exact k.1; done)) : P := h ⟨⟩ F C ⟨k⟩
/-- A step: ms the variables that are written, F what simp may use, C contracts. -/
theorem aw_M {P Q A B : Prop} (ms : List Nat) (F : A) (C : B) (k : Q) (h : Mu ms → A → B → Shut Q → P := by
  intro m F C k
  first
  | (with_reducible refine aw_id ?_
     first
     | (refine aw_seq ?_; exact k.1; done)
     | (refine aw_runM m ?_; (try simp -implicitDefEqProofs (maxSteps := 1000000) [F]); exact k.1; done)
     | ((first | refine aw_skip ?_ | refine aw_exit ?_); (try simp -implicitDefEqProofs (maxSteps := 1000000) [F]); exact k.1; done)
     | (refine aw_condT rfl (by with_reducible exact rfl) ?_; exact k.1; done)
     | (refine aw_condF rfl (by with_reducible exact rfl) ?_; exact k.1; done)
     | (refine aw_block ?_; exact k.1; done)
     | (refine aw_ret (ret_of (.inr rfl) (by simp; rfl) (Fin.close (Fin.of ?_))); exact k.1; done))
  | (with_reducible refine awl_id ?_
     first
     | ((first
         | refine awl_skipM m rfl ?_
         | refine awl_pureGM m rfl rfl rfl (by first | assumption | kernel_rfl) rfl (fun hc => by first | exact C.1 | exact C.2.1 | exact C.2.2.1 | exact C.2.2.2.1 | exact C.2.2.2.2.1 | exact C.2.2.2.2.2.1 | exact C.2.2.2.2.2.2.1 | exact C.2.2.2.2.2.2.2.1 | exact C.2.2.2.2.2.2.2.2.1 | exact C.2.2.2.2.2.2.2.2.2.1 | apply C.1 | apply C.2.1 | apply C.2.2.1 | apply C.2.2.2.1 | apply C.2.2.2.2.1 | apply C.2.2.2.2.2.1 | apply C.2.2.2.2.2.2.1 | apply C.2.2.2.2.2.2.2.1 | apply C.2.2.2.2.2.2.2.2.1 | apply C.2.2.2.2.2.2.2.2.2.1) (by simp) (by simp) (by simp) ?_
         | refine awl_pureM m rfl rfl rfl (by first | assumption | kernel_rfl) rfl (by first | exact C.1 | exact C.2.1 | exact C.2.2.1 | exact C.2.2.2.1 | exact C.2.2.2.2.1 | exact C.2.2.2.2.2.1 | exact C.2.2.2.2.2.2.1 | exact C.2.2.2.2.2.2.2.1 | exact C.2.2.2.2.2.2.2.2.1 | exact C.2.2.2.2.2.2.2.2.2.1 | apply C.1 | apply C.2.1 | apply C.2.2.1 | apply C.2.2.2.1 | apply C.2.2.2.2.1 | apply C.2.2.2.2.2.1 | apply C.2.2.2.2.2.2.1 | apply C.2.2.2.2.2.2.2.1 | apply C.2.2.2.2.2.2.2.2.1 | apply C.2.2.2.2.2.2.2.2.2.1) (by simp) (by simp) ?_)
        (try simp -implicitDefEqProofs (maxSteps := 1000000) [F])
        exact k.1; done)
     | (refine awl_boxM m rfl rfl rfl (by first | assumption | kernel_rfl) (by first | exact C.1 | exact C.2.1 | exact C.2.2.1 | exact C.2.2.2.1 | exact C.2.2.2.2.1 | exact C.2.2.2.2.2.1 | exact C.2.2.2.2.2.2.1 | exact C.2.2.2.2.2.2.2.1 | exact C.2.2.2.2.2.2.2.2.1 | exact C.2.2.2.2.2.2.2.2.2.1 | apply C.1 | apply C.2.1 | apply C.2.2.1 | apply C.2.2.2.1 | apply C.2.2.2.2.1 | apply C.2.2.2.2.2.1 | apply C.2.2.2.2.2.2.1 | apply C.2.2.2.2.2.2.2.1 | apply C.2.2.2.2.2.2.2.2.1 | apply C.2.2.2.2.2.2.2.2.2.1) rfl (by repeat (first | exact .nil | refine .cons (.ptr _) ?_ | (apply ArgBs.cons; focus (apply ArgB.cl; simp; done)))) ?_ ?_ ?_ ?_; (iterate 3 (focus (simp [σ0]; done))); simp -implicitDefEqProofs (maxSteps := 1000000) [F]; exact k.1; done))
  | (refine ret_of (.inl rfl) (by simp; rfl) (Fin.close (Fin.of ?_)); exact k.1; done)
  | ((fail_if_success (with_reducible first | refine awl_id ?_ | refine aw_id ?_)); (first | refine awl_id ?_ | refine aw_id ?_); (try simp -implicitDefEqProofs (maxSteps := 1000000) [F]); exact k.1; done)) : P := h ⟨⟩ F C ⟨k⟩
end Go.AL
/-! Regions that draw, where two operations may stand in either order: shown for each. -/
namespace Go.AL
set_option linter.unusedVariables false
set_option linter.unusedSimpArgs false
variable {P : Program} {σ : ASt} {D : List Deferred} {Q : Exit → List AV → ASt → Prop} {fr : List AV}
/-! ### in another order of the text -/
/-- Is it one? -/
def isPerm (n : Nat) (ps : List Nat) : Bool := (decide (ps.length = n) && (List.range n).all fun i => ps.contains i) && decide ps.Nodup
section
variable {l : List Oper} {ps : List Nat} (hp : isPerm l.length ps = true)
include hp
end
end Go.AL
/-! What append hands back, closed at once. -/
namespace Go.AL
set_option linter.unusedVariables false
set_option linter.unusedSimpArgs false
variable {P : Program} {σ : ASt} {R : AV → ASt → Prop} {D : List Deferred} {Q : Exit → List AV → ASt → Prop} {fr : List AV} {ops : Array Oper} {o : Oper} {rest : List Oper}
theorem Outc.fin {G w v w'} (h : Outc G w (fun r τ => Fin R r τ) v w') : Outc G w R v w' := by
  obtain ⟨r, G1, σ1, h1, h2, h3, h4⟩ := h
  obtain ⟨r2, G2, σ2, k1, k2, k3, k4⟩ := h4 G1 w' v h2 h3
  exact ⟨r2, G2, σ2, h1.trans k1, k2, k3, k4⟩
theorem OpQ.fin {ρ : Operand → AV} (h : OpQ P o ρ σ fun r τ => Fin R r τ) : OpQ P o ρ σ R := fun G e w h1 h2 => by
  have h := h G e w h1 h2
  generalize (execOp e o).run P w = n at *
  cases n with
  | halt => exact h
  | ok n w' =>
    cases n with
    | value v => exact Outc.fin h
    | skip => exact Outc.fin h
    | enter f args => exact Calls.mono h fun e w'' he => retOf_mono (fun v w' h => Outc.fin h) he
    | round l f tmps assign body => exact RoundIn.mono h fun e w'' he => retOf_mono (fun v w' h => Outc.fin h) he
    | _ => exact h
end Go.AL
/-! delete. -/
namespace Go.AL
set_option linter.unusedVariables false
set_option linter.unusedSimpArgs false
variable {P : Program} {σ : ASt} {R : AV → ASt → Prop} {D : List Deferred} {Q : Exit → List AV → ASt → Prop} {fr : List AV} {ops : Array Oper} {o : Oper} {ρ : Operand → AV} {rest : List Oper}
end Go.AL
/-! Methods on a variable that holds a map. -/
namespace Go.AL
set_option linter.unusedVariables false
set_option linter.unusedSimpArgs false
variable {P : Program} {σ : ASt} {R : AV → ASt → Prop} {D : List Deferred} {Q : Exit → List AV → ASt → Prop} {fr : List AV} {ops : Array Oper} {o : Oper} {rest : List Oper}
/-- The variable number 0, with the map number 1. -/
def tbS (es : List (AV × AV)) : ASt := ⟨fun i => if i = 0 then some [.map 1] else none, fun i => if i = 1 then some es else none, fun _ => none, 2⟩
@[simp] theorem tbS_bx (es : List (AV × AV)) (i : Nat) : (tbS es).bx i = if i = 0 then some [.map 1] else none := rfl
@[simp] theorem tbS_mp (es : List (AV × AV)) (i : Nat) : (tbS es).mp i = if i = 1 then some es else none := rfl
@[simp] theorem tbS_sl (es : List (AV × AV)) (i : Nat) : (tbS es).sl i = none := rfl
@[simp] theorem tbS_next (es : List (AV × AV)) : (tbS es).next = 2 := rfl
/-- By its address it hands back r, and leaves es'. -/
def TC (P : Program) (f : FuncId) (args : List AV) (es : List (AV × AV)) (r : AV) (es' : List (AV × AV)) : Prop := ACall P f (.ptr 0 0 :: args) (tbS es) fun r' σ' => r' = r ∧ σ'.bx 0 = some [.map 1] ∧ σ'.mp 1 = some es'
theorem TC.call {f : FuncId} {args : List AV} {es es' : List (AV × AV)} {r : AV} {b m : Nat} (h : TC P f args es r es') (ha : ∀ a ∈ args, Cl a) (hr : Cl r) (hes : ∀ p ∈ es, Cl p.1 ∧ Cl p.2) (hes' : ∀ p ∈ es', Cl p.1 ∧ Cl p.2)
    (hne : b ≠ m) (hb : σ.bx b = some [.map m]) (hm : σ.mp m = some es) (z1 : σ.mp b = none) (z2 : σ.sl b = none) (z3 : σ.bx m = none) (z4 : σ.sl m = none) :
    ACall P f (.ptr b 0 :: args) σ fun r' σ' => r' = r ∧ σ' = { σ with mp := upd σ.mp m (some es') } := by
  refine acall_ok fun hok => ?_
  have hbn : b < σ.next := by
    rcases Nat.lt_or_ge b σ.next with h' | h'
    · exact h'
    · rw [hok.bx b h'] at hb; cases hb
  have hmn : m < σ.next := by
    rcases Nat.lt_or_ge m σ.next with h' | h'
    · exact h'
    · rw [hok.mp m h'] at hm; cases hm
  obtain ⟨ρ, hρ⟩ : ∃ ρ, ρ = ridx [b, m] σ.next := ⟨_, rfl⟩
  have r0 : ρ 0 = b := by rw [hρ]; rfl
  have r1 : ρ 1 = m := by rw [hρ]; rfl
  have h0 : ACall P f (.ptr 0 0 :: args) (tbS es) fun r' σ' => r' = r ∧ σ'.bx = (tbS es').bx ∧ σ'.mp = (tbS es').mp ∧ σ'.sl = (tbS es').sl :=
    ACall.low h fun r' τ ⟨e1, e2, e3⟩ => ⟨⟨(tbS es').bx, (tbS es').mp, (tbS es').sl, τ.next⟩, {
      bx := fun i cs e => by
        simp only [tbS_bx] at e
        split at e
        · rename_i hi; subst hi; rw [e2]; exact e
        · cases e
      mp := fun i cs e => by
        simp only [tbS_mp] at e
        split at e
        · rename_i hi; subst hi; rw [e3]; exact e
        · cases e
      sl := fun _ _ e => by cases e
      next := Nat.le_refl _ }, e1, rfl, rfl, rfl⟩
  have h1 := ACall.frame1 (σ := σ) [b, m] (h := h0) rfl ⟨fun i hi => by
      have : ¬ i = 0 := by have : 2 ≤ i := hi; omega
      simp [this], fun i hi => by
      have : ¬ i = 1 := by have : 2 ≤ i := hi; omega
      simp [this], fun _ _ => rfl⟩ (by intro x hx; simp at hx; rcases hx with rfl | rfl <;> assumption) (by simpa using hne) (fun i cs e => by
      simp only [tbS_bx] at e
      split at e
      · rename_i hi; subst hi
        obtain rfl := Option.some.inj e
        rw [← hρ]; simp [rens, ren, r0, r1, hb]
      · cases e) (fun i xs e => by
      simp only [tbS_mp] at e
      split at e
      · rename_i hi; subst hi
        obtain rfl := Option.some.inj e
        rw [← hρ, r1, hm]
        refine congrArg some ?_
        conv => lhs; rw [← List.map_id es]
        exact List.map_congr_left fun p hp => by rw [renE, ren_closed _ (hes p hp).1, ren_closed _ (hes p hp).2]; rfl
      · cases e) (fun i xs e => by cases e) (fun r' τ ⟨e1, e2, e3, e4⟩ => by
      subst e1
      refine ⟨.of_cl hr, fun i cs e hi c hc => ?_, fun i es e hi p hp => ?_, fun i xs e hi => by rw [e4] at e; cases e⟩
      · rw [e2] at e
        simp only [tbS_bx] at e
        split at e
        · obtain rfl := Option.some.inj e
          obtain rfl := List.mem_singleton.1 hc
          intro π hπ
          simp only [ren]
          rw [hπ 1 (by simp)]
        · cases e
      · rw [e3] at e
        simp only [tbS_mp] at e
        split at e
        · obtain rfl := Option.some.inj e
          exact ⟨.of_cl (hes' p hp).1, .of_cl (hes' p hp).2⟩
        · cases e)
  rw [← hρ] at h1
  have ea : rens ρ (.ptr 0 0 :: args) = .ptr b 0 :: args := by
    simp only [rens, ren, r0]
    rw [rens_cl ha]
  rw [ea] at h1
  refine h1.mono fun r' σ' ⟨rc, τ, ⟨e1, e2, e3, e4⟩, e5, e6⟩ => ?_
  subst e1
  refine ⟨by rw [e5, ren_closed _ hr], ?_⟩
  rw [e6]
  unfold back1
  have hmb : ¬ m = b := fun e => hne e.symm
  have f0 : ∀ x, rfind x [b, m] 0 = if x = b then some 0 else if x = m then some 1 else none := fun x => by
    simp only [rfind]
  have esE : es'.map (renE ρ) = es' := by
    conv => rhs; rw [← List.map_id es']
    exact List.map_congr_left fun p hp => by rw [renE, ren_closed _ (hes' p hp).1, ren_closed _ (hes' p hp).2]; rfl
  rw [← hρ]
  congr 1
  · funext x
    rw [f0, e2]
    by_cases q1 : x = b
    · subst q1; simp [rens, ren, r1, hb]
    · by_cases q2 : x = m
      · subst q2; simp [hmb, z3]
      · simp [q1, q2]
  · funext x
    rw [f0, e3]
    by_cases q1 : x = b
    · subst q1; simp [upd, hne, z1]
    · by_cases q2 : x = m
      · subst q2; simp [hmb, upd, esE]
      · simp [q1, q2, upd]
  · funext x
    rw [f0, e4]
    by_cases q1 : x = b
    · subst q1; simp [z2]
    · by_cases q2 : x = m
      · subst q2; simp [hmb, z4]
      · simp [q1, q2]
end Go.AL
/-! slices.Sorted over a map's keys: texts. -/
namespace Go.AL
open Go.Proofs Go.Maps Go.WideElems
open Go.WideShapes (sorted_perm)
open Go.RowKit (Below)
set_option linter.unusedVariables false
set_option linter.unusedSimpArgs false
variable {P : Program} {σ : ASt}
abbrev kRd : Value → Option (DataW Unit × List MemPlace) := fun _ => some (.lit (.bool true), [])
end Go.AL
/-! slices.Sorted over a map's keys: whole numbers. -/
namespace Go.AL
open Go.Proofs Go.Maps Go.WideElems
open Go.WideShapes (sorted_perm)
open Go.RowKit (Below)
set_option linter.unusedVariables false
set_option linter.unusedSimpArgs false
variable {P : Program} {σ : ASt}
def sortI (ns : List Int) : List Int := ns.mergeSort leI
theorem owns_keysI {G : Ghost} {w : World} {m μ : Nat} {kt : TypeId} (hkt : P.underlying kt = some (.int .i64)) {es : List (AV × AV)} {ns : List Int} (hk : es.map Prod.fst = ns.map fun s => .p (.int .i64 s)) (hnd : ns.Nodup) (hsz : ∀ s ∈ ns, (Lit.int .i64 s).wf = true) (hl : ns.length ≤ maxLen) (hg : G.mp m = some μ) (h : MpOK G w m es) :
    ∃ D0, w.ownsMap P kt kRd μ ns.length D0 ∧ (intKeys D0).Perm ns ∧ Maps.size D0 = ns.length := by
  rcases h with ⟨μ', ents, clock, h1, h2, h3, h4, h5⟩ | ⟨μ', o, fr, h1, h2, h3, h4⟩
  · obtain rfl := Option.some.inj (hg.symm.trans h1)
    have hlen : es.length = ns.length := by have := congrArg List.length hk; simpa using this
    have hkey : ∀ (i : Nat) e, ents[i]? = some e → ∃ s, ns[i]? = some s ∧ e.key = .int .i64 s ∧ e.born < clock := fun i e he => by
      have hi : i < es.length := by have := (Array.getElem?_eq_some_iff.1 he).1; omega
      obtain ⟨⟨k, x⟩, hx⟩ : ∃ p, es[i]? = some p := ⟨_, List.getElem?_eq_getElem hi⟩
      have hk' := congrArg (·[i]?) hk
      simp only [List.getElem?_map, hx, Option.map_some] at hk'
      cases hn : ns[i]? with
      | none => rw [hn] at hk'; cases hk'
      | some s =>
        rw [hn] at hk'
        simp only [Option.map_some, Option.some.injEq] at hk'
        subst hk'
        obtain ⟨a, _, b⟩ := h4 i _ x e hx he
        generalize e.key = q at a
        cases a
        exact ⟨s, rfl, rfl, b⟩
    have hmem : ∀ e ∈ ents.toList, ∃ s, s ∈ ns ∧ e.key = .int .i64 s ∧ e.born < clock := fun e he => by
      obtain ⟨i, hi, rfl⟩ := List.getElem_of_mem he
      obtain ⟨s, a, b, c⟩ := hkey i ents.toList[i] (by simp at hi; simp [hi])
      exact ⟨s, List.mem_of_getElem? a, b, c⟩
    have hks : ents.toList.map (·.key) = ns.map (Value.int .i64) := by
      refine List.ext_getElem? fun i => ?_
      simp only [List.getElem?_map, Array.getElem?_toList]
      cases he : ents[i]? with
      | none =>
        have : ns[i]? = none := by
          rw [List.getElem?_eq_none_iff]
          have := Array.getElem?_eq_none_iff.1 he
          omega
        rw [this]; rfl
      | some e =>
        obtain ⟨s, a, b, _⟩ := hkey i e he
        rw [a]; simp [b]
    have hrd : ∀ e ∈ ents.toList, rd P kt kRd e = some (.int .i64 (match e.key with | .int _ s => s | _ => 0), .lit (.bool true)) := fun e he => by
      obtain ⟨s, hs, e1, _⟩ := hmem e he
      have hm := hsz s hs
      simp [rd, keyOf, hkt, mapKey, e1, hm]
    have F : Fit P kt kRd ents clock := ⟨by omega, ⟨fun e he => (hmem e he).choose_spec.2.2, by
        rw [List.Nodup, List.pairwise_map]
        refine List.pairwise_iff_getElem.2 fun i j hi hj hij e => ?_
        have := h5 i j ents.toList[i] ents.toList[j] (by simp at hi; simp [hi]) (by simp at hj; simp [hj]) e
        omega, by
        rw [hks]
        exact List.Pairwise.map _ (fun a b h e => h (Value.int.inj e).2) hnd⟩, fun e he => ⟨_, hrd e he⟩⟩
    refine ⟨_, ⟨ents, clock, h2, F, by omega, rfl⟩, ?_, ?_⟩
    · refine ((sorted_perm _).map _).trans ?_
      rw [List.map_map]
      have : ents.toList.map ((fun p => Go.intOf p.1) ∘ rg P kt kRd) = (ents.toList.map (·.key)).map fun v => match v with | .int _ s => s | _ => 0 := by
        rw [List.map_map]
        refine List.map_congr_left fun e he => ?_
        simp [rg, hrd e he, Go.intOf]
      rw [this, hks, List.map_map]
      have h2 : ns.map ((fun v => match v with | .int _ s => s | _ => 0) ∘ Value.int .i64) = ns := by
        conv => rhs; rw [← List.map_id ns]
        exact List.map_congr_left fun s _ => rfl
      rw [h2]
    · rw [Maps.size_eq, (sorted_perm _).length_eq, List.length_map, Array.length_toList]
      omega
  · exfalso
    subst h4
    cases ns with
    | nil => simp [obE] at hk
    | cons s ns => simp [obE] at hk
end Go.AL
/-! What is handed back, closed to some depth: variables, maps and slices of the function's own stay as they are. -/
namespace Go.AL
open Go.RowKit (Below)
set_option linter.unusedVariables false
set_option linter.unusedSimpArgs false
variable {P : Program} {σ : ASt} {R : AV → ASt → Prop} {D : List Deferred} {Q : Exit → List AV → ASt → Prop} {fr : List AV}
def AV.isKey : AV → Bool
  | .p _ => true
  | .agg _ => true
  | _ => false
def cloE (f : AV → AV) : AV → AV
  | .agg cs => .agg (cs.map f)
  | v => f v
attribute [simp] cloE
theorem cloE_of {f : AV → AV} {x : AV} (h : ∀ cs, x ≠ .agg cs) : cloE f x = f x := by
  cases x <;> first | rfl | exact absurd rfl (h _)
def cloD (σ : ASt) : Nat → AV → AV
  | 0, v => v
  | _ + 1, .p (.slice none 0 _) => .vsl []
  | n + 1, .agg cs => .agg (cs.map (cloD σ n))
  | n + 1, .tup cs => .tup (cs.map (cloD σ n))
  | n + 1, .ptr b off => match σ.bx b with
    | some cs => .vel [.agg (cs.map (cloD σ n))] 0 off
    | none => .ptr b off
  | n + 1, .map m => match σ.mp m with
    | some es => if es.all (fun p => p.1.isKey) = true then .vmp (es.map fun p => cloD σ n p.1) (es.map fun p => cloD σ n p.2) else .map m
    | none => .map m
  | _ + 1, .hsl b off k => match σ.sl b with
    | some xs => if off + k ≤ xs.length then .vsl ((xs.drop off).take k) else .any
    | none => .hsl b off k
  | n + 1, .fn f aa bs => .fn f (aa.map (cloD σ n)) (bs.map (cloD σ n))
  | n + 1, .vel xs i off => .vel (xs.map (cloE (cloD σ n))) i off
  | _ + 1, v => v
theorem cells_one {x : AV} (h : ∀ cs, x ≠ .agg cs) : x.cells = [x] := by
  cases x with
  | agg cs => exact absurd rfl (h cs)
  | _ => rfl
theorem cloD_agg {σ : ASt} {n : Nat} {x : AV} (h : ∀ cs, x ≠ .agg cs) : ∀ cs, cloD σ n x ≠ .agg cs := by
  intro cs
  cases n with
  | zero => exact h cs
  | succ n =>
    cases x with
    | agg c => exact absurd rfl (h c)
    | p x =>
      by_cases hv : ∃ cap, x = .slice none 0 cap
      · obtain ⟨cap, rfl⟩ := hv; simp [cloD]
      · have : cloD σ (n + 1) (.p x) = .p x := by
          cases x <;> first | rfl | skip
          rename_i a l c
          cases a with
          | none => cases l with
            | zero => exact absurd ⟨_, rfl⟩ hv
            | succ n => rfl
          | some a => rfl
        rw [this]; simp
    | ptr b off => simp only [cloD]; split <;> simp
    | map m => simp only [cloD]; split <;> (try split) <;> simp
    | hsl b off k => simp only [cloD]; split <;> (try split) <;> simp
    | _ => simp [cloD]
theorem rowCell_clo (σ : ASt) (n : Nat) (xs : List AV) (i j : Nat) : rowCell (xs.map (cloE (cloD σ n))) i j = (rowCell xs i j).map (cloD σ n) := by
  unfold rowCell
  rw [List.getElem?_map]
  cases xs[i]? with
  | none => rfl
  | some x =>
    simp only [Option.map_some, Option.bind_some]
    by_cases h : ∃ cs, x = .agg cs
    · obtain ⟨cs, rfl⟩ := h
      simp [AV.cells]
    · have h' : ∀ cs, x ≠ .agg cs := fun cs e => h ⟨cs, e⟩
      rw [cloE_of h', cells_one (cloD_agg h'), cells_one h']
      cases j <;> simp
def ASt.bare (σ : ASt) : ASt := ⟨fun _ => none, fun _ => none, fun _ => none, σ.next⟩
theorem bare_le (σ : ASt) : (σ.bare).Le σ := ⟨fun _ _ h => (nomatch h), fun _ _ h => (nomatch h), fun _ _ h => (nomatch h), Nat.le_refl _⟩
theorem SimW.bare {G σ w} (h : SimW G σ w) : ∃ G', Le G w G' w ∧ SimW G' σ.bare w ∧ ∀ n v u, Rep G w v u → Rep G' w (cloD σ n v) u := by
  obtain ⟨q, hq⟩ : ∃ q : Nat → Nat → Prop, q = fun γ _ => ∃ k, Owns G σ γ k := ⟨_, rfl⟩
  have hqo : ∀ γ o, q γ o → ∃ k, Owns G σ γ k := fun γ o e => by rw [hq] at e; exact e
  have hl : Le G w (G.addSt q) w := ⟨rfl, fun _ _ e => e, fun _ _ e => e, fun _ _ e => e, fun _ _ e => .inl e, fun γ o e => e.imp id fun e => by
    obtain ⟨k, hb⟩ := hqo γ o e; exact ⟨(h.own _ _ hb).1, (h.own _ _ hb).2.2⟩, fun _ _ _ => rfl, Below.refl _ _⟩
  have hw := h.less (bare_le σ)
  refine ⟨_, hl, ⟨hw.base, fun b' cs e => (nomatch e), fun b' cs e => (nomatch e), fun b' cs e => (nomatch e), fun γ k hk => ?_, fun γ o e => ?_, fun b hb => ?_⟩, ?_⟩
  · cases hk <;> rename_i e _ <;> cases e
  · rcases e with e | e
    · exact h.stIn _ _ e
    · obtain ⟨b, hb⟩ := hqo γ o e; exact h.own_lt hb
  · obtain ⟨f1, f2, f3, _, _, _⟩ := h.fresh b hb
    exact ⟨f1, f2, f3, rfl, rfl, rfl⟩
  intro n
  induction n with
  | zero => exact fun v u hr => hr.mono hl
  | succ n ih =>
    have ihL : ∀ (cs : List AV) (vs : List Value), cs.length = vs.length → (∀ (i : Nat) c v, cs[i]? = some c → vs[i]? = some v → Rep G w c v) → ∀ (i : Nat) c v, (cs.map (cloD σ n))[i]? = some c → vs[i]? = some v → Rep (G.addSt q) w c v := fun cs vs _ hr i c v hc hv => by
      rw [List.getElem?_map] at hc
      obtain ⟨c', hc', rfl⟩ := Option.map_eq_some_iff.1 hc
      exact ih _ _ (hr i c' v hc' hv)
    intro v u hr
    have hr0 := hr.mono hl
    cases v with
    | agg cs =>
      cases hr with
      | agg _ vs hs h => exact .agg _ vs (by simpa using hs) fun i c v hc hv => ihL cs vs.toList (by simpa using hs) (fun i c v a b => h i c v a (by simpa using b)) i c v hc (by simpa using hv)
    | tup cs =>
      cases hr with
      | tup _ vs hs h => exact .tup _ vs (by simpa using hs) fun i c v hc hv => ihL cs vs.toList (by simpa using hs) (fun i c v a b => h i c v a (by simpa using b)) i c v hc (by simpa using hv)
    | fn f aa bs =>
      cases hr with
      | fn _ _ _ us vs h1 h2 h3 h4 => exact .fn f _ _ us vs (by simpa using h1) (by simpa using h2) (fun i c v hc hv => ihL aa us.toList (by simpa using h1) (fun i c v a b => h3 i c v a (by simpa using b)) i c v hc (by simpa using hv)) (fun i c v hc hv => ihL bs vs.toList (by simpa using h2) (fun i c v a b => h4 i c v a (by simpa using b)) i c v hc (by simpa using hv))
    | vel xs i off =>
      cases hr with
      | vel _ _ _ β o s val hs h hrr =>
        refine .vel _ i off β o s val (fun i x hx => ?_) (fun i j c hc => ?_) (fun i j c hc => ?_)
        · rw [List.getElem?_map] at hx
          obtain ⟨y, hy, rfl⟩ := Option.map_eq_some_iff.1 hx
          rw [← hs i y hy]
          by_cases h : ∃ cs, y = .agg cs
          · obtain ⟨cs, rfl⟩ := h; simp [AV.cells]
          · have h' : ∀ cs, y ≠ .agg cs := fun cs e => h ⟨cs, e⟩
            rw [cloE_of h', cells_one (cloD_agg h'), cells_one h']; rfl
        · rw [rowCell_clo] at hc
          obtain ⟨c', hc', rfl⟩ := Option.map_eq_some_iff.1 hc
          exact ⟨.inl (h i j c' hc').1, (h i j c' hc').2⟩
        · rw [rowCell_clo] at hc
          obtain ⟨c', hc', rfl⟩ := Option.map_eq_some_iff.1 hc
          exact ih _ _ (hrr i j c' hc')
    | ptr b off =>
      simp only [cloD]
      cases hb : σ.bx b with
      | none => exact hr0
      | some cs =>
        simp only
        obtain ⟨β, arr, el, g1, g2, g3, g4⟩ := h.bx b cs hb
        cases hr with
        | ptr _ _ β' g =>
          obtain rfl := Option.some.inj (g.symm.trans g1)
          have cell : ∀ i j c, rowCell [AV.agg (cs.map (cloD σ n))] i j = some c → i = 0 ∧ ∃ c', cs[j]? = some c' ∧ c = cloD σ n c' := by
            intro i j c hc
            unfold rowCell at hc
            obtain ⟨x, h1, h2⟩ := Option.bind_eq_some_iff.1 hc
            match i, h1 with
            | 0, h1 =>
              obtain rfl := Option.some.inj h1
              refine ⟨rfl, ?_⟩
              simp only [AV.cells, List.getElem?_map] at h2
              obtain ⟨c', hc', rfl⟩ := Option.map_eq_some_iff.1 h2
              exact ⟨c', hc', rfl⟩
          have key := Rep.vel (G := G.addSt q) (w := w) [.agg (cs.map (cloD σ n))] 0 off β' 0 cs.length (fun _ j => arr.getD j undef) (fun i x hx => by
            match i, hx with
            | 0, hx => obtain rfl := Option.some.inj hx; simp [AV.cells]) (fun i j c hc => by
            obtain ⟨rfl, c', hc', rfl⟩ := cell i j c hc
            have hj : j < arr.size := by have := (List.getElem?_eq_some_iff.1 hc').1; omega
            refine ⟨.inr (by rw [hq]; exact ⟨_, .bx b β' cs hb g⟩), ?_⟩
            rw [cell_of_heap g2]
            simp [hj]) (fun i j c hc => by
            obtain ⟨rfl, c', hc', rfl⟩ := cell i j c hc
            have hj : j < arr.size := by have := (List.getElem?_eq_some_iff.1 hc').1; omega
            simp only [Array.getD, hj, dif_pos]
            exact ih _ _ (g4 j c' _ hc' (Array.getElem?_eq_getElem hj)))
          simpa using key
    | map m =>
      simp only [cloD]
      cases hb : σ.mp m with
      | none => exact hr0
      | some es =>
        simp only
        split
        · rename_i hall
          have hno : ∀ p ∈ es, p.1 ≠ noV := fun p hp e => by
            have := List.all_eq_true.1 hall p hp
            rw [e] at this; cases this
          obtain ⟨μ, ents, clock, g1, g2, g3, g4, g5⟩ := mp_real (h.mp m es hb) hno
          cases hr with
          | map _ μ' g =>
            obtain rfl := Option.some.inj (g.symm.trans g1)
            exact .vmp _ _ μ' clock ents (.inr (by rw [hq]; exact ⟨_, .mp m μ' es hb g⟩)) g2 (by simp [g3]) (by simp [g3]) (fun i c e a c' => by
              rw [List.getElem?_map] at a
              obtain ⟨p, hp, rfl⟩ := Option.map_eq_some_iff.1 a
              exact ih _ _ (g4 i p.1 p.2 e hp c').1) (fun i c e a c' => by
              rw [List.getElem?_map] at a
              obtain ⟨p, hp, rfl⟩ := Option.map_eq_some_iff.1 a
              exact ih _ _ (g4 i p.1 p.2 e hp c').2.1) (fun i e he => by
              have hi : i < es.length := by have := (Array.getElem?_eq_some_iff.1 he).1; omega
              exact (g4 i es[i].1 es[i].2 e (by rw [List.getElem?_eq_getElem hi]) he).2.2) g5
        · exact hr0
    | hsl b off k =>
      simp only [cloD]
      cases hb : σ.sl b with
      | none => exact hr0
      | some xs =>
        simp only
        split
        · rename_i hin
          have hS := h.sl b xs hb
          cases hr with
          | hsl _ _ _ β' o' s' cap' g hle =>
            rcases hS with ⟨g1, rfl⟩ | ⟨β, o, s, cap, arr, el, g1, g2, g3, g4, g5, g6⟩
            · rw [g1] at g; cases g
            obtain ⟨rfl, rfl, rfl, rfl⟩ : β = β' ∧ o = o' ∧ s = s' ∧ cap = cap' := by rw [g] at g1; simpa using g1.symm
            have hlen : ((xs.drop off).take k).length = k := by simp; omega
            have hc0 : k ≤ cap - off := by omega
            have hc1 : ((xs.drop off).take k).length ≤ cap - off := by rw [hlen]; exact hc0
            have hin2 : ∀ i j c, rowCell ((xs.drop off).take k) i j = some c → rowCell xs (off + i) j = some c ∧ o + (off + i) * s + j < arr.size := by
              intro i j c hc
              obtain ⟨hc2, hi⟩ := rowCell_seg _ _ _ _ _ _ hc
              obtain ⟨h1, h2, h3⟩ := rowCell_lt hc2 g5
              have : xs.length * s ≤ cap * s := Nat.mul_le_mul_right _ g3.2
              exact ⟨hc2, by omega⟩
            have key := Rep.vsl (G := G.addSt q) (w := w) ((xs.drop off).take k) β (o + off * s) s (cap - off) (fun i j => arr.getD (o + (off + i) * s + j) undef) hc1 (fun i x hx => by
              rw [List.getElem?_take] at hx
              split at hx
              · rw [List.getElem?_drop] at hx; exact g5 _ _ hx
              · cases hx) (fun i j c hc => ⟨.inr (by rw [hq]; exact ⟨_, .sl b β _ xs hb g1⟩), by
              obtain ⟨_, hlt⟩ := hin2 i j c hc
              have e : o + off * s + i * s + j = o + (off + i) * s + j := by rw [Nat.add_mul]; omega
              rw [cell_of_heap g2, e]
              simp [hlt]⟩) (fun i j c hc => by
              obtain ⟨hc2, hlt⟩ := hin2 i j c hc
              have := g6 (off + i) j c _ hc2 (Array.getElem?_eq_getElem hlt)
              simp only [Array.getD, hlt, dif_pos]
              exact this.mono hl)
            rw [hlen] at key; exact key
          | hend _ _ a β' o' s' cap' g hle => simp only [List.take_zero]; exact .vnil _ _
          | hnil _ a g => simp only [List.take_zero]; exact .vnil _ _
        · exact .any _
    | p x =>
      by_cases hv : ∃ cap, x = .slice none 0 cap
      · obtain ⟨cap, rfl⟩ := hv
        cases hr
        exact .vnil none cap
      · have : cloD σ (n + 1) (.p x) = .p x := by
          cases x <;> first | rfl | skip
          rename_i a l c
          cases a with
          | none => cases l with
            | zero => exact absurd ⟨_, rfl⟩ hv
            | succ n => rfl
          | some a => rfl
        rw [this]; exact hr0
    | _ => exact hr0
theorem Fin.bare {r : AV} (n : Nat) (h : Fin R (cloD σ n r) σ.bare) : Fin R r σ := by
  intro G w v hw hr
  obtain ⟨G', h1, h2, h3⟩ := hw.bare
  obtain ⟨r', G2, σ2, k1, k2, k3, k4⟩ := h G' w v h2 (h3 n _ _ hr)
  exact ⟨r', G2, σ2, h1.trans k1, k2, k3, k4⟩
/-- In the midst of a function. -/
theorem aw_bare (n : Nat) {c : Code} (h : AW P D c Q (fr.map (cloD σ n)) σ.bare) : AW P D c Q fr σ := by
  intro _ _ G a w hs
  obtain ⟨G', h1, h2, h3⟩ := hs.w.bare
  refine wp_mono (h _ inferInstance G' a w ⟨⟨by simpa using hs.tmps.1, fun i c v hc hv => ?_⟩, hs.defers.mono h1, h2⟩) fun e a w h => lift_le h1 h
  rw [List.getElem?_map] at hc
  obtain ⟨c', hc', rfl⟩ := Option.map_eq_some_iff.1 hc
  exact h3 n _ _ (hs.tmps.2 i c' v hc' hv)
end Go.AL
