/- Parts of the proof of ArenaStays: the logic, contracts, plain laws. -/
import Derived.Test.YtofopejmidlceaaDoorZArenaStays10
import Derived.Test.YtofopejmidlceaaDoorZArenaStays8
/-! Functions with one variable of the caller's, by its address. -/
namespace Go.AL
set_option linter.unusedVariables false
set_option linter.unusedSimpArgs false
variable {P : Program} {σ : ASt} {R : AV → ASt → Prop} {D : List Deferred} {Q : Exit → List AV → ASt → Prop} {fr : List AV} {ops : Array Oper}
/-- With the variable number 0, which holds cs: it hands back r, and leaves cs'. -/
def BC (P : Program) (f : FuncId) (args cs : List AV) (r : AV) (cs' : List AV) : Prop := ACall P f args (mkSt [(0, cs)] [] 1) fun r' σ' => r' = r ∧ σ'.bx 0 = some cs'
theorem Outc.low {G w} {R R' : AV → ASt → Prop} {v w'} (h : Outc G w R v w') (hr : ∀ r σ, R r σ → ∃ τ, ASt.Le τ σ ∧ R' r τ) : Outc G w R' v w' := by
  obtain ⟨r, G', σ', h1, h2, h3, h4⟩ := h
  obtain ⟨τ, hl, h5⟩ := hr r σ' h4
  exact ⟨r, G', τ, h1, h2.less hl, h3, h5⟩
theorem ACall.low {f : FuncId} {args : List AV} {R R' : AV → ASt → Prop} (h : ACall P f args σ R) (hr : ∀ r σ, R r σ → ∃ τ, ASt.Le τ σ ∧ R' r τ) : ACall P f args σ R' :=
  fun G w vs hv hw => Calls.mono (h G w vs hv hw) fun e w' he => retOf_mono (fun v w1 ho => ho.low hr) he
theorem rens_closed {ρ : Nat → Nat} {l : List AV} (h : ∀ c ∈ l, Cl c) : rens ρ l = l := by
  rw [rens_map]; conv => rhs; rw [← List.map_id l]
  exact List.map_congr_left fun c hc => ren_closed ρ (h c hc)
/-- The arguments: the variable's own address, and what is closed. -/
inductive ArgB (b : Nat) : AV → AV → Prop where
  | ptr (off : Nat) : ArgB b (.ptr 0 off) (.ptr b off)
  | cl {x : AV} (h : Cl x) : ArgB b x x
inductive ArgBs (b : Nat) : List AV → List AV → Prop where
  | nil : ArgBs b [] []
  | cons {x y : AV} {xs ys : List AV} (h : ArgB b x y) (t : ArgBs b xs ys) : ArgBs b (x :: xs) (y :: ys)
theorem ArgBs.rens {b n : Nat} {xs ys : List AV} (h : ArgBs b xs ys) : rens (ridx [b] n) xs = ys := by
  induction h with
  | nil => rfl
  | cons h t ih =>
    cases h with
    | ptr off => simp [Go.AL.rens, ren, ridx, ih]
    | cl h => simp [Go.AL.rens, ren_closed _ h, ih]
theorem BC.call {f : FuncId} {args args' cs cs' : List AV} {r : AV} {b : Nat} (h : BC P f args cs r cs') (ha : ArgBs b args args') (hcs : ∀ c ∈ cs, Cl c) (hcs' : ∀ c ∈ cs', Cl c) (hr : Cl r) (hb : σ.bx b = some cs) (hbm : σ.mp b = none) (hbs : σ.sl b = none) :
    ACall P f args' σ fun r' σ' => r' = r ∧ σ' = { σ with bx := upd σ.bx b (some cs') } := by
  refine acall_ok fun hok => ?_
  have hbn : b < σ.next := by
    rcases Nat.lt_or_ge b σ.next with h' | h'
    · exact h'
    · rw [hok.bx b h'] at hb; cases hb
  have h0 : ACall P f args (mkSt [(0, cs)] [] 1) fun r' σ' => (r' = r ∧ σ'.bx 0 = some cs') ∧ σ'.mp 0 = none ∧ σ'.sl 0 = none := by
    refine h.low fun r' τ ⟨e1, e2⟩ => ⟨⟨τ.bx, fun _ => none, fun _ => none, τ.next⟩, ⟨fun _ _ e => e, fun _ _ e => (nomatch e), fun _ _ e => (nomatch e), Nat.le_refl _⟩, ⟨e1, e2⟩, rfl, rfl⟩
  have h1 := ACall.frame0 (σ := σ) (ids := [b]) (h := h0) rfl ⟨fun i hi => by
      have : 1 ≤ i := hi
      show List.lookup i [(0, cs)] = none
      rw [List.lookup_cons]
      have : (i == 0) = false := by simp; omega
      rw [this]; rfl, fun _ _ => rfl, fun _ _ => rfl⟩ (by simpa using hbn) (by simp) (fun i cs0 e => by
      have h2 : (0, cs) = (i, cs0) ∨ False := by
        have := lookup_mem (l := [(0, cs)]) (b := i) (c := cs0) e
        simp at this
        exact .inl (by rw [this.1, this.2])
      simp only [or_false, Prod.mk.injEq] at h2
      obtain ⟨rfl, rfl⟩ := h2
      rw [rens_closed hcs]
      simpa [ridx] using hb) (fun i es e => by cases e) (fun i xs e => by
      have : List.lookup i ([] : List (Nat × List AV)) = some xs := e
      cases this) (fun r' τ ⟨⟨e1, e2⟩, e3, e4⟩ => by
      subst e1
      refine ⟨hr, fun i cs0 e hi => ?_, fun i es e hi => ?_, fun i xs e hi => ?_⟩
      all_goals
        obtain rfl : i = 0 := by simp at hi; omega
      · rw [e2] at e; obtain rfl := Option.some.inj e; exact hcs'
      · rw [e3] at e; cases e
      · rw [e4] at e; cases e)
  rw [ha.rens] at h1
  refine h1.mono fun r' σ' ⟨τ, ⟨⟨e1, e2⟩, e3, e4⟩, e5⟩ => ⟨e1, ?_⟩
  rw [e5]
  unfold back0
  congr 1
  · funext c
    unfold upd
    by_cases hc : c = b
    · subst hc; simp [rfind, e2]
    · simp [rfind, hc]
  · funext c
    by_cases hc : c = b
    · subst hc; simp [rfind, e3, hbm]
    · simp [rfind, hc]
  · funext c
    by_cases hc : c = b
    · subst hc; simp [rfind, e4, hbs]
    · simp [rfind, hc]
/-- Such a call, next in a run. -/
theorem awl_box {o : Oper} {rest : List Oper} {f : Operand} {aa : Array Operand} {ts : Array TypeId} (mu : List Nat) (ho : o.op = .call { callee := .value f, args := aa, argTypes := ts }) (hw : awanted ops o fr = some true)
    {F : FuncId} {first cap : List AV} (hf : acallee (aev fr f) = some (F, first, cap)) (hc : callable P F = true) {args args' cs cs' : List AV} {r : AV} {b : Nat} (h : BC P F args cs r cs') (he : first ++ aa.toList.map (aev fr) ++ cap = args') (ha : ArgBs b args args')
    (hcs : ∀ c ∈ cs, Cl c) (hcs' : ∀ c ∈ cs', Cl c) (hr : Cl r) (hb : σ.bx b = some cs) (hbm : σ.mp b = none) (hbs : σ.sl b = none)
    (hk : Shut (ARun P D ops Q mu rest (aput fr o.dst r) { σ with bx := upd σ.bx b (some cs') })) : AWL P D ops Q (o :: rest) fr σ :=
  awl_cons hw (opq_call ho hf hc (by rw [he]; exact (h.call ha hcs hcs' hr hb hbm hbs).mono fun r' τ' ⟨e1, e2⟩ => by subst e1; subst e2; exact awl_run' mu hk))
end Go.AL
/-! What is not carried out, in regions that draw their order. -/
namespace Go.AL
set_option linter.unusedVariables false
set_option linter.unusedSimpArgs false
variable {P : Program} {σ : ASt} {R : AV → ASt → Prop} {D : List Deferred} {Q : Exit → List AV → ASt → Prop} {fr : List AV} {ops : Array Oper}
theorem yld_not {o : Oper} (hc : gcond ops o fr = some false) : Yld P ops σ o fr (.opt false (.p undef)) := by
  intro G a w ha hw
  have hg := gcond_agree hc ha
  exact ⟨fun h => by rw [hg] at h; (cases h), fun _ => .opt false _ _ (fun h => by cases h) fun _ => rfl⟩
theorem yl_skip {K : List AV → Prop} {o : Oper} {rest : List Oper} (hc : gcond ops o fr = some false) (hk : Shut (YRun P ops σ K rest (aput fr o.dst (.opt false (.p undef))))) : YL P ops σ K (o :: rest) fr :=
  ⟨_, yld_not hc, yl_run hk.out⟩
theorem zl_skip {mu imp : List Nat} {l : List Oper} {K : List AV → ASt → Prop} {i : Nat} {old : List ASt} {pd : List Pend} {o : Oper} {rest : List Oper} (hz : zst mu imp o = false) (hc : gcond l.toArray o fr = some false)
    (hk : Shut (ZRun P mu imp l K (i + 1) rest (aput fr o.dst (.opt false (.p undef))) σ old pd)) : ZS P mu imp l K i (o :: rest) fr σ old pd := by
  intro hok
  unfold ZL; rw [if_neg (by rw [hz]; decide)]
  exact ⟨_, .inl ⟨fun σ' => yld_not hc, zl_run hk.out hok⟩⟩
/-- Such a contract, over what is closed. -/
structure BK (P : Program) (f : FuncId) (args cs : List AV) (r : AV) (cs' : List AV) : Prop where
  call : BC P f args cs r cs'
  cl : ∀ c ∈ cs, Cl c
  cl' : ∀ c ∈ cs', Cl c
  clr : Cl r
theorem awl_boxK {o : Oper} {rest : List Oper} {f : Operand} {aa : Array Operand} {ts : Array TypeId} (mu : List Nat) (ho : o.op = .call { callee := .value f, args := aa, argTypes := ts }) (hw : awanted ops o fr = some true)
    {F : FuncId} {first cap : List AV} (hf : acallee (aev fr f) = some (F, first, cap)) (hc : callable P F = true) {args args' cs cs' : List AV} {r : AV} {b : Nat} (h : BK P F args cs r cs') (he : first ++ aa.toList.map (aev fr) ++ cap = args') (ha : ArgBs b args args')
    (hb : σ.bx b = some cs) (hbm : σ.mp b = none) (hbs : σ.sl b = none)
    (hk : Shut (ARun P D ops Q mu rest (aput fr o.dst r) { σ with bx := upd σ.bx b (some cs') })) : AWL P D ops Q (o :: rest) fr σ :=
  awl_box mu ho hw hf hc h.call he ha h.cl h.cl' h.clr hb hbm hbs hk
end Go.AL
/-! append of nothing; all that is one's own stays as it is. -/
namespace Go.AL
open Go.RowKit (Below)
set_option linter.unusedVariables false
set_option linter.unusedSimpArgs false
variable {P : Program} {σ : ASt} {R : AV → ASt → Prop} {D : List Deferred} {Q : Exit → List AV → ASt → Prop} {fr : List AV} {ops : Array Oper} {o : Oper} {ρ : Operand → AV}
theorem run_append0 {t el ty : TypeId} {n : Nat} {g : Bool} (ht : P.underlying t = some (.slice el)) (hn : tsize P el = some (n, g)) {b a : Option Addr} {l c c2 : Nat} (hle : l ≤ c) (w : World) :
    (Builtin.append_ #[t, t] ty #[.slice b l c, .slice a 0 c2]).run P w = .ok (.slice b l c) w := by
  unfold Builtin.append_
  have h1 := run_underlying' ht w
  have h2 := run_sizeOf' hn w
  cases a <;> cases b <;> simp [h1, h2, Builtin.lenOf, Builtin.firstCells, loadCells, loadCellsFrom, storeCells, hle]
theorem opq_append0 {s x : Operand} {t el : TypeId} (ho : o.op = .call { callee := .builtin .append, args := #[s, x], argTypes := #[t, t] }) {b off k n : Nat} {g : Bool}
    (hs : ρ s = .hsl b off k) (hx : ρ x = .vsl [] ∨ ∃ c, ρ x = .p (.slice none 0 c)) (hel : telemT P t = some el) (hn : tsize P el = some (n, g)) (hr : R (.hsl b off k) σ) : OpQ P o ρ σ R := by
  have ht : P.underlying t = some (.slice el) := by
    unfold telemT at hel
    split at hel
    · rename_i h; rw [h]; simpa using hel
    · cases hel
  refine opq_v (s := fun e => Builtin.append_ #[t, t] o.type #[e s, e x]) (fun e => execOp_append e ho) _ hr fun G e w he hw => ?_
  have h1 := he s
  rw [hs] at h1
  have h2 := he x
  have h3 : ∃ a c2, e x = .slice a 0 c2 := by
    rcases hx with hx | ⟨c, hx⟩
    · rw [hx] at h2
      generalize e x = v at h2
      generalize hys : ([] : List AV) = ys at h2
      cases h2 with
      | vnil a cap => exact ⟨_, _, rfl⟩
      | vsl xs β o s cap val hcap hs h hr => subst hys; exact ⟨_, _, rfl⟩
    · rw [hx] at h2
      generalize e x = v at h2
      cases h2; exact ⟨_, _, rfl⟩
  obtain ⟨a, c2, h3⟩ := h3
  rw [h3]
  generalize e s = v at h1
  cases h1 with
  | hsl _ _ _ β o s cap h hle => exact ⟨_, run_append0 ht hn (by omega) w, .hsl b off k β o s cap h hle⟩
  | hend _ _ a β o s cap h hle => exact ⟨_, run_append0 ht hn (by omega) w, .hend b off a β o s cap h hle⟩
  | hnil _ a h => exact ⟨_, run_append0 ht hn (by omega) w, .hnil b a h⟩
theorem awl_append0 {rest : List Oper} {s x : Operand} {t el : TypeId} (mu : List Nat) (ho : o.op = .call { callee := .builtin .append, args := #[s, x], argTypes := #[t, t] }) (hw : awanted ops o fr = some true) {b off k n : Nat} {g : Bool}
    (hs : aev fr s = .hsl b off k) (hx : aev fr x = .vsl [] ∨ ∃ c, aev fr x = .p (.slice none 0 c)) (hel : telemT P t = some el) (hn : tsize P el = some (n, g))
    (hk2 : Shut (ARun P D ops Q mu rest (aput fr o.dst (.hsl b off k)) σ)) : AWL P D ops Q (o :: rest) fr σ :=
  awl_cons hw (opq_append0 ho hs hx hel hn (awl_run' mu hk2))
/-! ### all slices of one's own stay as they are from now on -/
end Go.AL
/-! Regions that draw, make one variable and fill it; a nil slice within a variable becomes one's own. -/
namespace Go.AL
open Go.Proofs
variable {P : Program} {σ : ASt} {D : List Deferred} {Q : Exit → List AV → ASt → Prop} {fr : List AV}
theorem aw_openBx {c : Code} {b i : Nat} {cs : List AV} (hb : σ.bx b = some cs) (hi : cs[i]? = some (.p (.slice none 0 0)))
    (h : AW P D c Q fr { σ.addSl [] with bx := upd σ.bx b (some (cs.set i (.hsl σ.next 0 0))) }) : AW P D c Q fr σ := by
  intro _ _ G a w hs
  obtain ⟨G', h1, h2, h3⟩ := new_nil hs.w w (Go.RowKit.Below.refl _ _) none
  have own : ∀ β k, Owns G' { σ.addSl [] with bx := upd σ.bx b (some (cs.set i (.hsl σ.next 0 0))) } β k → Owns G' (σ.addSl []) β k := by
    intro β k ho
    cases ho with
    | bx b' β cs' e g =>
      by_cases hbb : b' = b
      · subst hbb; exact .bx b' β cs hb g
      · rw [show ({ σ.addSl [] with bx := upd σ.bx b (some (cs.set i (.hsl σ.next 0 0))) } : ASt).bx b' = σ.bx b' from upd_ne _ _ hbb] at e
        exact .bx b' β cs' e g
    | mp b' β es e g => exact .mp b' β es e g
    | sl b' β r xs e g => exact .sl b' β r xs e g
  have h4 : SimW G' { σ.addSl [] with bx := upd σ.bx b (some (cs.set i (.hsl σ.next 0 0))) } w := by
    refine ⟨h2.base, fun b' cs' e => ?_, fun b' es e => h2.mp b' es e, fun b' xs e => h2.sl b' xs e, fun β k ho => ?_, h2.stIn, fun b' hb' => ?_⟩
    · by_cases hbb : b' = b
      · subst hbb
        obtain rfl : cs.set i (.hsl σ.next 0 0) = cs' := by simpa using e
        obtain ⟨β, arr, el, g1, g2, g3, g4⟩ := h2.bx b' cs hb
        refine ⟨β, arr, el, g1, g2, by simpa using g3, fun j c v hc hv => ?_⟩
        rw [List.getElem?_set] at hc
        split at hc
        · rename_i hij
          subst hij
          split at hc
          · obtain rfl := Option.some.inj hc
            have := g4 i _ v hi hv
            cases this
            exact h3
          · cases hc
        · exact g4 j c v hc hv
      · rw [show ({ σ.addSl [] with bx := upd σ.bx b (some (cs.set i (.hsl σ.next 0 0))) } : ASt).bx b' = σ.bx b' from upd_ne _ _ hbb] at e
        exact h2.bx b' cs' e
    · have ho' := own β k ho
      exact ⟨(h2.own β k ho').1, fun k' hk' => (h2.own β k ho').2.1 k' (own _ _ hk'), (h2.own β k ho').2.2⟩
    · obtain ⟨f1, f2, f3, f4, f5, f6⟩ := h2.fresh b' hb'
      refine ⟨f1, f2, f3, ?_, f5, f6⟩
      have hne : b' ≠ b := fun e => by subst e; rw [show (σ.addSl []).bx b' = σ.bx b' from rfl, hb] at f4; cases f4
      rw [show ({ σ.addSl [] with bx := upd σ.bx b (some (cs.set i (.hsl σ.next 0 0))) } : ASt).bx b' = σ.bx b' from upd_ne _ _ hne]
      exact f4
  exact wp_mono (h _ inferInstance G' a w ⟨⟨hs.tmps.1, fun j c v hc hv => (hs.tmps.2 j c v hc hv).mono h1⟩, hs.defers.mono h1, h4⟩) fun e a w h => lift_le h1 h
end Go.AL
/-! Ranges over functions: calls of yield; small contracts over one variable and a loop's record; leaving with marks. -/
namespace Go.AL
open Go.RowKit (Below)
set_option linter.unusedVariables false
set_option linter.unusedSimpArgs false
variable {P : Program} {σ : ASt} {R : AV → ASt → Prop} {D : List Deferred} {Q : Exit → List AV → ASt → Prop} {fr : List AV} {ops : Array Oper} {o : Oper} {ρ : Operand → AV}
/-! ### leaving with marks -/
theorem Rep.move {G w G' w'} (hb : ∀ b β, G.bx b = some β → G'.bx b = some β) (hm : ∀ b β, G.mp b = some β → G'.mp b = some β) (hs : ∀ b β, G.sl b = some β → G'.sl b = some β)
    (hc : ∀ β o v, G.st β o → w.cell? ⟨β, o, none⟩ = some v → G'.st β o ∧ w'.cell? ⟨β, o, none⟩ = some v) (hp : ∀ β e n, G.st β 0 → w.heap[β]? = some (.map e n) → G'.st β 0 ∧ w'.heap[β]? = some (.map e n)) {c v} (h : Rep G w c v) : Rep G' w' c v := by
  induction h with
  | p x => exact .p x
  | agg cs vs hs _ ih => exact .agg cs vs hs ih
  | tup cs vs hs _ ih => exact .tup cs vs hs ih
  | ptr b off β h => exact .ptr b off β (hb _ _ h)
  | vnil a cap => exact .vnil a cap
  | vsl xs β o s cap val hcap hs h _ ih => exact .vsl xs β o s cap val hcap hs (fun i j c e => hc _ _ _ (h i j c e).1 (h i j c e).2) ih
  | vel xs i off β o s val hs h _ ih => exact .vel xs i off β o s val hs (fun i j c e => hc _ _ _ (h i j c e).1 (h i j c e).2) ih
  | hsl b off len β o s cap h hle => exact .hsl b off len β o s cap (hs _ _ h) hle
  | hend b off a β o s cap h hle => exact .hend b off a β o s cap (hs _ _ h) hle
  | hnil b a h => exact .hnil b a (hs _ _ h)
  | hel b i off β o s cap h => exact .hel b i off β o s cap (hs _ _ h)
  | map m μ h => exact .map m μ (hm _ _ h)
  | it m μ h => exact .it m μ (hm _ _ h)
  | yld m μ h => exact .yld m μ (hm _ _ h)
  | vmp ks vs μ clock ents h1 h2 h3 h4 _ _ h7 h8 ih5 ih6 => exact .vmp ks vs μ clock ents (hp _ _ _ h1 h2).1 (hp _ _ _ h1 h2).2 h3 h4 ih5 ih6 h7 h8
  | fn f aa bs us vs h1 h2 _ _ ih3 ih4 => exact .fn f aa bs us vs h1 h2 ih3 ih4
  | ifc t c v _ ih => exact .ifc t c v ih
  | opt b c v _ h0 ih => exact .opt b c v ih h0
  | any v => exact .any v
end Go.AL
/-! Ranges over functions: yield; small contracts over one variable and a loop's record; the statement. -/
namespace Go.AL
open Go.RowKit (Below)
set_option linter.unusedVariables false
set_option linter.unusedSimpArgs false
variable {P : Program} {σ : ASt} {R : AV → ASt → Prop} {D : List Deferred} {Q : Exit → List AV → ASt → Prop} {fr : List AV} {ops : Array Oper} {o : Oper} {ρ : Operand → AV}
/-! ### a call of yield -/
def AYield (P : Program) (m : Nat) (args : List AV) (σ : ASt) (R : AV → ASt → Prop) : Prop :=
  ∀ G w (vs : Array Value) μ, RepL G w args vs.toList → SimW G σ w → G.mp m = some μ →
    ∃ fn tmps assign body, (Instr.yield μ vs).run P w = .ok (.round μ fn tmps assign body) w ∧ RoundIn Fence.wide 1 P μ fn tmps assign body w (retOf (Outc G w R))
theorem AYield.mono {m args} {R' : AV → ASt → Prop} (h : AYield P m args σ R) (hr : ∀ r σ, R r σ → R' r σ) : AYield P m args σ R' := fun G w vs μ h1 h2 h3 => by
  obtain ⟨fn, tmps, assign, body, k1, k2⟩ := h G w vs μ h1 h2 h3
  exact ⟨fn, tmps, assign, body, k1, RoundIn.mono k2 fun e w' he => retOf_mono (fun v w' h => Outc.mono h hr) he⟩
/-! ### the record turns -/
/-- Behind a round. -/
def nxt (r : Loop) : Option Code → Loop
  | none => r
  | some c => { r with state := .done, pending := some c }
/-! ### small contracts -/
/-- One variable, number 0; one record, number 1. -/
def yst (cs : List AV) (es : List (AV × AV)) : ASt := ⟨fun b => if b = 0 then some cs else none, fun b => if b = 1 then some es else none, fun _ => none, 2⟩
@[simp] theorem yst_bx (cs es) (b : Nat) : (yst cs es).bx b = if b = 0 then some cs else none := rfl
@[simp] theorem yst_mp (cs es) (b : Nat) : (yst cs es).mp b = if b = 1 then some es else none := rfl
@[simp] theorem yst_sl (cs es) (b : Nat) : (yst cs es).sl b = none := rfl
@[simp] theorem yst_next (cs es) : (yst cs es).next = 2 := rfl
def sub (b : Nat) : AV → AV
  | .ptr 0 off => .ptr b off
  | v => v
/-- Closed, but for that variable's address. -/
def F0 (v : AV) : Prop := Cl v ∨ ∃ off, v = .ptr 0 off
theorem F0.ren {b m n : Nat} {v : AV} (h : F0 v) : ren (ridx [b, m] n) v = sub b v := by
  rcases h with h | ⟨off, rfl⟩
  · rw [ren_closed _ h]; cases h <;> rfl
  · simp [Go.AL.ren, ridx, sub]
theorem F0.rens {b m n : Nat} {l : List AV} (h : ∀ v ∈ l, F0 v) : rens (ridx [b, m] n) l = l.map (sub b) := by
  rw [rens_map]; exact List.map_congr_left fun v hv => (h v hv).ren
/-- The arguments, too: that variable's address, the record's yield, what is closed. -/
def subA (b m : Nat) : AV → AV
  | .ptr 0 off => .ptr b off
  | .yld 1 => .yld m
  | v => v
def A0 (v : AV) : Prop := Cl v ∨ (∃ off, v = .ptr 0 off) ∨ v = .yld 1
theorem A0.rens {b m n : Nat} {l : List AV} (h : ∀ v ∈ l, A0 v) : rens (ridx [b, m] n) l = l.map (subA b m) := by
  rw [rens_map]
  refine List.map_congr_left fun v hv => ?_
  rcases h v hv with h | ⟨off, rfl⟩ | rfl
  · rw [ren_closed _ h]; cases h <;> rfl
  · simp [ren, ridx, subA]
  · simp [ren, ridx, subA]
def ScR (fs : List AV) (r : AV) (cs' : List AV) (o' : Obj) (r' : AV) (σ' : ASt) : Prop := r' = r ∧ σ'.bx 0 = some cs' ∧ σ'.mp 1 = some (obE o' fs)
def SC (P : Program) (f : FuncId) (args cs : List AV) (o : Obj) (fs : List AV) (r : AV) (cs' : List AV) (o' : Obj) : Prop := ACall P f args (yst cs (obE o fs)) (ScR fs r cs' o')
def SY (P : Program) (args cs : List AV) (o : Obj) (fs : List AV) (r : AV) (cs' : List AV) (o' : Obj) : Prop := AYield P 1 args (yst cs (obE o fs)) (ScR fs r cs' o')
/-- What comes of such a call. -/
def ScB (σ : ASt) (b m : Nat) (fs : List AV) (r : AV) (cs' : List AV) (o' : Obj) (r' : AV) (σ' : ASt) : Prop :=
  r' = r ∧ ∃ n, σ.next ≤ n ∧ σ' = { σ with bx := upd σ.bx b (some cs'), mp := upd σ.mp m (some (obE o' (fs.map (sub b)))), next := n }
structure ScH (σ : ASt) (b m : Nat) (args cs : List AV) (o : Obj) (fs : List AV) (r : AV) (cs' : List AV) : Prop where
  hargs : ∀ v ∈ args, A0 v
  hfs : ∀ v ∈ fs, F0 v
  hcs : ∀ v ∈ cs, Cl v
  hcs' : ∀ v ∈ cs', Cl v
  hr : Cl r
  bx : σ.bx b = some cs
  mp : σ.mp m = some (obE o (fs.map (sub b)))
  bm : σ.mp b = none
  bs : σ.sl b = none
  mx : σ.bx m = none
  ms : σ.sl m = none
theorem sc_core {b m : Nat} {args cs : List AV} {ob ob' : Obj} {fs : List AV} {r : AV} {cs' : List AV} (hh : ScH σ b m args cs ob fs r cs') {G : Ghost} {w : World} {vs : Array Value} (hv : RepL G w (args.map (subA b m)) vs.toList) (hw : SimW G σ w) :
    ∃ Gc : Ghost, SimW Gc (yst cs (obE ob fs)) w ∧ RepL Gc w args vs.toList ∧ Gc.mp 1 = G.mp m ∧ ∀ v w1, Outc Gc w (ScR fs r cs' ob') v w1 → Outc G w (ScB σ b m fs r cs' ob') v w1 := by
  have hok : σ.Ok := ⟨fun b hb => (hw.fresh b hb).2.2.2.1, fun b hb => (hw.fresh b hb).2.2.2.2.1, fun b hb => (hw.fresh b hb).2.2.2.2.2⟩
  have hbn : b < σ.next := by
    rcases Nat.lt_or_ge b σ.next with h' | h'
    · exact h'
    · have := hok.bx b h'; rw [hh.bx] at this; cases this
  have hmn : m < σ.next := by
    rcases Nat.lt_or_ge m σ.next with h' | h'
    · exact h'
    · have := hok.mp m h'; rw [hh.mp] at this; cases this
  have hne : b ≠ m := fun e => by have := hh.mp; rw [← e, hh.bm] at this; cases this
  obtain ⟨Gc, h1, h2, h3, h4⟩ := frame_core (σ := σ) (σc := yst cs (obE ob fs)) (args := args) [b, m] rfl ⟨fun i hi => if_neg (by simp at hi; omega), fun i hi => if_neg (by simp at hi; omega), fun _ _ => rfl⟩
    (by simp; exact ⟨hbn, hmn⟩) (by simp [hne]) (fun i cs0 e => by
      simp only [yst_bx] at e
      split at e
      · rename_i hi; subst hi
        obtain rfl := Option.some.inj e
        rw [rens_closed hh.hcs]; simpa [ridx] using hh.bx
      · cases e) (fun i es e => by
      simp only [yst_mp] at e
      split at e
      · rename_i hi; subst hi
        obtain rfl := Option.some.inj e
        rw [obE_ren, F0.rens hh.hfs]; simpa [ridx] using hh.mp
      · cases e) (fun i xs e => by cases e) (G := G) (w := w) (vs := vs) (by rw [A0.rens hh.hargs]; exact hv) hw
  refine ⟨Gc, h1, h2, by rw [h3]; simp [ridx], fun v w1 ho => ?_⟩
  -- of what comes behind, only these two are kept
  have ho2 : Outc Gc w (fun r' τ => ∃ n, τ = ⟨fun i => if i = 0 then some cs' else none, fun i => if i = 1 then some (obE ob' fs) else none, fun _ => none, n⟩ ∧ r' = r) v w1 := ho.low fun r' τ ⟨e1, e2, e3⟩ =>
    ⟨⟨fun i => if i = 0 then some cs' else none, fun i => if i = 1 then some (obE ob' fs) else none, fun _ => none, τ.next⟩, ⟨fun i c e => (by
        dsimp only at e
        split at e
        · rename_i hi; subst hi; rw [e2]; exact e
        · cases e), fun i c e => (by
        dsimp only at e
        split at e
        · rename_i hi; subst hi; rw [e3]; exact e
        · cases e), fun i c e => (by cases e), Nat.le_refl _⟩, τ.next, rfl, e1⟩
  have ho3 := h4 _ v w1 ho2
  refine ho3.mono fun r' σ' ⟨rc, τ, ⟨n, e1, e2⟩, e3, e4⟩ => ?_
  subst e2
  refine ⟨by rw [e3, ren_closed _ hh.hr], σ.next + (τ.next - 2), by omega, ?_⟩
  rw [e4, e1]
  unfold back
  have inv0 : ∀ c, rinv [b, m] σ.next c = if σ.next ≤ c then some (2 + (c - σ.next)) else if c = b then some 0 else if c = m then some 1 else none := by
    intro c
    unfold rinv
    split
    · rfl
    · simp [rfind]
  congr 1
  · funext c
    dsimp only
    rw [inv0]
    unfold upd
    by_cases h1 : σ.next ≤ c
    · rw [if_pos h1, if_neg (by omega), hok.bx c h1]
      show Option.map _ (if 2 + (c - σ.next) = 0 then some cs' else none) = none
      rw [if_neg (by omega)]; rfl
    · rw [if_neg h1]
      by_cases h2 : c = b
      · subst h2
        rw [if_pos rfl, if_pos rfl]
        show Option.map _ (some cs') = _
        rw [Option.map_some, rens_closed hh.hcs']
      · rw [if_neg h2, if_neg h2]
        by_cases h3 : c = m
        · subst h3
          rw [if_pos rfl, hh.mx]; rfl
        · rw [if_neg h3]
  · funext c
    dsimp only
    rw [inv0]
    unfold upd
    by_cases h1 : σ.next ≤ c
    · rw [if_pos h1, if_neg (by omega), hok.mp c h1]
      show Option.map _ (if 2 + (c - σ.next) = 1 then some (obE ob' fs) else none) = none
      rw [if_neg (by omega)]; rfl
    · rw [if_neg h1]
      by_cases h2 : c = b
      · subst h2
        rw [if_pos rfl, if_neg hne]
        show Option.map _ (if 0 = 1 then some (obE ob' fs) else none) = _
        rw [if_neg (by omega), hh.bm]; rfl
      · rw [if_neg h2]
        by_cases h3 : c = m
        · subst h3
          rw [if_pos rfl, if_pos rfl]
          show Option.map _ (some (obE ob' fs)) = _
          rw [Option.map_some, obE_ren, F0.rens hh.hfs]
        · rw [if_neg h3, if_neg h3]
  · funext c
    dsimp only
    rw [inv0]
    by_cases h1 : σ.next ≤ c
    · rw [if_pos h1, hok.sl c h1]; rfl
    · rw [if_neg h1]
      by_cases h2 : c = b
      · subst h2; rw [if_pos rfl, hh.bs]; rfl
      · rw [if_neg h2]
        by_cases h3 : c = m
        · subst h3; rw [if_pos rfl, hh.ms]; rfl
        · rw [if_neg h3]
theorem SC.call {f : FuncId} {b m : Nat} {args args' cs : List AV} {ob ob' : Obj} {fs : List AV} {r : AV} {cs' : List AV} (h : SC P f args cs ob fs r cs' ob') (ha : args.map (subA b m) = args') (hh : ScH σ b m args cs ob fs r cs') : ACall P f args' σ (ScB σ b m fs r cs' ob') := by
  subst ha
  intro G w vs hv hw
  obtain ⟨Gc, h1, h2, _, h4⟩ := sc_core hh hv hw
  exact Calls.mono (h Gc w vs h2 h1) fun e w' he => retOf_mono (fun v w1 ho => h4 v w1 ho) he
theorem SY.call {b m : Nat} {args args' cs : List AV} {ob ob' : Obj} {fs : List AV} {r : AV} {cs' : List AV} (h : SY P args cs ob fs r cs' ob') (ha : args.map (subA b m) = args') (hh : ScH σ b m args cs ob fs r cs') : AYield P m args' σ (ScB σ b m fs r cs' ob') := by
  subst ha
  intro G w vs μ hv hw hμ
  obtain ⟨Gc, h1, h2, h3, h4⟩ := sc_core hh hv hw
  obtain ⟨fn, tmps, assign, body, k1, k2⟩ := h Gc w vs μ h2 h1 (h3.trans hμ)
  exact ⟨fn, tmps, assign, body, k1, RoundIn.mono k2 fun e w' he => retOf_mono (fun v w1 ho => h4 v w1 ho) he⟩
end Go.AL
/-! The statement 'for x := range f'. -/
namespace Go.AL
open Go.RowKit (Below)
set_option linter.unusedVariables false
set_option linter.unusedSimpArgs false
variable {P : Program} {σ : ASt} {R : AV → ASt → Prop} {Q : Exit → List AV → ASt → Prop} {fr : List AV}
/-! ### within an iterator -/
variable {ops : Array Oper} {o : Oper} {rest : List Oper} {D : List Deferred}
end Go.AL
/-! An array's value at an index; a large array's variable. -/
namespace Go.AL
set_option linter.unusedVariables false
set_option linter.unusedSimpArgs false
variable {P : Program} {σ : ASt} {R : AV → ASt → Prop} {D : List Deferred} {Q : Exit → List AV → ASt → Prop} {fr : List AV} {ops : Array Oper} {o : Oper} {ρ : Operand → AV} {rest : List Oper}
end Go.AL
/-! Maps whose keys are structs; maps that stay as they are. -/
namespace Go.AL
open Go.RowKit (Below)
set_option linter.unusedVariables false
set_option linter.unusedSimpArgs false
variable {P : Program} {σ : ASt} {R : AV → ASt → Prop} {D : List Deferred} {Q : Exit → List AV → ASt → Prop} {fr : List AV} {ops : Array Oper} {o : Oper} {ρ : Operand → AV} {rest : List Oper}
/-! ### keys -/
/-! ### looking one up -/
/-! ### in one of one's own -/
theorem mp_real {G : Ghost} {w : World} {b : Nat} {es : List (AV × AV)} (h : MpOK G w b es) (hn : ∀ p ∈ es, p.1 ≠ noV) :
    ∃ μ ents clock, G.mp b = some μ ∧ w.heap[μ]? = some (.map ents clock) ∧ ents.size = es.length ∧
    (∀ (i : Nat) k x (e : MapEntry), es[i]? = some (k, x) → ents[i]? = some e → Rep G w k e.key ∧ Rep G w x e.val ∧ e.born < clock) ∧ (∀ (i j : Nat) (e e' : MapEntry), ents[i]? = some e → ents[j]? = some e' → e.born = e'.born → i = j) := by
  rcases h with h | ⟨μ, ob, ofr, _, _, _, rfl⟩
  · exact h
  · exact absurd rfl (hn _ List.mem_cons_self)
/-! ### it stays from now on -/
end Go.AL
/-! A map that stays, looked up by a number, a text or a truth; in regions that draw, too. -/
namespace Go.AL
open Go.RowKit (Below)
set_option linter.unusedVariables false
set_option linter.unusedSimpArgs false
variable {P : Program} {σ : ASt} {R : AV → ASt → Prop} {D : List Deferred} {Q : Exit → List AV → ASt → Prop} {fr : List AV} {ops : Array Oper} {o : Oper} {ρ : Operand → AV} {rest : List Oper}
end Go.AL
/-! One step of a walk, as the default of an argument: it is looked for anew wherever the lemma is used. -/
namespace Go.AL
set_option linter.unusedVariables false
set_option linter.unusedSimpArgs false
variable {P : Program} {σ : ASt} {R : AV → ASt → Prop} {D : List Deferred} {Q : Exit → List AV → ASt → Prop} {fr : List AV} {ops : Array Oper}
/-- The variables that are written. -/
inductive Mu (l : List Nat) : Prop where
  | mk
theorem aw_runM {mu : List Nat} (m : Mu mu) {id : Nat} {l : List Oper} (h : Shut (ARun P D l.toArray Q mu l fr σ)) : AW P D (.region id l.toArray false) Q fr σ := aw_run mu h
theorem aw_ymixM {mu : List Nat} (m : Mu mu) {id : Nat} {l : List Oper} (hm : P.follows .mixedOrders = true) (hB : mixB .any (preSt mu l) (postSt mu l) = true) (h : Shut (YRun P l.toArray σ (fun fr => Shut (ARun P D l.toArray Q mu (postSt mu l) fr σ)) (preSt mu l) fr)) : AW P D (.region id l.toArray true) Q fr σ := aw_ymix mu hm hB h
theorem aw_zrunM {mu : List Nat} (m : Mu mu) {id : Nat} {l : List Oper} (hm : P.follows .mixedOrders = true) (hne : l.any (zst mu []) = true) (hB : zB mu [] l = true) (h : Shut (ZRun P mu [] l (fun fr σ => Q .normal fr σ) 0 l fr σ [] [])) : AW P D (.region id l.toArray true) Q fr σ := aw_zrun mu [] hm hne hB h
theorem awl_skipM {mu : List Nat} (m : Mu mu) {o : Oper} {rest : List Oper} (hw : awanted ops o fr = some false) (hk : Shut (ARun P D ops Q mu rest (aput fr o.dst (.p undef)) σ)) : AWL P D ops Q (o :: rest) fr σ := awl_skip' mu hw hk
theorem awl_pureM {mu : List Nat} (m : Mu mu) {o : Oper} {rest : List Oper} {f : Operand} {aa : Array Operand} {ts : Array TypeId} (ho : o.op = .call { callee := .value f, args := aa, argTypes := ts }) (hw : awanted ops o fr = some true)
    {F : FuncId} {first cap : List AV} (hf : acallee (aev fr f) = some (F, first, cap)) (hc : callable P F = true) {args : List AV} (ha : first ++ aa.toList.map (aev fr) ++ cap = args) {r : AV} (h : APure P F args r) (hcl : ∀ a ∈ args, Cl a) (hr : Cl r)
    (hk : Shut (ARun P D ops Q mu rest (aput fr o.dst r) σ)) : AWL P D ops Q (o :: rest) fr σ := awl_pure' mu ho hw hf hc ha h hcl hr hk
theorem awl_pureGM {mu : List Nat} (m : Mu mu) {o : Oper} {rest : List Oper} {f : Operand} {aa : Array Operand} {ts : Array TypeId} (ho : o.op = .call { callee := .value f, args := aa, argTypes := ts }) {c : Bool} (hg : gcond ops o fr = some c)
    {F : FuncId} {first cap : List AV} (hf : acallee (peel (aev fr f)) = some (F, first, cap)) (hc : callable P F = true) {args : List AV} (ha : first ++ aa.toList.map (fun x => peel (aev fr x)) ++ cap = args) {r : AV} (h : c = true → APure P F args r)
    (hok : okS c (aev fr f) = true ∧ ∀ x ∈ aa.toList, okS c (aev fr x) = true) (hcl : ∀ a ∈ args, Cl a) (hr : Cl r)
    (hk : Shut (ARun P D ops Q mu rest (aput fr o.dst (.opt c r)) σ)) : AWL P D ops Q (o :: rest) fr σ := awl_pure_guard mu ho hg hf hc ha h hok hcl hr hk
theorem awl_boxM {mu : List Nat} (m : Mu mu) {o : Oper} {rest : List Oper} {f : Operand} {aa : Array Operand} {ts : Array TypeId} (ho : o.op = .call { callee := .value f, args := aa, argTypes := ts }) (hw : awanted ops o fr = some true)
    {F : FuncId} {first cap : List AV} (hf : acallee (aev fr f) = some (F, first, cap)) (hc : callable P F = true) {args args' cs cs' : List AV} {r : AV} {b : Nat} (h : BK P F args cs r cs') (he : first ++ aa.toList.map (aev fr) ++ cap = args') (ha : ArgBs b args args')
    (hb : σ.bx b = some cs) (hbm : σ.mp b = none) (hbs : σ.sl b = none)
    (hk : Shut (ARun P D ops Q mu rest (aput fr o.dst r) { σ with bx := upd σ.bx b (some cs') })) : AWL P D ops Q (o :: rest) fr σ := awl_boxK mu ho hw hf hc h he ha hb hbm hbs hk
theorem aw_condT {c : Operand} {x y : Code} {t : Bool} (hc : aev fr c = .p (.bool t)) (ht : t = true) (h : AW P D x Q fr σ) : AW P D (.cond c x y) Q fr σ := aw_cond hc (fun _ => h) fun e => by rw [ht] at e; cases e
theorem aw_condF {c : Operand} {x y : Code} {t : Bool} (hc : aev fr c = .p (.bool t)) (ht : t = false) (h : AW P D y Q fr σ) : AW P D (.cond c x y) Q fr σ := aw_cond hc (fun e => by rw [ht] at e; cases e) fun _ => h
/-- Into a function. -/
theorem apure_in {f : FuncId} {fn : Func} {c : Code} {n : Nat} {args : List AV} {r : AV} {K : Prop} (hf : P.funcs[f]? = some fn) (hn : fn.ntmps = n) (hb : fn.body = some c) (k : K)
    (h : K → AW P [] c (RetQ P fn fun r' _ => r' = r) (args ++ List.replicate (n - args.length) (.p undef)) σ0 := by intro k; simp only [List.length_cons, List.length_nil, List.cons_append, List.nil_append, List.replicate]; exact k) : APure P f args r := apure_of hf hn hb (h k)
theorem aw_id {c : Code} (h : AW P D c Q fr σ) : AW P D c Q fr σ := h
theorem awl_id {l : List Oper} (h : AWL P D ops Q l fr σ) : AWL P D ops Q l fr σ := h
theorem yl_id {K : List AV → Prop} {l : List Oper} (h : YL P ops σ K l fr) : YL P ops σ K l fr := h
theorem zl_id {mu imp : List Nat} {l l' : List Oper} {K : List AV → ASt → Prop} {i : Nat} {old : List ASt} {pd : List Pend} (h : ZS P mu imp l K i l' fr σ old pd) : ZS P mu imp l K i l' fr σ old pd := h
/-- A step: ms the variables that are written, F what simp may use, C contracts. -/
theorem aw_W {P Q A B : Prop} (ms : List Nat) (F : A) (C : B) (k : Q) (h : Mu ms → A → B → Shut Q → P := by
  intro m F C k
  first
  | (with_reducible refine aw_id ?_
     first
     | (refine aw_seq ?_; exact k.1; done)
     | ((first | refine aw_runM m ?_ | refine aw_ymixM m draws (by decide +kernel) ?_); (try simp -implicitDefEqProofs (maxSteps := 1000000) [F]); exact k.1; done)
     | (refine aw_zrunM m draws (by decide +kernel) (by decide +kernel) ?_; (try simp -implicitDefEqProofs (maxSteps := 1000000) [F]); (repeat first | refine zcurL (by decide +kernel) ?_ | refine zcurH (by decide +kernel) ?_ | refine zcurL' (by decide +kernel) ?_ | refine zcurH' (by decide +kernel) ?_); exact k.1; done)
     | ((first | refine aw_yrun draws (by kernel_rfl) ?_ | refine aw_skip ?_ | refine aw_exit ?_); (try simp -implicitDefEqProofs (maxSteps := 1000000) [F]); exact k.1; done)
     | (refine aw_condT rfl (by with_reducible exact rfl) ?_; exact k.1; done)
     | (refine aw_condF rfl (by with_reducible exact rfl) ?_; exact k.1; done)
     | (refine aw_block ?_; exact k.1; done)
     | (refine aw_ret (ret_of (.inr rfl) (by simp; rfl) (Fin.of ?_)); exact k.1; done))
  | (with_reducible refine awl_id ?_
     first
     | ((first
         | refine awl_skipM m rfl ?_
         | refine awl_pureGM m rfl rfl rfl (by first | assumption | kernel_rfl) rfl (fun hc => by first | exact C.1 | exact C.2.1 | exact C.2.2.1 | exact C.2.2.2.1 | exact C.2.2.2.2.1 | exact C.2.2.2.2.2.1 | exact C.2.2.2.2.2.2.1 | exact C.2.2.2.2.2.2.2.1 | exact C.2.2.2.2.2.2.2.2.1 | exact C.2.2.2.2.2.2.2.2.2.1 | apply C.1 | apply C.2.1 | apply C.2.2.1 | apply C.2.2.2.1 | apply C.2.2.2.2.1 | apply C.2.2.2.2.2.1 | apply C.2.2.2.2.2.2.1 | apply C.2.2.2.2.2.2.2.1 | apply C.2.2.2.2.2.2.2.2.1 | apply C.2.2.2.2.2.2.2.2.2.1) (by simp) (by simp) (by simp) ?_
         | refine awl_pureM m rfl rfl rfl (by first | assumption | kernel_rfl) rfl (by first | exact C.1 | exact C.2.1 | exact C.2.2.1 | exact C.2.2.2.1 | exact C.2.2.2.2.1 | exact C.2.2.2.2.2.1 | exact C.2.2.2.2.2.2.1 | exact C.2.2.2.2.2.2.2.1 | exact C.2.2.2.2.2.2.2.2.1 | exact C.2.2.2.2.2.2.2.2.2.1 | apply C.1 | apply C.2.1 | apply C.2.2.1 | apply C.2.2.2.1 | apply C.2.2.2.2.1 | apply C.2.2.2.2.2.1 | apply C.2.2.2.2.2.2.1 | apply C.2.2.2.2.2.2.2.1 | apply C.2.2.2.2.2.2.2.2.1 | apply C.2.2.2.2.2.2.2.2.2.1) (by simp) (by simp) ?_)
        (try simp -implicitDefEqProofs (maxSteps := 1000000) [F])
        exact k.1; done)
     | (refine awl_boxM m rfl rfl rfl (by first | assumption | kernel_rfl) (by first | exact C.1 | exact C.2.1 | exact C.2.2.1 | exact C.2.2.2.1 | exact C.2.2.2.2.1 | exact C.2.2.2.2.2.1 | exact C.2.2.2.2.2.2.1 | exact C.2.2.2.2.2.2.2.1 | exact C.2.2.2.2.2.2.2.2.1 | exact C.2.2.2.2.2.2.2.2.2.1 | apply C.1 | apply C.2.1 | apply C.2.2.1 | apply C.2.2.2.1 | apply C.2.2.2.2.1 | apply C.2.2.2.2.2.1 | apply C.2.2.2.2.2.2.1 | apply C.2.2.2.2.2.2.2.1 | apply C.2.2.2.2.2.2.2.2.1 | apply C.2.2.2.2.2.2.2.2.2.1) rfl (by repeat (first | exact .nil | refine .cons (.ptr _) ?_ | (apply ArgBs.cons; focus (apply ArgB.cl; simp; done)))) ?_ ?_ ?_ ?_; (iterate 3 (focus (simp [σ0]; done))); simp -implicitDefEqProofs (maxSteps := 1000000) [F]; exact k.1; done))
  | (with_reducible refine yl_id ?_
     first
     | refine yl_skip rfl ?_
     | refine yl_pureG rfl rfl rfl (by first | assumption | kernel_rfl) rfl (fun hc => by first | exact C.1 | exact C.2.1 | exact C.2.2.1 | exact C.2.2.2.1 | exact C.2.2.2.2.1 | exact C.2.2.2.2.2.1 | exact C.2.2.2.2.2.2.1 | exact C.2.2.2.2.2.2.2.1 | exact C.2.2.2.2.2.2.2.2.1 | exact C.2.2.2.2.2.2.2.2.2.1 | apply C.1 | apply C.2.1 | apply C.2.2.1 | apply C.2.2.2.1 | apply C.2.2.2.2.1 | apply C.2.2.2.2.2.1 | apply C.2.2.2.2.2.2.1 | apply C.2.2.2.2.2.2.2.1 | apply C.2.2.2.2.2.2.2.2.1 | apply C.2.2.2.2.2.2.2.2.2.1) (by simp) (by simp) (by simp) ?_
     | refine yl_pure rfl rfl rfl (by first | assumption | kernel_rfl) rfl (by first | exact C.1 | exact C.2.1 | exact C.2.2.1 | exact C.2.2.2.1 | exact C.2.2.2.2.1 | exact C.2.2.2.2.2.1 | exact C.2.2.2.2.2.2.1 | exact C.2.2.2.2.2.2.2.1 | exact C.2.2.2.2.2.2.2.2.1 | exact C.2.2.2.2.2.2.2.2.2.1 | apply C.1 | apply C.2.1 | apply C.2.2.1 | apply C.2.2.2.1 | apply C.2.2.2.2.1 | apply C.2.2.2.2.2.1 | apply C.2.2.2.2.2.2.1 | apply C.2.2.2.2.2.2.2.1 | apply C.2.2.2.2.2.2.2.2.1 | apply C.2.2.2.2.2.2.2.2.2.1) (by simp) (by simp) ?_
     (try simp -implicitDefEqProofs (maxSteps := 1000000) [F])
     exact k.1; done)
  | (with_reducible refine zl_id ?_
     first
     | refine zl_skip (by simp) rfl ?_
     | refine zl_pure_guard (by simp) rfl rfl rfl (by first | assumption | kernel_rfl) rfl (fun hc => by first | exact C.1 | exact C.2.1 | exact C.2.2.1 | exact C.2.2.2.1 | exact C.2.2.2.2.1 | exact C.2.2.2.2.2.1 | exact C.2.2.2.2.2.2.1 | exact C.2.2.2.2.2.2.2.1 | exact C.2.2.2.2.2.2.2.2.1 | exact C.2.2.2.2.2.2.2.2.2.1 | apply C.1 | apply C.2.1 | apply C.2.2.1 | apply C.2.2.2.1 | apply C.2.2.2.2.1 | apply C.2.2.2.2.2.1 | apply C.2.2.2.2.2.2.1 | apply C.2.2.2.2.2.2.2.1 | apply C.2.2.2.2.2.2.2.2.1 | apply C.2.2.2.2.2.2.2.2.2.1) (by simp) (by simp) (by simp) ?_
     | refine zl_pure (by simp) rfl rfl rfl (by first | assumption | kernel_rfl) rfl (by first | exact C.1 | exact C.2.1 | exact C.2.2.1 | exact C.2.2.2.1 | exact C.2.2.2.2.1 | exact C.2.2.2.2.2.1 | exact C.2.2.2.2.2.2.1 | exact C.2.2.2.2.2.2.2.1 | exact C.2.2.2.2.2.2.2.2.1 | exact C.2.2.2.2.2.2.2.2.2.1 | apply C.1 | apply C.2.1 | apply C.2.2.1 | apply C.2.2.2.1 | apply C.2.2.2.2.1 | apply C.2.2.2.2.2.1 | apply C.2.2.2.2.2.2.1 | apply C.2.2.2.2.2.2.2.1 | apply C.2.2.2.2.2.2.2.2.1 | apply C.2.2.2.2.2.2.2.2.2.1) (by simp) (by simp) ?_
     (try simp -implicitDefEqProofs (maxSteps := 1000000) [F])
     (repeat first | refine zcurL (by decide +kernel) ?_ | refine zcurH (by decide +kernel) ?_ | refine zcurL' (by decide +kernel) ?_ | refine zcurH' (by decide +kernel) ?_)
     exact k.1; done)
  | (refine ret_of (.inl rfl) (by simp; rfl) (Fin.of ?_); exact k.1; done)
  | ((fail_if_success (with_reducible first | refine awl_id ?_ | refine aw_id ?_ | refine yl_id ?_ | refine zl_id ?_)); (first | refine awl_id ?_ | refine aw_id ?_ | refine yl_id ?_ | refine zl_id ?_); (try simp -implicitDefEqProofs (maxSteps := 1000000) [F]); exact k.1; done)) : P := h ⟨⟩ F C ⟨k⟩
/-- A step: ms the variables that are written, F what simp may use, C contracts. -/
theorem aw_N {P Q A B : Prop} (ms : List Nat) (F : A) (C : B) (k : Q) (h : Mu ms → A → B → Shut Q → P := by
  intro m F C k
  first
  | (with_reducible refine aw_id ?_
     first
     | (refine aw_seq ?_; exact k.1; done)
     | (refine aw_runM m ?_; (try simp -implicitDefEqProofs (maxSteps := 1000000) [F]); exact k.1; done)
     | ((first | refine aw_skip ?_ | refine aw_exit ?_); (try simp -implicitDefEqProofs (maxSteps := 1000000) [F]); exact k.1; done)
     | (refine aw_condT rfl (by with_reducible exact rfl) ?_; exact k.1; done)
     | (refine aw_condF rfl (by with_reducible exact rfl) ?_; exact k.1; done)
     | (refine aw_block ?_; exact k.1; done)
     | (refine aw_ret (ret_of (.inr rfl) (by simp; rfl) (Fin.of ?_)); exact k.1; done))
  | (with_reducible refine awl_id ?_
     first
     | ((first
         | refine awl_skipM m rfl ?_
         | refine awl_pureGM m rfl rfl rfl (by first | assumption | kernel_rfl) rfl (fun hc => by first | exact C.1 | exact C.2.1 | exact C.2.2.1 | exact C.2.2.2.1 | exact C.2.2.2.2.1 | exact C.2.2.2.2.2.1 | exact C.2.2.2.2.2.2.1 | exact C.2.2.2.2.2.2.2.1 | exact C.2.2.2.2.2.2.2.2.1 | exact C.2.2.2.2.2.2.2.2.2.1 | apply C.1 | apply C.2.1 | apply C.2.2.1 | apply C.2.2.2.1 | apply C.2.2.2.2.1 | apply C.2.2.2.2.2.1 | apply C.2.2.2.2.2.2.1 | apply C.2.2.2.2.2.2.2.1 | apply C.2.2.2.2.2.2.2.2.1 | apply C.2.2.2.2.2.2.2.2.2.1) (by simp) (by simp) (by simp) ?_
         | refine awl_pureM m rfl rfl rfl (by first | assumption | kernel_rfl) rfl (by first | exact C.1 | exact C.2.1 | exact C.2.2.1 | exact C.2.2.2.1 | exact C.2.2.2.2.1 | exact C.2.2.2.2.2.1 | exact C.2.2.2.2.2.2.1 | exact C.2.2.2.2.2.2.2.1 | exact C.2.2.2.2.2.2.2.2.1 | exact C.2.2.2.2.2.2.2.2.2.1 | apply C.1 | apply C.2.1 | apply C.2.2.1 | apply C.2.2.2.1 | apply C.2.2.2.2.1 | apply C.2.2.2.2.2.1 | apply C.2.2.2.2.2.2.1 | apply C.2.2.2.2.2.2.2.1 | apply C.2.2.2.2.2.2.2.2.1 | apply C.2.2.2.2.2.2.2.2.2.1) (by simp) (by simp) ?_)
        (try simp -implicitDefEqProofs (maxSteps := 1000000) [F])
        exact k.1; done)
     | (refine awl_boxM m rfl rfl rfl (by first | assumption | kernel_rfl) (by first | exact C.1 | exact C.2.1 | exact C.2.2.1 | exact C.2.2.2.1 | exact C.2.2.2.2.1 | exact C.2.2.2.2.2.1 | exact C.2.2.2.2.2.2.1 | exact C.2.2.2.2.2.2.2.1 | exact C.2.2.2.2.2.2.2.2.1 | exact C.2.2.2.2.2.2.2.2.2.1 | apply C.1 | apply C.2.1 | apply C.2.2.1 | apply C.2.2.2.1 | apply C.2.2.2.2.1 | apply C.2.2.2.2.2.1 | apply C.2.2.2.2.2.2.1 | apply C.2.2.2.2.2.2.2.1 | apply C.2.2.2.2.2.2.2.2.1 | apply C.2.2.2.2.2.2.2.2.2.1) rfl (by repeat (first | exact .nil | refine .cons (.ptr _) ?_ | (apply ArgBs.cons; focus (apply ArgB.cl; simp; done)))) ?_ ?_ ?_ ?_; (iterate 3 (focus (simp [σ0]; done))); simp -implicitDefEqProofs (maxSteps := 1000000) [F]; exact k.1; done))
  | (refine ret_of (.inl rfl) (by simp; rfl) (Fin.of ?_); exact k.1; done)
  | ((fail_if_success (with_reducible first | refine awl_id ?_ | refine aw_id ?_)); (first | refine awl_id ?_ | refine aw_id ?_); (try simp -implicitDefEqProofs (maxSteps := 1000000) [F]); exact k.1; done)) : P := h ⟨⟩ F C ⟨k⟩
/-- A step: ms the variables that are written, F what simp may use, C contracts. -/
theorem aw_V {P Q A B : Prop} (ms : List Nat) (F : A) (C : B) (k : Q) (h : Mu ms → A → B → Shut Q → P := by
  intro m F C k
  first
  | (with_reducible refine aw_id ?_
     first
     | (refine aw_seq ?_; exact k.1; done)
     | ((first | refine aw_runM m ?_ | refine aw_ymixM m draws (by decide +kernel) ?_); (try simp -implicitDefEqProofs (maxSteps := 1000000) [F]); exact k.1; done)
     | (refine aw_zrunM m draws (by decide +kernel) (by decide +kernel) ?_; (try simp -implicitDefEqProofs (maxSteps := 1000000) [F]); (repeat first | refine zcurL (by decide +kernel) ?_ | refine zcurH (by decide +kernel) ?_ | refine zcurL' (by decide +kernel) ?_ | refine zcurH' (by decide +kernel) ?_); exact k.1; done)
     | ((first | refine aw_yrun draws (by kernel_rfl) ?_ | refine aw_skip ?_ | refine aw_exit ?_); (try simp -implicitDefEqProofs (maxSteps := 1000000) [F]); exact k.1; done)
     | (refine aw_condT rfl (by with_reducible exact rfl) ?_; exact k.1; done)
     | (refine aw_condF rfl (by with_reducible exact rfl) ?_; exact k.1; done)
     | (refine aw_block ?_; exact k.1; done)
     | (refine aw_ret (ret_of (.inr rfl) (by simp; rfl) (Fin.close (Fin.of ?_))); exact k.1; done))
  | (with_reducible refine awl_id ?_
     first
     | ((first
         | refine awl_skipM m rfl ?_
         | refine awl_pureGM m rfl rfl rfl (by first | assumption | kernel_rfl) rfl (fun hc => by first | exact C.1 | exact C.2.1 | exact C.2.2.1 | exact C.2.2.2.1 | exact C.2.2.2.2.1 | exact C.2.2.2.2.2.1 | exact C.2.2.2.2.2.2.1 | exact C.2.2.2.2.2.2.2.1 | exact C.2.2.2.2.2.2.2.2.1 | exact C.2.2.2.2.2.2.2.2.2.1 | apply C.1 | apply C.2.1 | apply C.2.2.1 | apply C.2.2.2.1 | apply C.2.2.2.2.1 | apply C.2.2.2.2.2.1 | apply C.2.2.2.2.2.2.1 | apply C.2.2.2.2.2.2.2.1 | apply C.2.2.2.2.2.2.2.2.1 | apply C.2.2.2.2.2.2.2.2.2.1) (by simp) (by simp) (by simp) ?_
         | refine awl_pureM m rfl rfl rfl (by first | assumption | kernel_rfl) rfl (by first | exact C.1 | exact C.2.1 | exact C.2.2.1 | exact C.2.2.2.1 | exact C.2.2.2.2.1 | exact C.2.2.2.2.2.1 | exact C.2.2.2.2.2.2.1 | exact C.2.2.2.2.2.2.2.1 | exact C.2.2.2.2.2.2.2.2.1 | exact C.2.2.2.2.2.2.2.2.2.1 | apply C.1 | apply C.2.1 | apply C.2.2.1 | apply C.2.2.2.1 | apply C.2.2.2.2.1 | apply C.2.2.2.2.2.1 | apply C.2.2.2.2.2.2.1 | apply C.2.2.2.2.2.2.2.1 | apply C.2.2.2.2.2.2.2.2.1 | apply C.2.2.2.2.2.2.2.2.2.1) (by simp) (by simp) ?_)
        (try simp -implicitDefEqProofs (maxSteps := 1000000) [F])
        exact k.1; done)
     | (refine awl_boxM m rfl rfl rfl (by first | assumption | kernel_rfl) (by first | exact C.1 | exact C.2.1 | exact C.2.2.1 | exact C.2.2.2.1 | exact C.2.2.2.2.1 | exact C.2.2.2.2.2.1 | exact C.2.2.2.2.2.2.1 | exact C.2.2.2.2.2.2.2.1 | exact C.2.2.2.2.2.2.2.2.1 | exact C.2.2.2.2.2.2.2.2.2.1 | apply C.1 | apply C.2.1 | apply C.2.2.1 | apply C.2.2.2.1 | apply C.2.2.2.2.1 | apply C.2.2.2.2.2.1 | apply C.2.2.2.2.2.2.1 | apply C.2.2.2.2.2.2.2.1 | apply C.2.2.2.2.2.2.2.2.1 | apply C.2.2.2.2.2.2.2.2.2.1) rfl (by repeat (first | exact .nil | refine .cons (.ptr _) ?_ | (apply ArgBs.cons; focus (apply ArgB.cl; simp; done)))) ?_ ?_ ?_ ?_; (iterate 3 (focus (simp [σ0]; done))); simp -implicitDefEqProofs (maxSteps := 1000000) [F]; exact k.1; done))
  | (with_reducible refine yl_id ?_
     first
     | refine yl_skip rfl ?_
     | refine yl_pureG rfl rfl rfl (by first | assumption | kernel_rfl) rfl (fun hc => by first | exact C.1 | exact C.2.1 | exact C.2.2.1 | exact C.2.2.2.1 | exact C.2.2.2.2.1 | exact C.2.2.2.2.2.1 | exact C.2.2.2.2.2.2.1 | exact C.2.2.2.2.2.2.2.1 | exact C.2.2.2.2.2.2.2.2.1 | exact C.2.2.2.2.2.2.2.2.2.1 | apply C.1 | apply C.2.1 | apply C.2.2.1 | apply C.2.2.2.1 | apply C.2.2.2.2.1 | apply C.2.2.2.2.2.1 | apply C.2.2.2.2.2.2.1 | apply C.2.2.2.2.2.2.2.1 | apply C.2.2.2.2.2.2.2.2.1 | apply C.2.2.2.2.2.2.2.2.2.1) (by simp) (by simp) (by simp) ?_
     | refine yl_pure rfl rfl rfl (by first | assumption | kernel_rfl) rfl (by first | exact C.1 | exact C.2.1 | exact C.2.2.1 | exact C.2.2.2.1 | exact C.2.2.2.2.1 | exact C.2.2.2.2.2.1 | exact C.2.2.2.2.2.2.1 | exact C.2.2.2.2.2.2.2.1 | exact C.2.2.2.2.2.2.2.2.1 | exact C.2.2.2.2.2.2.2.2.2.1 | apply C.1 | apply C.2.1 | apply C.2.2.1 | apply C.2.2.2.1 | apply C.2.2.2.2.1 | apply C.2.2.2.2.2.1 | apply C.2.2.2.2.2.2.1 | apply C.2.2.2.2.2.2.2.1 | apply C.2.2.2.2.2.2.2.2.1 | apply C.2.2.2.2.2.2.2.2.2.1) (by simp) (by simp) ?_
     (try simp -implicitDefEqProofs (maxSteps := 1000000) [F])
     exact k.1; done)
  | (with_reducible refine zl_id ?_
     first
     | refine zl_skip (by simp) rfl ?_
     | refine zl_pure_guard (by simp) rfl rfl rfl (by first | assumption | kernel_rfl) rfl (fun hc => by first | exact C.1 | exact C.2.1 | exact C.2.2.1 | exact C.2.2.2.1 | exact C.2.2.2.2.1 | exact C.2.2.2.2.2.1 | exact C.2.2.2.2.2.2.1 | exact C.2.2.2.2.2.2.2.1 | exact C.2.2.2.2.2.2.2.2.1 | exact C.2.2.2.2.2.2.2.2.2.1 | apply C.1 | apply C.2.1 | apply C.2.2.1 | apply C.2.2.2.1 | apply C.2.2.2.2.1 | apply C.2.2.2.2.2.1 | apply C.2.2.2.2.2.2.1 | apply C.2.2.2.2.2.2.2.1 | apply C.2.2.2.2.2.2.2.2.1 | apply C.2.2.2.2.2.2.2.2.2.1) (by simp) (by simp) (by simp) ?_
     | refine zl_pure (by simp) rfl rfl rfl (by first | assumption | kernel_rfl) rfl (by first | exact C.1 | exact C.2.1 | exact C.2.2.1 | exact C.2.2.2.1 | exact C.2.2.2.2.1 | exact C.2.2.2.2.2.1 | exact C.2.2.2.2.2.2.1 | exact C.2.2.2.2.2.2.2.1 | exact C.2.2.2.2.2.2.2.2.1 | exact C.2.2.2.2.2.2.2.2.2.1 | apply C.1 | apply C.2.1 | apply C.2.2.1 | apply C.2.2.2.1 | apply C.2.2.2.2.1 | apply C.2.2.2.2.2.1 | apply C.2.2.2.2.2.2.1 | apply C.2.2.2.2.2.2.2.1 | apply C.2.2.2.2.2.2.2.2.1 | apply C.2.2.2.2.2.2.2.2.2.1) (by simp) (by simp) ?_
     (try simp -implicitDefEqProofs (maxSteps := 1000000) [F])
     (repeat first | refine zcurL (by decide +kernel) ?_ | refine zcurH (by decide +kernel) ?_ | refine zcurL' (by decide +kernel) ?_ | refine zcurH' (by decide +kernel) ?_)
     exact k.1; done)
  | (refine ret_of (.inl rfl) (by simp; rfl) (Fin.close (Fin.of ?_)); exact k.1; done)
  | ((fail_if_success (with_reducible first | refine awl_id ?_ | refine aw_id ?_ | refine yl_id ?_ | refine zl_id ?_)); (first | refine awl_id ?_ | refine aw_id ?_ | refine yl_id ?_ | refine zl_id ?_); (try simp -implicitDefEqProofs (maxSteps := 1000000) [F]); exact k.1; done)) : P := h ⟨⟩ F C ⟨k⟩
/-- A step: ms the variables that are written, F what simp may use, C contracts. -/
theorem aw_M {P Q A B : Prop} (ms : List Nat) (F : A) (C : B) (k : Q) (h : Mu ms → A → B → Shut Q → P := by
  intro m F C k
  first
  | (with_reducible refine aw_id ?_
     first
     | (refine aw_seq ?_; exact k.1; done)
     | (refine aw_runM m ?_; (try simp -implicitDefEqProofs (maxSteps := 1000000) [F]); exact k.1; done)
     | ((first | refine aw_skip ?_ | refine aw_exit ?_); (try simp -implicitDefEqProofs (maxSteps := 1000000) [F]); exact k.1; done)
     | (refine aw_condT rfl (by with_reducible exact rfl) ?_; exact k.1; done)
     | (refine aw_condF rfl (by with_reducible exact rfl) ?_; exact k.1; done)
     | (refine aw_block ?_; exact k.1; done)
     | (refine aw_ret (ret_of (.inr rfl) (by simp; rfl) (Fin.close (Fin.of ?_))); exact k.1; done))
  | (with_reducible refine awl_id ?_
     first
     | ((first
         | refine awl_skipM m rfl ?_
         | refine awl_pureGM m rfl rfl rfl (by first | assumption | kernel_rfl) rfl (fun hc => by first | exact C.1 | exact C.2.1 | exact C.2.2.1 | exact C.2.2.2.1 | exact C.2.2.2.2.1 | exact C.2.2.2.2.2.1 | exact C.2.2.2.2.2.2.1 | exact C.2.2.2.2.2.2.2.1 | exact C.2.2.2.2.2.2.2.2.1 | exact C.2.2.2.2.2.2.2.2.2.1 | apply C.1 | apply C.2.1 | apply C.2.2.1 | apply C.2.2.2.1 | apply C.2.2.2.2.1 | apply C.2.2.2.2.2.1 | apply C.2.2.2.2.2.2.1 | apply C.2.2.2.2.2.2.2.1 | apply C.2.2.2.2.2.2.2.2.1 | apply C.2.2.2.2.2.2.2.2.2.1) (by simp) (by simp) (by simp) ?_
         | refine awl_pureM m rfl rfl rfl (by first | assumption | kernel_rfl) rfl (by first | exact C.1 | exact C.2.1 | exact C.2.2.1 | exact C.2.2.2.1 | exact C.2.2.2.2.1 | exact C.2.2.2.2.2.1 | exact C.2.2.2.2.2.2.1 | exact C.2.2.2.2.2.2.2.1 | exact C.2.2.2.2.2.2.2.2.1 | exact C.2.2.2.2.2.2.2.2.2.1 | apply C.1 | apply C.2.1 | apply C.2.2.1 | apply C.2.2.2.1 | apply C.2.2.2.2.1 | apply C.2.2.2.2.2.1 | apply C.2.2.2.2.2.2.1 | apply C.2.2.2.2.2.2.2.1 | apply C.2.2.2.2.2.2.2.2.1 | apply C.2.2.2.2.2.2.2.2.2.1) (by simp) (by simp) ?_)
        (try simp -implicitDefEqProofs (maxSteps := 1000000) [F])
        exact k.1; done)
     | (refine awl_boxM m rfl rfl rfl (by first | assumption | kernel_rfl) (by first | exact C.1 | exact C.2.1 | exact C.2.2.1 | exact C.2.2.2.1 | exact C.2.2.2.2.1 | exact C.2.2.2.2.2.1 | exact C.2.2.2.2.2.2.1 | exact C.2.2.2.2.2.2.2.1 | exact C.2.2.2.2.2.2.2.2.1 | exact C.2.2.2.2.2.2.2.2.2.1 | apply C.1 | apply C.2.1 | apply C.2.2.1 | apply C.2.2.2.1 | apply C.2.2.2.2.1 | apply C.2.2.2.2.2.1 | apply C.2.2.2.2.2.2.1 | apply C.2.2.2.2.2.2.2.1 | apply C.2.2.2.2.2.2.2.2.1 | apply C.2.2.2.2.2.2.2.2.2.1) rfl (by repeat (first | exact .nil | refine .cons (.ptr _) ?_ | (apply ArgBs.cons; focus (apply ArgB.cl; simp; done)))) ?_ ?_ ?_ ?_; (iterate 3 (focus (simp [σ0]; done))); simp -implicitDefEqProofs (maxSteps := 1000000) [F]; exact k.1; done))
  | (refine ret_of (.inl rfl) (by simp; rfl) (Fin.close (Fin.of ?_)); exact k.1; done)
  | ((fail_if_success (with_reducible first | refine awl_id ?_ | refine aw_id ?_)); (first | refine awl_id ?_ | refine aw_id ?_); (try simp -implicitDefEqProofs (maxSteps := 1000000) [F]); exact k.1; done)) : P := h ⟨⟩ F C ⟨k⟩
end Go.AL
/-! Regions that draw, where two operations may stand in either order: shown for each. -/
namespace Go.AL
set_option linter.unusedVariables false
set_option linter.unusedSimpArgs false
variable {P : Program} {σ : ASt} {D : List Deferred} {Q : Exit → List AV → ASt → Prop} {fr : List AV}
/-! ### in another order of the text -/
/-- Is it one? -/
def isPerm (n : Nat) (ps : List Nat) : Bool := (decide (ps.length = n) && (List.range n).all fun i => ps.contains i) && decide ps.Nodup
section
variable {l : List Oper} {ps : List Nat} (hp : isPerm l.length ps = true)
include hp
end
end Go.AL
/-! What append hands back, closed at once. -/
namespace Go.AL
set_option linter.unusedVariables false
set_option linter.unusedSimpArgs false
variable {P : Program} {σ : ASt} {R : AV → ASt → Prop} {D : List Deferred} {Q : Exit → List AV → ASt → Prop} {fr : List AV} {ops : Array Oper} {o : Oper} {rest : List Oper}
theorem Outc.fin {G w v w'} (h : Outc G w (fun r τ => Fin R r τ) v w') : Outc G w R v w' := by
  obtain ⟨r, G1, σ1, h1, h2, h3, h4⟩ := h
  obtain ⟨r2, G2, σ2, k1, k2, k3, k4⟩ := h4 G1 w' v h2 h3
  exact ⟨r2, G2, σ2, h1.trans k1, k2, k3, k4⟩
theorem OpQ.fin {ρ : Operand → AV} (h : OpQ P o ρ σ fun r τ => Fin R r τ) : OpQ P o ρ σ R := fun G e w h1 h2 => by
  have h := h G e w h1 h2
  generalize (execOp e o).run P w = n at *
  cases n with
  | halt => exact h
  | ok n w' =>
    cases n with
    | value v => exact Outc.fin h
    | skip => exact Outc.fin h
    | enter f args => exact Calls.mono h fun e w'' he => retOf_mono (fun v w' h => Outc.fin h) he
    | round l f tmps assign body => exact RoundIn.mono h fun e w'' he => retOf_mono (fun v w' h => Outc.fin h) he
    | _ => exact h
end Go.AL
