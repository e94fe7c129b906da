/- Parts of the proof of MonoHolds: the logic, contracts, plain laws. -/
import Derived.Test.YtjldlcakinmajaaZMonoHolds11
import Derived.Test.YtjldlcakinmajaaZMonoHolds8
/-! Functions with one variable of the caller's, by its address. -/
namespace Go.AL
set_option linter.unusedVariables false
set_option linter.unusedSimpArgs false
variable {P : Program} {σ : ASt} {R : AV → ASt → Prop} {D : List Deferred} {Q : Exit → List AV → ASt → Prop} {fr : List AV} {ops : Array Oper}
/-- With the variable number 0, which holds cs: it hands back r, and leaves cs'. -/
def BC (P : Program) (f : FuncId) (args cs : List AV) (r : AV) (cs' : List AV) : Prop := ACall P f args (mkSt [(0, cs)] [] 1) fun r' σ' => r' = r ∧ σ'.bx 0 = some cs'
theorem Outc.low {G w} {R R' : AV → ASt → Prop} {v w'} (h : Outc G w R v w') (hr : ∀ r σ, R r σ → ∃ τ, ASt.Le τ σ ∧ R' r τ) : Outc G w R' v w' := by
  obtain ⟨r, G', σ', h1, h2, h3, h4⟩ := h
  obtain ⟨τ, hl, h5⟩ := hr r σ' h4
  exact ⟨r, G', τ, h1, h2.less hl, h3, h5⟩
theorem ACall.low {f : FuncId} {args : List AV} {R R' : AV → ASt → Prop} (h : ACall P f args σ R) (hr : ∀ r σ, R r σ → ∃ τ, ASt.Le τ σ ∧ R' r τ) : ACall P f args σ R' :=
  fun G w vs hv hw => Calls.mono (h G w vs hv hw) fun e w' he => retOf_mono (fun v w1 ho => ho.low hr) he
theorem rens_closed {ρ : Nat → Nat} {l : List AV} (h : ∀ c ∈ l, Cl c) : rens ρ l = l := by
  rw [rens_map]; conv => rhs; rw [← List.map_id l]
  exact List.map_congr_left fun c hc => ren_closed ρ (h c hc)
/-- The arguments: the variable's own address, and what is closed. -/
inductive ArgB (b : Nat) : AV → AV → Prop where
  | ptr (off : Nat) : ArgB b (.ptr 0 off) (.ptr b off)
  | cl {x : AV} (h : Cl x) : ArgB b x x
inductive ArgBs (b : Nat) : List AV → List AV → Prop where
  | nil : ArgBs b [] []
  | cons {x y : AV} {xs ys : List AV} (h : ArgB b x y) (t : ArgBs b xs ys) : ArgBs b (x :: xs) (y :: ys)
theorem ArgBs.rens {b n : Nat} {xs ys : List AV} (h : ArgBs b xs ys) : rens (ridx [b] n) xs = ys := by
  induction h with
  | nil => rfl
  | cons h t ih =>
    cases h with
    | ptr off => simp [Go.AL.rens, ren, ridx, ih]
    | cl h => simp [Go.AL.rens, ren_closed _ h, ih]
theorem BC.call {f : FuncId} {args args' cs cs' : List AV} {r : AV} {b : Nat} (h : BC P f args cs r cs') (ha : ArgBs b args args') (hcs : ∀ c ∈ cs, Cl c) (hcs' : ∀ c ∈ cs', Cl c) (hr : Cl r) (hb : σ.bx b = some cs) (hbm : σ.mp b = none) (hbs : σ.sl b = none) :
    ACall P f args' σ fun r' σ' => r' = r ∧ σ' = { σ with bx := upd σ.bx b (some cs') } := by
  refine acall_ok fun hok => ?_
  have hbn : b < σ.next := by
    rcases Nat.lt_or_ge b σ.next with h' | h'
    · exact h'
    · rw [hok.bx b h'] at hb; cases hb
  have h0 : ACall P f args (mkSt [(0, cs)] [] 1) fun r' σ' => (r' = r ∧ σ'.bx 0 = some cs') ∧ σ'.mp 0 = none ∧ σ'.sl 0 = none := by
    refine h.low fun r' τ ⟨e1, e2⟩ => ⟨⟨τ.bx, fun _ => none, fun _ => none, τ.next⟩, ⟨fun _ _ e => e, fun _ _ e => (nomatch e), fun _ _ e => (nomatch e), Nat.le_refl _⟩, ⟨e1, e2⟩, rfl, rfl⟩
  have h1 := ACall.frame0 (σ := σ) (ids := [b]) (h := h0) rfl ⟨fun i hi => by
      have : 1 ≤ i := hi
      show List.lookup i [(0, cs)] = none
      rw [List.lookup_cons]
      have : (i == 0) = false := by simp; omega
      rw [this]; rfl, fun _ _ => rfl, fun _ _ => rfl⟩ (by simpa using hbn) (by simp) (fun i cs0 e => by
      have h2 : (0, cs) = (i, cs0) ∨ False := by
        have := lookup_mem (l := [(0, cs)]) (b := i) (c := cs0) e
        simp at this
        exact .inl (by rw [this.1, this.2])
      simp only [or_false, Prod.mk.injEq] at h2
      obtain ⟨rfl, rfl⟩ := h2
      rw [rens_closed hcs]
      simpa [ridx] using hb) (fun i es e => by cases e) (fun i xs e => by
      have : List.lookup i ([] : List (Nat × List AV)) = some xs := e
      cases this) (fun r' τ ⟨⟨e1, e2⟩, e3, e4⟩ => by
      subst e1
      refine ⟨hr, fun i cs0 e hi => ?_, fun i es e hi => ?_, fun i xs e hi => ?_⟩
      all_goals
        obtain rfl : i = 0 := by simp at hi; omega
      · rw [e2] at e; obtain rfl := Option.some.inj e; exact hcs'
      · rw [e3] at e; cases e
      · rw [e4] at e; cases e)
  rw [ha.rens] at h1
  refine h1.mono fun r' σ' ⟨τ, ⟨⟨e1, e2⟩, e3, e4⟩, e5⟩ => ⟨e1, ?_⟩
  rw [e5]
  unfold back0
  congr 1
  · funext c
    unfold upd
    by_cases hc : c = b
    · subst hc; simp [rfind, e2]
    · simp [rfind, hc]
  · funext c
    by_cases hc : c = b
    · subst hc; simp [rfind, e3, hbm]
    · simp [rfind, hc]
  · funext c
    by_cases hc : c = b
    · subst hc; simp [rfind, e4, hbs]
    · simp [rfind, hc]
/-- Such a call, next in a run. -/
theorem awl_box {o : Oper} {rest : List Oper} {f : Operand} {aa : Array Operand} {ts : Array TypeId} (mu : List Nat) (ho : o.op = .call { callee := .value f, args := aa, argTypes := ts }) (hw : awanted ops o fr = some true)
    {F : FuncId} {first cap : List AV} (hf : acallee (aev fr f) = some (F, first, cap)) (hc : callable P F = true) {args args' cs cs' : List AV} {r : AV} {b : Nat} (h : BC P F args cs r cs') (he : first ++ aa.toList.map (aev fr) ++ cap = args') (ha : ArgBs b args args')
    (hcs : ∀ c ∈ cs, Cl c) (hcs' : ∀ c ∈ cs', Cl c) (hr : Cl r) (hb : σ.bx b = some cs) (hbm : σ.mp b = none) (hbs : σ.sl b = none)
    (hk : Shut (ARun P D ops Q mu rest (aput fr o.dst r) { σ with bx := upd σ.bx b (some cs') })) : AWL P D ops Q (o :: rest) fr σ :=
  awl_cons hw (opq_call ho hf hc (by rw [he]; exact (h.call ha hcs hcs' hr hb hbm hbs).mono fun r' τ' ⟨e1, e2⟩ => by subst e1; subst e2; exact awl_run' mu hk))
theorem bc_of {f : FuncId} {fn : Func} {c : Code} {n : Nat} {args cs cs' : List AV} {r : AV} (hf : P.funcs[f]? = some fn) (hn : fn.ntmps = n) (hb : fn.body = some c) (h : AW P [] c (RetQ P fn fun r' σ' => r' = r ∧ σ'.bx 0 = some cs') (args ++ List.replicate (n - args.length) (.p undef)) (mkSt [(0, cs)] [] 1)) : BC P f args cs r cs' :=
  acall_of hf hn hb h
end Go.AL
/-! What is not carried out, in regions that draw their order. -/
namespace Go.AL
set_option linter.unusedVariables false
set_option linter.unusedSimpArgs false
variable {P : Program} {σ : ASt} {R : AV → ASt → Prop} {D : List Deferred} {Q : Exit → List AV → ASt → Prop} {fr : List AV} {ops : Array Oper}
theorem yld_not {o : Oper} (hc : gcond ops o fr = some false) : Yld P ops σ o fr (.opt false (.p undef)) := by
  intro G a w ha hw
  have hg := gcond_agree hc ha
  exact ⟨fun h => by rw [hg] at h; (cases h), fun _ => .opt false _ _ (fun h => by cases h) fun _ => rfl⟩
theorem yl_skip {K : List AV → Prop} {o : Oper} {rest : List Oper} (hc : gcond ops o fr = some false) (hk : Shut (YRun P ops σ K rest (aput fr o.dst (.opt false (.p undef))))) : YL P ops σ K (o :: rest) fr :=
  ⟨_, yld_not hc, yl_run hk.out⟩
theorem zl_skip {mu imp : List Nat} {l : List Oper} {K : List AV → ASt → Prop} {i : Nat} {old : List ASt} {pd : List Pend} {o : Oper} {rest : List Oper} (hz : zst mu imp o = false) (hc : gcond l.toArray o fr = some false)
    (hk : Shut (ZRun P mu imp l K (i + 1) rest (aput fr o.dst (.opt false (.p undef))) σ old pd)) : ZS P mu imp l K i (o :: rest) fr σ old pd := by
  intro hok
  unfold ZL; rw [if_neg (by rw [hz]; decide)]
  exact ⟨_, .inl ⟨fun σ' => yld_not hc, zl_run hk.out hok⟩⟩
/-- Such a contract, over what is closed. -/
structure BK (P : Program) (f : FuncId) (args cs : List AV) (r : AV) (cs' : List AV) : Prop where
  call : BC P f args cs r cs'
  cl : ∀ c ∈ cs, Cl c
  cl' : ∀ c ∈ cs', Cl c
  clr : Cl r
theorem awl_boxK {o : Oper} {rest : List Oper} {f : Operand} {aa : Array Operand} {ts : Array TypeId} (mu : List Nat) (ho : o.op = .call { callee := .value f, args := aa, argTypes := ts }) (hw : awanted ops o fr = some true)
    {F : FuncId} {first cap : List AV} (hf : acallee (aev fr f) = some (F, first, cap)) (hc : callable P F = true) {args args' cs cs' : List AV} {r : AV} {b : Nat} (h : BK P F args cs r cs') (he : first ++ aa.toList.map (aev fr) ++ cap = args') (ha : ArgBs b args args')
    (hb : σ.bx b = some cs) (hbm : σ.mp b = none) (hbs : σ.sl b = none)
    (hk : Shut (ARun P D ops Q mu rest (aput fr o.dst r) { σ with bx := upd σ.bx b (some cs') })) : AWL P D ops Q (o :: rest) fr σ :=
  awl_box mu ho hw hf hc h.call he ha h.cl h.cl' h.clr hb hbm hbs hk
end Go.AL
/-! append of nothing; all that is one's own stays as it is. -/
namespace Go.AL
open Go.RowKit (Below)
set_option linter.unusedVariables false
set_option linter.unusedSimpArgs false
variable {P : Program} {σ : ASt} {R : AV → ASt → Prop} {D : List Deferred} {Q : Exit → List AV → ASt → Prop} {fr : List AV} {ops : Array Oper} {o : Oper} {ρ : Operand → AV}
theorem run_append0 {t el ty : TypeId} {n : Nat} {g : Bool} (ht : P.underlying t = some (.slice el)) (hn : tsize P el = some (n, g)) {b a : Option Addr} {l c c2 : Nat} (hle : l ≤ c) (w : World) :
    (Builtin.append_ #[t, t] ty #[.slice b l c, .slice a 0 c2]).run P w = .ok (.slice b l c) w := by
  unfold Builtin.append_
  have h1 := run_underlying' ht w
  have h2 := run_sizeOf' hn w
  cases a <;> cases b <;> simp [h1, h2, Builtin.lenOf, Builtin.firstCells, loadCells, loadCellsFrom, storeCells, hle]
theorem opq_append0 {s x : Operand} {t el : TypeId} (ho : o.op = .call { callee := .builtin .append, args := #[s, x], argTypes := #[t, t] }) {b off k n : Nat} {g : Bool}
    (hs : ρ s = .hsl b off k) (hx : ρ x = .vsl [] ∨ ∃ c, ρ x = .p (.slice none 0 c)) (hel : telemT P t = some el) (hn : tsize P el = some (n, g)) (hr : R (.hsl b off k) σ) : OpQ P o ρ σ R := by
  have ht : P.underlying t = some (.slice el) := by
    unfold telemT at hel
    split at hel
    · rename_i h; rw [h]; simpa using hel
    · cases hel
  refine opq_v (s := fun e => Builtin.append_ #[t, t] o.type #[e s, e x]) (fun e => execOp_append e ho) _ hr fun G e w he hw => ?_
  have h1 := he s
  rw [hs] at h1
  have h2 := he x
  have h3 : ∃ a c2, e x = .slice a 0 c2 := by
    rcases hx with hx | ⟨c, hx⟩
    · rw [hx] at h2
      generalize e x = v at h2
      generalize hys : ([] : List AV) = ys at h2
      cases h2 with
      | vnil a cap => exact ⟨_, _, rfl⟩
      | vsl xs β o s cap val hcap hs h hr => subst hys; exact ⟨_, _, rfl⟩
    · rw [hx] at h2
      generalize e x = v at h2
      cases h2; exact ⟨_, _, rfl⟩
  obtain ⟨a, c2, h3⟩ := h3
  rw [h3]
  generalize e s = v at h1
  cases h1 with
  | hsl _ _ _ β o s cap h hle => exact ⟨_, run_append0 ht hn (by omega) w, .hsl b off k β o s cap h hle⟩
  | hend _ _ a β o s cap h hle => exact ⟨_, run_append0 ht hn (by omega) w, .hend b off a β o s cap h hle⟩
  | hnil _ a h => exact ⟨_, run_append0 ht hn (by omega) w, .hnil b a h⟩
theorem zl_append0 {mu imp : List Nat} {l : List Oper} {K : List AV → ASt → Prop} {i : Nat} {old : List ASt} {pd : List Pend} {rest : List Oper} {s x : Operand} {t el : TypeId} (hz : zst mu imp o = true) (ho : o.op = .call { callee := .builtin .append, args := #[s, x], argTypes := #[t, t] }) (hg : o.guard = none) {b off k n : Nat} {g : Bool}
    (hs : aev fr s = .hsl b off k) (hx : aev fr x = .vsl [] ∨ ∃ c, aev fr x = .p (.slice none 0 c)) (hel : telemT P t = some el) (hn : tsize P el = some (n, g))
    (hk2 : pendOk P mu imp l (old.length + 1) σ pd ∧ Shut (ZRun P mu imp l K (i + 1) rest (aput fr o.dst (.hsl b off k)) σ (σ :: old) pd)) : ZS P mu imp l K i (o :: rest) fr σ old pd := by
  intro hok
  unfold ZL; rw [if_pos hz]
  refine ⟨_, _, yldT_opq hg fun ρ hρ => ?_, pendOk_yld hok hk2.1, zl_run hk2.2.out hok⟩
  have h1 : ρ s = aev fr s := hρ s (by rw [ho]; simp [Op.operands, Call.operands])
  have h2 : ρ x = aev fr x := hρ x (by rw [ho]; simp [Op.operands, Call.operands])
  exact opq_append0 ho (by rw [h1]; exact hs) (by rw [h2]; exact hx) hel hn ⟨rfl, rfl⟩
/-! ### all slices of one's own stay as they are from now on -/
def ASt.shut (σ : ASt) : ASt where
  bx b := (σ.bx b).map fun cs => cs.map (clo0 σ)
  mp b := σ.mp b
  sl _ := none
  next := σ.next
theorem SimW.shut {G σ w} (h : SimW G σ w) : ∃ G', Le G w G' w ∧ SimW G' σ.shut w ∧ ∀ v u, Rep G w v u → Rep G' w (clo σ v) u := by
  obtain ⟨G', h1, h2, h3⟩ := h.close
  refine ⟨G', h1, ?_, h3⟩
  have own : ∀ β k, Owns G' σ.shut β k → Owns G' σ.noSl β k := by
    intro β k ho
    cases ho with
    | bx b β cs e g =>
      obtain ⟨cs0, e0, _⟩ := Option.map_eq_some_iff.1 e
      exact .bx b β cs0 e0 g
    | mp b β es e g => exact .mp b β es e g
    | sl b β r xs e g => cases e
  refine ⟨h2.base, fun b cs e => ?_, fun b es e => h2.mp b es e, fun b xs e => (nomatch e), fun β k ho => ?_, h2.stIn, fun b hb => ?_⟩
  · obtain ⟨cs0, e0, rfl⟩ := Option.map_eq_some_iff.1 e
    obtain ⟨β, arr, el, g1, g2, g3, g4⟩ := h2.bx b cs0 e0
    obtain ⟨β', arr', el', k1, k2, k3, k4⟩ := h.bx b cs0 e0
    obtain rfl : β' = β := Option.some.inj ((h1.bx _ _ k1).symm.trans g1)
    rw [g2] at k2
    obtain ⟨rfl, rfl⟩ : arr = arr' ∧ el = el' := by simpa using k2
    refine ⟨β', arr, el, g1, g2, by rw [List.length_map]; exact g3, fun i c v hc hv => ?_⟩
    rw [List.getElem?_map] at hc
    obtain ⟨c0, hc0, rfl⟩ := Option.map_eq_some_iff.1 hc
    have hr := k4 i c0 v hc0 hv
    -- one cell
    have key : ∀ c0 : AV, Rep G w c0 v → Rep G' w (clo0 σ c0) v := by
      intro c0 hr
      by_cases ha : (∃ l, c0 = .agg l) ∨ ∃ l, c0 = .tup l
      · have : clo0 σ c0 = c0 := by
          rcases ha with ⟨l, rfl⟩ | ⟨l, rfl⟩ <;> rfl
        rw [this]; exact hr.mono h1
      · have : clo σ c0 = clo0 σ c0 := by
          cases c0 <;> first | rfl | (exfalso; exact ha (.inl ⟨_, rfl⟩)) | (exfalso; exact ha (.inr ⟨_, rfl⟩))
        rw [← this]; exact h3 _ _ hr
    exact key c0 hr
  · have ho' := own β k ho
    exact ⟨(h2.own β k ho').1, fun k' hk' => (h2.own β k ho').2.1 k' (own _ _ hk'), (h2.own β k ho').2.2⟩
  · obtain ⟨f1, f2, f3, f4, f5, f6⟩ := h2.fresh b hb
    refine ⟨f1, f2, f3, ?_, f5, rfl⟩
    have f4' : σ.bx b = none := f4
    show (σ.bx b).map _ = none
    rw [f4']; rfl
theorem aw_shut {c : Code} (h : AW P D c Q (fr.map (clo σ)) σ.shut) : AW P D c Q fr σ := by
  intro _ _ G a w hs
  obtain ⟨G', h1, h2, h3⟩ := hs.w.shut
  refine wp_mono (h _ inferInstance G' a w ⟨⟨by simpa using hs.tmps.1, fun i c v hc hv => ?_⟩, hs.defers.mono h1, h2⟩) fun e a w h => lift_le h1 h
  rw [List.getElem?_map] at hc
  obtain ⟨c', hc', rfl⟩ := Option.map_eq_some_iff.1 hc
  exact h3 _ _ (hs.tmps.2 i c' v hc' hv)
attribute [simp] ASt.shut
end Go.AL
/-! Regions that draw, make one variable and fill it; a nil slice within a variable becomes one's own. -/
namespace Go.AL
open Go.Proofs
variable {P : Program} {σ : ASt} {D : List Deferred} {Q : Exit → List AV → ASt → Prop} {fr : List AV}
end Go.AL
/-! Ranges over functions: calls of yield; small contracts over one variable and a loop's record; leaving with marks. -/
namespace Go.AL
open Go.RowKit (Below)
set_option linter.unusedVariables false
set_option linter.unusedSimpArgs false
variable {P : Program} {σ : ASt} {R : AV → ASt → Prop} {D : List Deferred} {Q : Exit → List AV → ASt → Prop} {fr : List AV} {ops : Array Oper} {o : Oper} {ρ : Operand → AV}
/-! ### leaving with marks -/
theorem Rep.move {G w G' w'} (hb : ∀ b β, G.bx b = some β → G'.bx b = some β) (hm : ∀ b β, G.mp b = some β → G'.mp b = some β) (hs : ∀ b β, G.sl b = some β → G'.sl b = some β)
    (hc : ∀ β o v, G.st β o → w.cell? ⟨β, o, none⟩ = some v → G'.st β o ∧ w'.cell? ⟨β, o, none⟩ = some v) (hp : ∀ β e n, G.st β 0 → w.heap[β]? = some (.map e n) → G'.st β 0 ∧ w'.heap[β]? = some (.map e n)) {c v} (h : Rep G w c v) : Rep G' w' c v := by
  induction h with
  | p x => exact .p x
  | agg cs vs hs _ ih => exact .agg cs vs hs ih
  | tup cs vs hs _ ih => exact .tup cs vs hs ih
  | ptr b off β h => exact .ptr b off β (hb _ _ h)
  | vnil a cap => exact .vnil a cap
  | vsl xs β o s cap val hcap hs h _ ih => exact .vsl xs β o s cap val hcap hs (fun i j c e => hc _ _ _ (h i j c e).1 (h i j c e).2) ih
  | vel xs i off β o s val hs h _ ih => exact .vel xs i off β o s val hs (fun i j c e => hc _ _ _ (h i j c e).1 (h i j c e).2) ih
  | hsl b off len β o s cap h hle => exact .hsl b off len β o s cap (hs _ _ h) hle
  | hend b off a β o s cap h hle => exact .hend b off a β o s cap (hs _ _ h) hle
  | hnil b a h => exact .hnil b a (hs _ _ h)
  | hel b i off β o s cap h => exact .hel b i off β o s cap (hs _ _ h)
  | map m μ h => exact .map m μ (hm _ _ h)
  | it m μ h => exact .it m μ (hm _ _ h)
  | yld m μ h => exact .yld m μ (hm _ _ h)
  | vmp ks vs μ clock ents h1 h2 h3 h4 _ _ ih5 ih6 => exact .vmp ks vs μ clock ents (hp _ _ _ h1 h2).1 (hp _ _ _ h1 h2).2 h3 h4 ih5 ih6
  | fn f aa bs us vs h1 h2 _ _ ih3 ih4 => exact .fn f aa bs us vs h1 h2 ih3 ih4
  | ifc t c v _ ih => exact .ifc t c v ih
  | opt b c v _ h0 ih => exact .opt b c v ih h0
  | any v => exact .any v
end Go.AL
/-! Ranges over functions: yield; small contracts over one variable and a loop's record; the statement. -/
namespace Go.AL
open Go.RowKit (Below)
set_option linter.unusedVariables false
set_option linter.unusedSimpArgs false
variable {P : Program} {σ : ASt} {R : AV → ASt → Prop} {D : List Deferred} {Q : Exit → List AV → ASt → Prop} {fr : List AV} {ops : Array Oper} {o : Oper} {ρ : Operand → AV}
/-! ### a call of yield -/
def AYield (P : Program) (m : Nat) (args : List AV) (σ : ASt) (R : AV → ASt → Prop) : Prop :=
  ∀ G w (vs : Array Value) μ, RepL G w args vs.toList → SimW G σ w → G.mp m = some μ →
    ∃ fn tmps assign body, (Instr.yield μ vs).run P w = .ok (.round μ fn tmps assign body) w ∧ RoundIn Fence.wide 1 P μ fn tmps assign body w (retOf (Outc G w R))
theorem AYield.mono {m args} {R' : AV → ASt → Prop} (h : AYield P m args σ R) (hr : ∀ r σ, R r σ → R' r σ) : AYield P m args σ R' := fun G w vs μ h1 h2 h3 => by
  obtain ⟨fn, tmps, assign, body, k1, k2⟩ := h G w vs μ h1 h2 h3
  exact ⟨fn, tmps, assign, body, k1, RoundIn.mono k2 fun e w' he => retOf_mono (fun v w' h => Outc.mono h hr) he⟩
/-! ### the record turns -/
/-! ### small contracts -/
/-- One variable, number 0; one record, number 1. -/
def yst (cs : List AV) (es : List (AV × AV)) : ASt := ⟨fun b => if b = 0 then some cs else none, fun b => if b = 1 then some es else none, fun _ => none, 2⟩
@[simp] theorem yst_bx (cs es) (b : Nat) : (yst cs es).bx b = if b = 0 then some cs else none := rfl
@[simp] theorem yst_mp (cs es) (b : Nat) : (yst cs es).mp b = if b = 1 then some es else none := rfl
@[simp] theorem yst_sl (cs es) (b : Nat) : (yst cs es).sl b = none := rfl
@[simp] theorem yst_next (cs es) : (yst cs es).next = 2 := rfl
def sub (b : Nat) : AV → AV
  | .ptr 0 off => .ptr b off
  | v => v
/-- Closed, but for that variable's address. -/
def F0 (v : AV) : Prop := Cl v ∨ ∃ off, v = .ptr 0 off
theorem F0.ren {b m n : Nat} {v : AV} (h : F0 v) : ren (ridx [b, m] n) v = sub b v := by
  rcases h with h | ⟨off, rfl⟩
  · rw [ren_closed _ h]; cases h <;> rfl
  · simp [Go.AL.ren, ridx, sub]
theorem F0.rens {b m n : Nat} {l : List AV} (h : ∀ v ∈ l, F0 v) : rens (ridx [b, m] n) l = l.map (sub b) := by
  rw [rens_map]; exact List.map_congr_left fun v hv => (h v hv).ren
/-- The arguments, too: that variable's address, the record's yield, what is closed. -/
def subA (b m : Nat) : AV → AV
  | .ptr 0 off => .ptr b off
  | .yld 1 => .yld m
  | v => v
def A0 (v : AV) : Prop := Cl v ∨ (∃ off, v = .ptr 0 off) ∨ v = .yld 1
theorem A0.rens {b m n : Nat} {l : List AV} (h : ∀ v ∈ l, A0 v) : rens (ridx [b, m] n) l = l.map (subA b m) := by
  rw [rens_map]
  refine List.map_congr_left fun v hv => ?_
  rcases h v hv with h | ⟨off, rfl⟩ | rfl
  · rw [ren_closed _ h]; cases h <;> rfl
  · simp [ren, ridx, subA]
  · simp [ren, ridx, subA]
def ScR (fs : List AV) (r : AV) (cs' : List AV) (o' : Obj) (r' : AV) (σ' : ASt) : Prop := r' = r ∧ σ'.bx 0 = some cs' ∧ σ'.mp 1 = some (obE o' fs)
def SC (P : Program) (f : FuncId) (args cs : List AV) (o : Obj) (fs : List AV) (r : AV) (cs' : List AV) (o' : Obj) : Prop := ACall P f args (yst cs (obE o fs)) (ScR fs r cs' o')
def SY (P : Program) (args cs : List AV) (o : Obj) (fs : List AV) (r : AV) (cs' : List AV) (o' : Obj) : Prop := AYield P 1 args (yst cs (obE o fs)) (ScR fs r cs' o')
/-- What comes of such a call. -/
def ScB (σ : ASt) (b m : Nat) (fs : List AV) (r : AV) (cs' : List AV) (o' : Obj) (r' : AV) (σ' : ASt) : Prop :=
  r' = r ∧ ∃ n, σ.next ≤ n ∧ σ' = { σ with bx := upd σ.bx b (some cs'), mp := upd σ.mp m (some (obE o' (fs.map (sub b)))), next := n }
structure ScH (σ : ASt) (b m : Nat) (args cs : List AV) (o : Obj) (fs : List AV) (r : AV) (cs' : List AV) : Prop where
  hargs : ∀ v ∈ args, A0 v
  hfs : ∀ v ∈ fs, F0 v
  hcs : ∀ v ∈ cs, Cl v
  hcs' : ∀ v ∈ cs', Cl v
  hr : Cl r
  bx : σ.bx b = some cs
  mp : σ.mp m = some (obE o (fs.map (sub b)))
  bm : σ.mp b = none
  bs : σ.sl b = none
  mx : σ.bx m = none
  ms : σ.sl m = none
theorem sc_core {b m : Nat} {args cs : List AV} {ob ob' : Obj} {fs : List AV} {r : AV} {cs' : List AV} (hh : ScH σ b m args cs ob fs r cs') {G : Ghost} {w : World} {vs : Array Value} (hv : RepL G w (args.map (subA b m)) vs.toList) (hw : SimW G σ w) :
    ∃ Gc : Ghost, SimW Gc (yst cs (obE ob fs)) w ∧ RepL Gc w args vs.toList ∧ Gc.mp 1 = G.mp m ∧ ∀ v w1, Outc Gc w (ScR fs r cs' ob') v w1 → Outc G w (ScB σ b m fs r cs' ob') v w1 := by
  have hok : σ.Ok := ⟨fun b hb => (hw.fresh b hb).2.2.2.1, fun b hb => (hw.fresh b hb).2.2.2.2.1, fun b hb => (hw.fresh b hb).2.2.2.2.2⟩
  have hbn : b < σ.next := by
    rcases Nat.lt_or_ge b σ.next with h' | h'
    · exact h'
    · have := hok.bx b h'; rw [hh.bx] at this; cases this
  have hmn : m < σ.next := by
    rcases Nat.lt_or_ge m σ.next with h' | h'
    · exact h'
    · have := hok.mp m h'; rw [hh.mp] at this; cases this
  have hne : b ≠ m := fun e => by have := hh.mp; rw [← e, hh.bm] at this; cases this
  obtain ⟨Gc, h1, h2, h3, h4⟩ := frame_core (σ := σ) (σc := yst cs (obE ob fs)) (args := args) [b, m] rfl ⟨fun i hi => if_neg (by simp at hi; omega), fun i hi => if_neg (by simp at hi; omega), fun _ _ => rfl⟩
    (by simp; exact ⟨hbn, hmn⟩) (by simp [hne]) (fun i cs0 e => by
      simp only [yst_bx] at e
      split at e
      · rename_i hi; subst hi
        obtain rfl := Option.some.inj e
        rw [rens_closed hh.hcs]; simpa [ridx] using hh.bx
      · cases e) (fun i es e => by
      simp only [yst_mp] at e
      split at e
      · rename_i hi; subst hi
        obtain rfl := Option.some.inj e
        rw [obE_ren, F0.rens hh.hfs]; simpa [ridx] using hh.mp
      · cases e) (fun i xs e => by cases e) (G := G) (w := w) (vs := vs) (by rw [A0.rens hh.hargs]; exact hv) hw
  refine ⟨Gc, h1, h2, by rw [h3]; simp [ridx], fun v w1 ho => ?_⟩
  -- of what comes behind, only these two are kept
  have ho2 : Outc Gc w (fun r' τ => ∃ n, τ = ⟨fun i => if i = 0 then some cs' else none, fun i => if i = 1 then some (obE ob' fs) else none, fun _ => none, n⟩ ∧ r' = r) v w1 := ho.low fun r' τ ⟨e1, e2, e3⟩ =>
    ⟨⟨fun i => if i = 0 then some cs' else none, fun i => if i = 1 then some (obE ob' fs) else none, fun _ => none, τ.next⟩, ⟨fun i c e => (by
        dsimp only at e
        split at e
        · rename_i hi; subst hi; rw [e2]; exact e
        · cases e), fun i c e => (by
        dsimp only at e
        split at e
        · rename_i hi; subst hi; rw [e3]; exact e
        · cases e), fun i c e => (by cases e), Nat.le_refl _⟩, τ.next, rfl, e1⟩
  have ho3 := h4 _ v w1 ho2
  refine ho3.mono fun r' σ' ⟨rc, τ, ⟨n, e1, e2⟩, e3, e4⟩ => ?_
  subst e2
  refine ⟨by rw [e3, ren_closed _ hh.hr], σ.next + (τ.next - 2), by omega, ?_⟩
  rw [e4, e1]
  unfold back
  have inv0 : ∀ c, rinv [b, m] σ.next c = if σ.next ≤ c then some (2 + (c - σ.next)) else if c = b then some 0 else if c = m then some 1 else none := by
    intro c
    unfold rinv
    split
    · rfl
    · simp [rfind]
  congr 1
  · funext c
    dsimp only
    rw [inv0]
    unfold upd
    by_cases h1 : σ.next ≤ c
    · rw [if_pos h1, if_neg (by omega), hok.bx c h1]
      show Option.map _ (if 2 + (c - σ.next) = 0 then some cs' else none) = none
      rw [if_neg (by omega)]; rfl
    · rw [if_neg h1]
      by_cases h2 : c = b
      · subst h2
        rw [if_pos rfl, if_pos rfl]
        show Option.map _ (some cs') = _
        rw [Option.map_some, rens_closed hh.hcs']
      · rw [if_neg h2, if_neg h2]
        by_cases h3 : c = m
        · subst h3
          rw [if_pos rfl, hh.mx]; rfl
        · rw [if_neg h3]
  · funext c
    dsimp only
    rw [inv0]
    unfold upd
    by_cases h1 : σ.next ≤ c
    · rw [if_pos h1, if_neg (by omega), hok.mp c h1]
      show Option.map _ (if 2 + (c - σ.next) = 1 then some (obE ob' fs) else none) = none
      rw [if_neg (by omega)]; rfl
    · rw [if_neg h1]
      by_cases h2 : c = b
      · subst h2
        rw [if_pos rfl, if_neg hne]
        show Option.map _ (if 0 = 1 then some (obE ob' fs) else none) = _
        rw [if_neg (by omega), hh.bm]; rfl
      · rw [if_neg h2]
        by_cases h3 : c = m
        · subst h3
          rw [if_pos rfl, if_pos rfl]
          show Option.map _ (some (obE ob' fs)) = _
          rw [Option.map_some, obE_ren, F0.rens hh.hfs]
        · rw [if_neg h3, if_neg h3]
  · funext c
    dsimp only
    rw [inv0]
    by_cases h1 : σ.next ≤ c
    · rw [if_pos h1, hok.sl c h1]; rfl
    · rw [if_neg h1]
      by_cases h2 : c = b
      · subst h2; rw [if_pos rfl, hh.bs]; rfl
      · rw [if_neg h2]
        by_cases h3 : c = m
        · subst h3; rw [if_pos rfl, hh.ms]; rfl
        · rw [if_neg h3]
theorem SC.call {f : FuncId} {b m : Nat} {args args' cs : List AV} {ob ob' : Obj} {fs : List AV} {r : AV} {cs' : List AV} (h : SC P f args cs ob fs r cs' ob') (ha : args.map (subA b m) = args') (hh : ScH σ b m args cs ob fs r cs') : ACall P f args' σ (ScB σ b m fs r cs' ob') := by
  subst ha
  intro G w vs hv hw
  obtain ⟨Gc, h1, h2, _, h4⟩ := sc_core hh hv hw
  exact Calls.mono (h Gc w vs h2 h1) fun e w' he => retOf_mono (fun v w1 ho => h4 v w1 ho) he
theorem SY.call {b m : Nat} {args args' cs : List AV} {ob ob' : Obj} {fs : List AV} {r : AV} {cs' : List AV} (h : SY P args cs ob fs r cs' ob') (ha : args.map (subA b m) = args') (hh : ScH σ b m args cs ob fs r cs') : AYield P m args' σ (ScB σ b m fs r cs' ob') := by
  subst ha
  intro G w vs μ hv hw hμ
  obtain ⟨Gc, h1, h2, h3, h4⟩ := sc_core hh hv hw
  obtain ⟨fn, tmps, assign, body, k1, k2⟩ := h Gc w vs μ h2 h1 (h3.trans hμ)
  exact ⟨fn, tmps, assign, body, k1, RoundIn.mono k2 fun e w' he => retOf_mono (fun v w1 ho => h4 v w1 ho) he⟩
end Go.AL
/-! The statement 'for x := range f'. -/
namespace Go.AL
open Go.RowKit (Below)
set_option linter.unusedVariables false
set_option linter.unusedSimpArgs false
variable {P : Program} {σ : ASt} {R : AV → ASt → Prop} {Q : Exit → List AV → ASt → Prop} {fr : List AV}
/-! ### within an iterator -/
variable {ops : Array Oper} {o : Oper} {rest : List Oper} {D : List Deferred}
end Go.AL
/-! An array's value at an index; a large array's variable. -/
namespace Go.AL
set_option linter.unusedVariables false
set_option linter.unusedSimpArgs false
variable {P : Program} {σ : ASt} {R : AV → ASt → Prop} {D : List Deferred} {Q : Exit → List AV → ASt → Prop} {fr : List AV} {ops : Array Oper} {o : Oper} {ρ : Operand → AV} {rest : List Oper}
end Go.AL
/-! Maps whose keys are structs; maps that stay as they are. -/
namespace Go.AL
open Go.RowKit (Below)
set_option linter.unusedVariables false
set_option linter.unusedSimpArgs false
variable {P : Program} {σ : ASt} {R : AV → ASt → Prop} {D : List Deferred} {Q : Exit → List AV → ASt → Prop} {fr : List AV} {ops : Array Oper} {o : Oper} {ρ : Operand → AV} {rest : List Oper}
/-! ### keys -/
def tmapS (P : Program) (t : TypeId) : Option (TypeId × TypeId) :=
  match P.underlying t with
  | some (.map k e) => some (k, e)
  | _ => none
theorem tmapS_spec {t k e : TypeId} (h : tmapS P t = some (k, e)) : P.underlying t = some (.map k e) := by
  unfold tmapS at h
  split at h
  · rename_i hd; simp only [Option.some.injEq, Prod.mk.injEq] at h; obtain ⟨rfl, rfl⟩ := h; exact hd
  · cases h
/-- A struct's value that may be a key: its fields are numbers, texts, truths. -/
def keyok (P : Program) (kt : TypeId) (cs : List AV) : Bool :=
  match tflds P kt with
  | some fl => fl.all fun f => decide (tleaf P f.1 ≠ 0) && match tsize P f.1 with | some ng => (aloadC cs f.2 ng.1 ng.2).isSome | none => false
  | none => false
theorem tflds_spec {t : TypeId} {fl : List (TypeId × Nat)} (h : tflds P t = some fl) : ∃ fs, P.underlying t = some (.struct fs) ∧ (∀ f ∈ fs.toList, f.name ≠ "_") ∧ fl = fs.toList.map fun f => (f.type, f.offset) := by
  unfold tflds at h
  split at h
  · rename_i fs hfs
    split at h
    · rename_i hc
      obtain rfl := Option.some.inj h
      refine ⟨fs, hfs, fun f hf => ?_, rfl⟩
      have := List.all_eq_true.1 hc.2 f hf
      simpa using this
    · cases h
  · cases h
theorem run_forIn_ok {α : Type} {w : World} (body : α → PUnit → Sem (ForInStep PUnit)) : ∀ l : List α, (∀ a ∈ l, (body a PUnit.unit).run P w = .ok (.yield PUnit.unit) w) →
    (forIn l PUnit.unit body : Sem PUnit).run P w = .ok PUnit.unit w
  | [], _ => rfl
  | a :: l, h => by
    have h1 := h a List.mem_cons_self
    have h2 := run_forIn_ok body l fun b hb => h b (List.mem_cons_of_mem _ hb)
    rw [List.forIn_cons]
    simp only [Sem.run_bind, h1, Result.andThen_ok]
    exact h2
theorem run_checkKeyS {G : Ghost} {kt : TypeId} {cs : List AV} {v : Value} (hk : keyok P kt cs = true) {w : World} (hr : Rep G w (.agg cs) v) (b : Bool) (n : Nat) : (Instr.checkKey b (n + 2) kt v).run P w = .ok () w := by
  unfold keyok at hk
  split at hk
  · rename_i fl hfl
    obtain ⟨fs, hfs, hnm, rfl⟩ := tflds_spec hfl
    cases hr with
    | agg _ vs hs hc =>
      unfold Instr.checkKey
      simp only [Sem.run_bind, run_underlying' hfs, Result.andThen_ok]
      rw [← Array.forIn_toList]
      rw [run_forIn_ok]
      · rfl
      · intro f hf
        have h1 := List.all_eq_true.1 hk (f.type, f.offset) (List.mem_map.2 ⟨f, hf, rfl⟩)
        simp only [Bool.and_eq_true, decide_eq_true_eq] at h1
        obtain ⟨h1, h2⟩ := h1
        split at h2
        · rename_i ng hng
          obtain ⟨r, hr⟩ := Option.isSome_iff_exists.1 h2
          obtain ⟨u, e1, e2⟩ := run_part_of hng hr hs hc
          obtain ⟨d, e3, e4⟩ := tleaf_spec rfl h1
          have e5 := run_checkKey e3 (by rcases e4 with ⟨_, rfl⟩ | ⟨_, e, rfl⟩ | ⟨_, rfl⟩ <;> rfl) b n u w
          simp [hnm f hf, e1, e5]
        · cases h2
  · cases hk
/-! ### looking one up -/
def vfind (P : Program) (kt : TypeId) (k : AV) : List AV → Nat → Option (Option Nat)
  | [], _ => some none
  | x :: l, i => match aeqF P 5 kt k x with
    | some true => some (some i)
    | some false => vfind P kt k l (i + 1)
    | none => none
theorem vfind_spec {G : Ghost} {w : World} {kt : TypeId} {k : AV} {kv : Value} (hk : Rep G w k kv) : ∀ (ks : List AV) (ents : List MapEntry) (i : Nat) (r : Option Nat), ks.length = ents.length → (∀ (n : Nat) c e, ks[n]? = some c → ents[n]? = some e → Rep G w c e.key) → vfind P kt k ks i = some r →
    match r with
    | none => (Instr.findAsking kt kv ents i).run P w = .ok none w
    | some j => ∃ e, i ≤ j ∧ ents[j - i]? = some e ∧ (Instr.findAsking kt kv ents i).run P w = .ok (some (j, e.val)) w
  | [], [], i, r, _, _, h => by
    obtain rfl := Option.some.inj h
    rfl
  | x :: ks, e :: ents, i, r, hl, hr, h => by
    have hx := hr 0 x e rfl rfl
    unfold vfind at h
    cases hq : aeqF P 5 kt k x with
    | none => rw [hq] at h; cases h
    | some b =>
      rw [hq] at h
      have hb : (Op.equal kt kv e.key).run P w = .ok b w := aeqF_spec 5 _ (by decide) kt k x b kv e.key hq hk hx
      cases b with
      | true =>
        obtain rfl := Option.some.inj h
        refine ⟨e, Nat.le_refl _, by simp, ?_⟩
        unfold Instr.findAsking
        simp [hb]
      | false =>
        have ih := vfind_spec hk ks ents (i + 1) r (by simpa using hl) (fun n c e a b => hr (n + 1) c e a b) h
        cases r with
        | none =>
          show (Instr.findAsking kt kv (e :: ents) i).run P w = .ok none w
          unfold Instr.findAsking
          simp [hb, ih]
        | some j =>
          obtain ⟨e', hij, he, hf⟩ := ih
          refine ⟨e', by omega, ?_, ?_⟩
          · rw [show j - i = (j - (i + 1)) + 1 by omega]; exact he
          · unfold Instr.findAsking
            simp [hb, hf]
theorem run_findKeyS {kt : TypeId} {fs : Array Field} (hk : P.underlying kt = some (.struct fs)) {kv : Value} {ents : List MapEntry} {r : Option (Nat × Value)} {w : World} (h : (Instr.findAsking kt kv ents 0).run P w = .ok r w) : (Instr.findKey kt kv ents).run P w = .ok r w := by
  unfold Instr.findKey
  simp only [Sem.run_bind, run_underlying' hk, Result.andThen_ok]
  cases ents with
  | nil =>
    have : Instr.findNow (.struct fs) kv [] 0 = some none := rfl
    rw [this]
    unfold Instr.findAsking at h
    simpa using h
  | cons e l =>
    have : Instr.findNow (.struct fs) kv (e :: l) 0 = none := by
      unfold Instr.findNow Instr.sameNow
      rfl
    rw [this]
    exact h
def vgot (P : Program) (el : TypeId) (vs : List AV) (r : Option Nat) (x : AV) : Prop := match r with | some j => vs[j]? = some x | none => tzero P el = some x
/-- What a lookup gives, by what the map holds. -/
theorem run_lookupS {G : Ghost} {t kt el : TypeId} (ht : tmapS P t = some (kt, el)) {kcs ks vs : List AV} (hok : keyok P kt kcs = true) {kv : Value} {w : World} (hk : Rep G w (.agg kcs) kv) {μ clock : Nat} {ents : Array MapEntry} (hh : w.heap[μ]? = some (.map ents clock))
    (h3 : ks.length = ents.size) (h4 : vs.length = ents.size) (h5 : ∀ (i : Nat) c e, ks[i]? = some c → ents[i]? = some e → Rep G w c e.key) (h6 : ∀ (i : Nat) c e, vs[i]? = some c → ents[i]? = some e → Rep G w c e.val)
    {r : Option Nat} (hf : vfind P kt (.agg kcs) ks 0 = some r) {x : AV} (hx : vgot P el vs r x) (ok : Bool) :
    ∃ v, (Instr.lookup t (.map (some μ)) kv ok).run P w = .ok (if ok = true then .tuple #[v, .bool r.isSome] else v) w ∧ Rep G w x v := by
  have u1 := tmapS_spec ht
  obtain ⟨fs, u2⟩ : ∃ fs, P.underlying kt = some (.struct fs) := by
    unfold keyok at hok
    split at hok
    · rename_i fl hfl; obtain ⟨fs, h, _⟩ := tflds_spec hfl; exact ⟨fs, h⟩
    · cases hok
  have hfs := vfind_spec hk ks ents.toList 0 r (by simp [h3]) (fun n c e a b => h5 n c e a (by simpa using b)) hf
  cases r with
  | none =>
    obtain ⟨i, v, hi, hv, rfl⟩ := tzero_spec hx
    refine ⟨v, ?_, rep_ofV G w v⟩
    simp [Instr.lookup, run_underlying' u1, run_getObj_map hh, run_checkKeyS hok hk _ 9998, run_findKeyS u2 hfs, run_zeroValue' hi hv]
  | some j =>
    obtain ⟨e, _, he, hfs⟩ := hfs
    simp only [Nat.sub_zero] at he
    refine ⟨e.val, ?_, h6 j x e hx (by simpa using he)⟩
    simp [Instr.lookup, run_underlying' u1, run_getObj_map hh, run_checkKeyS hok hk _ 9998, run_findKeyS u2 hfs]
theorem outc_val {G : Ghost} {w : World} {x : AV} {v : Value} (hrep : Rep G w x v) (ok b : Bool) : Rep G w (if ok = true then .tup [x, .p (.bool b)] else x) (if ok = true then .tuple #[v, .bool b] else v) := by
  cases ok with
  | false => exact hrep
  | true =>
    refine .tup _ _ rfl fun i c u a c' => ?_
    match i, a, c' with
    | 0, a, c' => cases a; cases c'; exact hrep
    | 1, a, c' => cases a; cases c'; exact .p _
/-- In a map that stays. -/
theorem opq_lookupV {t : TypeId} {m k : Operand} {ok : Bool} (ho : o.op = .lookup t m k ok) {kt el : TypeId} (ht : tmapS P t = some (kt, el)) {ks vs kcs : List AV} (hm : ρ m = .vmp ks vs) (hk : ρ k = .agg kcs) (hok : keyok P kt kcs = true)
    {r : Option Nat} (hf : vfind P kt (.agg kcs) ks 0 = some r) {x : AV} (hx : vgot P el vs r x) (hr : R (if ok = true then .tup [x, .p (.bool r.isSome)] else x) σ) : OpQ P o ρ σ R := by
  refine opq_v (s := fun e => Instr.lookup t (e m) (e k) ok) (fun e => by simp only [execOp, ho]) _ hr fun G e w he hw => ?_
  have hm' := he m
  rw [hm] at hm'
  have hk' := he k
  rw [hk] at hk'
  generalize e m = vm at hm'
  cases hm' with
  | vmp _ _ μ clock ents h1 h2 h3 h4 h5 h6 =>
    obtain ⟨v, e1, e2⟩ := run_lookupS ht hok hk' h2 h3 h4 h5 h6 hf hx ok
    exact ⟨_, e1, outc_val e2 ok _⟩
theorem awl_lookupV (mu : List Nat) {t : TypeId} {m k : Operand} {ok : Bool} (ho : o.op = .lookup t m k ok) (hw : awanted ops o fr = some true) {kt el : TypeId} (ht : tmapS P t = some (kt, el)) {ks vs kcs : List AV} (hm : aev fr m = .vmp ks vs) (hk : aev fr k = .agg kcs) (hok : keyok P kt kcs = true)
    {r : Option Nat} (hf : vfind P kt (.agg kcs) ks 0 = some r) {x : AV} (hx : vgot P el vs r x) (hk2 : Shut (ARun P D ops Q mu rest (aput fr o.dst (if ok = true then .tup [x, .p (.bool r.isSome)] else x)) σ)) : AWL P D ops Q (o :: rest) fr σ :=
  awl_cons hw (opq_lookupV ho ht hm hk hok hf hx (awl_run' mu hk2))
/-! ### in one of one's own -/
theorem mp_real {G : Ghost} {w : World} {b : Nat} {es : List (AV × AV)} (h : MpOK G w b es) (hn : ∀ p ∈ es, p.1 ≠ noV) :
    ∃ μ ents clock, G.mp b = some μ ∧ w.heap[μ]? = some (.map ents clock) ∧ ents.size = es.length ∧
    (∀ (i : Nat) k x (e : MapEntry), es[i]? = some (k, x) → ents[i]? = some e → Rep G w k e.key ∧ Rep G w x e.val ∧ e.born < clock) ∧ (∀ (i j : Nat) (e e' : MapEntry), ents[i]? = some e → ents[j]? = some e' → e.born = e'.born → i = j) := by
  rcases h with h | ⟨μ, ob, ofr, _, _, _, rfl⟩
  · exact h
  · exact absurd rfl (hn _ List.mem_cons_self)
theorem opq_lookupS {t : TypeId} {m k : Operand} {ok : Bool} (ho : o.op = .lookup t m k ok) {kt el : TypeId} (ht : tmapS P t = some (kt, el)) {b : Nat} (hm : ρ m = .map b) {es : List (AV × AV)} (hb : σ.mp b = some es) (hn : ∀ p ∈ es, p.1 ≠ noV) {kcs : List AV} (hk : ρ k = .agg kcs) (hok : keyok P kt kcs = true)
    {r : Option Nat} (hf : vfind P kt (.agg kcs) (es.map Prod.fst) 0 = some r) {x : AV} (hx : vgot P el (es.map Prod.snd) r x) (hr : R (if ok = true then .tup [x, .p (.bool r.isSome)] else x) σ) : OpQ P o ρ σ R := by
  refine opq_v (s := fun e => Instr.lookup t (e m) (e k) ok) (fun e => by simp only [execOp, ho]) _ hr fun G e w he hw => ?_
  have hm' := he m
  rw [hm] at hm'
  have hk' := he k
  rw [hk] at hk'
  obtain ⟨μ, ents, clock, g1, g2, g3, g4, g5⟩ := mp_real (hw.mp b es hb) hn
  generalize e m = vm at hm'
  obtain ⟨μ', rfl, g⟩ : ∃ μ', vm = .map (some μ') ∧ G.mp b = some μ' := by cases hm'; exact ⟨_, rfl, by assumption⟩
  obtain rfl := Option.some.inj (g.symm.trans g1)
  obtain ⟨v, e1, e2⟩ := run_lookupS ht hok hk' g2 (by simp [g3]) (by simp [g3]) (fun i c e a c' => by
    rw [List.getElem?_map] at a
    obtain ⟨p, hp, rfl⟩ := Option.map_eq_some_iff.1 a
    exact (g4 i p.1 p.2 e hp c').1) (fun i c e a c' => by
    rw [List.getElem?_map] at a
    obtain ⟨p, hp, rfl⟩ := Option.map_eq_some_iff.1 a
    exact (g4 i p.1 p.2 e hp c').2.1) hf hx ok
  exact ⟨_, e1, outc_val e2 ok _⟩
theorem awl_lookupS (mu : List Nat) {t : TypeId} {m k : Operand} {ok : Bool} (ho : o.op = .lookup t m k ok) (hw : awanted ops o fr = some true) {kt el : TypeId} (ht : tmapS P t = some (kt, el)) {b : Nat} (hm : aev fr m = .map b) {es : List (AV × AV)} (hb : σ.mp b = some es) (hn : ∀ p ∈ es, p.1 ≠ noV) {kcs : List AV} (hk : aev fr k = .agg kcs) (hok : keyok P kt kcs = true)
    {r : Option Nat} (hf : vfind P kt (.agg kcs) (es.map Prod.fst) 0 = some r) {x : AV} (hx : vgot P el (es.map Prod.snd) r x) (hk2 : Shut (ARun P D ops Q mu rest (aput fr o.dst (if ok = true then .tup [x, .p (.bool r.isSome)] else x)) σ)) : AWL P D ops Q (o :: rest) fr σ :=
  awl_cons hw (opq_lookupS ho ht hm hb hn hk hok hf hx (awl_run' mu hk2))
/-- A new key is put. -/
theorem opq_mapNewS {t : TypeId} {m k x : Operand} (ho : o.op = .insert t m k x ∨ o.op = .mapUpdate t m k x) {kt el : TypeId} (ht : tmapS P t = some (kt, el)) {b : Nat} (hm : ρ m = .map b) {es : List (AV × AV)} (hb : σ.mp b = some es) (hn : ∀ p ∈ es, p.1 ≠ noV) {kcs : List AV} (hk : ρ k = .agg kcs) (hok : keyok P kt kcs = true)
    (hf : vfind P kt (.agg kcs) (es.map Prod.fst) 0 = some none) (hr : R (.p undef) { σ with mp := upd σ.mp b (some (es ++ [(.agg kcs, ρ x)])) }) : OpQ P o ρ σ R := by
  have u1 := tmapS_spec ht
  obtain ⟨fs, u2⟩ : ∃ fs, P.underlying kt = some (.struct fs) := by
    unfold keyok at hok
    split at hok
    · rename_i fl hfl; obtain ⟨fs, h, _⟩ := tflds_spec hfl; exact ⟨fs, h⟩
    · cases hok
  intro G e w he hw
  have hm' := he m
  rw [hm] at hm'
  have hk' := he k
  rw [hk] at hk'
  have hx' := he x
  obtain ⟨μ, ents, clock, g1, g2, g3, g4, g5⟩ := mp_real (hw.mp b es hb) hn
  generalize hem : e m = vm at hm'
  generalize hek : e k = vk at hk'
  generalize hex : e x = vx at hx'
  obtain ⟨μ', rfl, g⟩ : ∃ μ', vm = .map (some μ') ∧ G.mp b = some μ' := by cases hm'; exact ⟨_, rfl, by assumption⟩
  obtain rfl := Option.some.inj (g.symm.trans g1)
  have hfs := vfind_spec hk' (es.map Prod.fst) ents.toList 0 none (by simp [g3]) (fun n c e a c' => by
    rw [List.getElem?_map] at a
    obtain ⟨p, hp, rfl⟩ := Option.map_eq_some_iff.1 a
    exact (g4 n p.1 p.2 e hp (by simpa using c')).1) hf
  have run : (execOp e o).run P w = ((setObj μ' (.map (ents.push { key := vk, val := vx, born := clock }) (clock + 1))).run P w).andThen (fun _ w' => .ok .skip w') := by
    rcases ho with ho | ho <;> simp [execOp, ho, Instr.mapUpdate, run_underlying' u1, hem, hek, hex, run_getObj_map g2, run_checkKeyS hok hk' _ 9998, run_findKeyS u2 hfs]
  obtain ⟨w', hset, htouch, hh⟩ := run_setObj (P := P) (o' := .map (ents.push { key := vk, val := vx, born := clock }) (clock + 1)) g2
  rw [run, hset, Result.andThen_ok]
  have hown : Owns G σ μ' (1, b) := .mp b μ' es hb g
  have hl := Le.touch hw hown htouch
  refine ⟨_, G, _, hl, hw.touch_mp hb g htouch (fun hl => .inl ⟨μ', _, _, g, hh, by simp [g3], fun i k' x' e' a c => ?_, fun i j e1 e2 h1 h2 h3 => ?_⟩), .p _, hr⟩
  · rw [Array.getElem?_push] at c
    split at c
    · rename_i hi
      obtain rfl := Option.some.inj c
      subst hi
      rw [List.getElem?_append_right (by omega)] at a
      simp [g3] at a
      obtain ⟨rfl, rfl⟩ := a
      exact ⟨hk'.mono hl, hx'.mono hl, by simp⟩
    · rename_i hi
      have hlt : i < ents.size := (Array.getElem?_eq_some_iff.1 c).1
      rw [List.getElem?_append_left (by omega)] at a
      obtain ⟨q1, q2, q3⟩ := g4 i k' x' e' a c
      exact ⟨q1.mono hl, q2.mono hl, by omega⟩
  · have old : ∀ (i : Nat) (e : MapEntry), ents[i]? = some e → e.born < clock := fun i e h => by
      have hi : i < es.length := by have := (Array.getElem?_eq_some_iff.1 h).1; omega
      exact (g4 i es[i].1 es[i].2 e (by rw [List.getElem?_eq_getElem hi]) h).2.2
    rw [Array.getElem?_push] at h1 h2
    split at h1
    · split at h2
      · omega
      · obtain rfl := Option.some.inj h1
        have := old _ _ h2
        simp at h3; omega
    · split at h2
      · obtain rfl := Option.some.inj h2
        have := old _ _ h1
        simp at h3; omega
      · exact g5 i j e1 e2 h1 h2 h3
theorem awl_mapNewS (mu : List Nat) {t : TypeId} {m k x : Operand} (ho : o.op = .insert t m k x ∨ o.op = .mapUpdate t m k x) (hw : awanted ops o fr = some true) {kt el : TypeId} (ht : tmapS P t = some (kt, el)) {b : Nat} (hm : aev fr m = .map b) {es : List (AV × AV)} (hb : σ.mp b = some es) (hn : ∀ p ∈ es, p.1 ≠ noV) {kcs : List AV} (hk : aev fr k = .agg kcs) (hok : keyok P kt kcs = true)
    (hf : vfind P kt (.agg kcs) (es.map Prod.fst) 0 = some none) (hk2 : Shut (ARun P D ops Q mu rest (aput fr o.dst (.p undef)) { σ with mp := upd σ.mp b (some (es ++ [(.agg kcs, aev fr x)])) })) : AWL P D ops Q (o :: rest) fr σ :=
  awl_cons hw (opq_mapNewS ho ht hm hb hn hk hok hf (awl_run' mu hk2))
/-! ### it stays from now on -/
def frzM (b : Nat) (es : List (AV × AV)) : AV → AV
  | .map m => if m = b then .vmp (es.map Prod.fst) (es.map Prod.snd) else .map m
  | v => v
theorem SimW.freezeM {G w} {b : Nat} {es : List (AV × AV)} (h : SimW G σ w) (hb : σ.mp b = some es) (hn : ∀ p ∈ es, p.1 ≠ noV) : ∃ G', Le G w G' w ∧ SimW G' { σ with mp := upd σ.mp b none } w ∧ ∀ v u, Rep G w v u → Rep G' w (frzM b es v) u := by
  obtain ⟨μ, ents, clock, g1, g2, g3, g4, g5⟩ := mp_real (h.mp b es hb) hn
  have hown : Owns G σ μ (1, b) := .mp b μ es hb g1
  obtain ⟨o1, o2, o3⟩ := h.own _ _ hown
  obtain ⟨q, hq⟩ : ∃ q : Nat → Nat → Prop, q = fun β _ => β = μ := ⟨_, rfl⟩
  have hl : Le G w (G.addSt q) w := ⟨rfl, fun _ _ e => e, fun _ _ e => e, fun _ _ e => e, fun _ _ e => .inl e, fun γ o e => e.imp id fun e => by
    rw [hq] at e; subst e; exact ⟨o1, o3⟩, fun _ _ _ => rfl, Below.refl _ _⟩
  have hless : ASt.Le { σ with mp := upd σ.mp b none } σ := ⟨fun _ _ e => e, fun m es e => by
    by_cases hm : m = b
    · subst hm
      have : upd σ.mp m none m = some es := e
      rw [upd_same] at this; cases this
    · have : upd σ.mp b none m = some es := e
      rw [upd_ne _ _ hm] at this; exact this, fun _ _ e => e, Nat.le_refl _⟩
  have hw := h.less hless
  have own : ∀ γ k, Owns (G.addSt q) { σ with mp := upd σ.mp b none } γ k → Owns G σ γ k ∧ γ ≠ μ := by
    intro γ k ho
    have h1 : Owns G { σ with mp := upd σ.mp b none } γ k := by
      cases ho with
      | bx c β cs e g => exact .bx c _ cs e g
      | mp c β es e g => exact .mp c _ es e g
      | sl c β r xs e g => exact .sl c _ r xs e g
    have h2 : Owns G σ γ k := by
      cases h1 with
      | bx c β cs e g => exact .bx c _ cs e g
      | mp c β es e g => exact .mp c _ es (hless.mp _ _ e) g
      | sl c β r xs e g => exact .sl c _ r xs e g
    refine ⟨h2, fun e => ?_⟩
    subst e
    have := o2 _ h2
    subst this
    cases h1 with
    | mp c β es e g =>
      have : upd σ.mp b none b = some es := e
      rw [upd_same] at this; cases this
  refine ⟨_, hl, ⟨hw.base, fun c cs e => (hw.bx c cs e).mono hl fun _ _ => rfl, fun c es e => (hw.mp c es e).mono hl fun _ _ => rfl, fun c xs e => (hw.sl c xs e).mono hl fun _ _ _ => rfl, fun γ k ho => ?_, fun γ o e => ?_, fun c hc => ?_⟩, fun v u hr => ?_⟩
  · obtain ⟨h1, h2⟩ := own γ k ho
    refine ⟨(h.own γ k h1).1, fun k' hk' => (h.own γ k h1).2.1 k' (own _ _ hk').1, fun o e => ?_⟩
    rcases e with e | e
    · exact (h.own γ k h1).2.2 o e
    · rw [hq] at e; exact h2 e
  · rcases e with e | e
    · exact h.stIn _ _ e
    · rw [hq] at e; subst e; exact h.own_lt hown
  · exact hw.fresh c hc
  · by_cases hv : v = .map b
    · subst hv
      simp only [frzM, if_true]
      obtain ⟨μ', rfl, g⟩ : ∃ μ', u = .map (some μ') ∧ G.mp b = some μ' := by cases hr; exact ⟨_, rfl, by assumption⟩
      obtain rfl := Option.some.inj (g.symm.trans g1)
      exact .vmp _ _ μ' clock ents (.inr (by rw [hq])) g2 (by simp [g3]) (by simp [g3]) (fun i c e a c' => by
        rw [List.getElem?_map] at a
        obtain ⟨p, hp, rfl⟩ := Option.map_eq_some_iff.1 a
        exact (g4 i p.1 p.2 e hp c').1.mono hl) (fun i c e a c' => by
        rw [List.getElem?_map] at a
        obtain ⟨p, hp, rfl⟩ := Option.map_eq_some_iff.1 a
        exact (g4 i p.1 p.2 e hp c').2.1.mono hl)
    · have : frzM b es v = v := by
        cases v with
        | map m => simp only [frzM]; rw [if_neg (fun e => hv (by rw [e]))]
        | _ => rfl
      rw [this]; exact hr.mono hl
theorem aw_freezeM {c : Code} {b : Nat} {es : List (AV × AV)} (hb : σ.mp b = some es) (hn : ∀ p ∈ es, p.1 ≠ noV) (h : AW P D c Q (fr.map (frzM b es)) { σ with mp := upd σ.mp b none }) : AW P D c Q fr σ := by
  intro _ _ G a w hs
  obtain ⟨G', h1, h2, h3⟩ := hs.w.freezeM hb hn
  refine wp_mono (h _ inferInstance G' a w ⟨⟨by simpa using hs.tmps.1, fun i c v hc hv => ?_⟩, hs.defers.mono h1, h2⟩) fun e a w h => lift_le h1 h
  rw [List.getElem?_map] at hc
  obtain ⟨c', hc', rfl⟩ := Option.map_eq_some_iff.1 hc
  exact h3 _ _ (hs.tmps.2 i c' v hc' hv)
end Go.AL
/-! A map that stays, looked up by a number, a text or a truth; in regions that draw, too. -/
namespace Go.AL
open Go.RowKit (Below)
set_option linter.unusedVariables false
set_option linter.unusedSimpArgs false
variable {P : Program} {σ : ASt} {R : AV → ASt → Prop} {D : List Deferred} {Q : Exit → List AV → ASt → Prop} {fr : List AV} {ops : Array Oper} {o : Oper} {ρ : Operand → AV} {rest : List Oper}
end Go.AL
