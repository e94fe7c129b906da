import Derived.Test.YtfpjojjgoelckaaDoorA10
/-! Freezing; results; calls; the run of what is plain. -/
namespace Go.AL
open Go.RowKit (Below)
set_option linter.unusedVariables false
set_option linter.unusedSimpArgs false

variable {P : Program} {o : Oper} {ρ : Operand → AV} {σ : ASt} {R : AV → ASt → Prop} {D : List Deferred} {Q : Exit → List AV → ASt → Prop} {fr : List AV}

/-! ### a slice of one's own stays as it is from now on -/
def frz0 (b : Nat) (xs : List AV) : AV → AV
  | .hsl b' off n => if b' = b then (if off + n ≤ xs.length then .vsl ((xs.drop off).take n) else .any) else .hsl b' off n
  | v => v
def frz1 (b : Nat) (xs : List AV) : AV → AV
  | .agg cs => .agg (cs.map (frz0 b xs))
  | v => frz0 b xs v
def frz (b : Nat) (xs : List AV) : AV → AV
  | .tup cs => .tup (cs.map (frz1 b xs))
  | v => frz1 b xs v
theorem frz_rep {G G' w b xs} (hl : Le G w G' w) (h0 : ∀ off n u, Rep G w (.hsl b off n) u → Rep G' w (if off + n ≤ xs.length then .vsl ((xs.drop off).take n) else .any) u) : ∀ v u, Rep G w v u → Rep G' w (frz b xs v) u := by
  have f0 : ∀ v u, Rep G w v u → Rep G' w (frz0 b xs v) u := by
    intro v u hr
    have hr' := hr.mono hl
    by_cases hv : ∃ off n, v = .hsl b off n
    · obtain ⟨off, n, rfl⟩ := hv
      simp only [frz0, if_true]
      exact h0 off n u hr
    · have : frz0 b xs v = v := by
        cases v <;> first | rfl | skip
        rename_i b' off n
        simp only [frz0]
        rw [if_neg (fun e => hv ⟨off, n, by rw [e]⟩)]
      rw [this]; exact hr'
  have f1 : ∀ v u, Rep G w v u → Rep G' w (frz1 b xs v) u := by
    intro v u hr
    by_cases hv : ∃ cs, v = .agg cs
    · obtain ⟨cs, rfl⟩ := hv
      cases hr with
      | agg _ vs hs h =>
        refine .agg _ vs (by simpa using hs) fun i c v hc hv => ?_
        rw [List.getElem?_map] at hc
        obtain ⟨c', hc', rfl⟩ := Option.map_eq_some_iff.1 hc
        exact f0 _ _ (h i c' v hc' hv)
    · have : frz1 b xs v = frz0 b xs v := by cases v <;> first | rfl | exact absurd ⟨_, rfl⟩ hv
      rw [this]; exact f0 v u hr
  intro v u hr
  by_cases hv : ∃ cs, v = .tup cs
  · obtain ⟨cs, rfl⟩ := hv
    cases hr with
    | tup _ vs hs h =>
      refine .tup _ vs (by simpa using hs) fun i c v hc hv => ?_
      rw [List.getElem?_map] at hc
      obtain ⟨c', hc', rfl⟩ := Option.map_eq_some_iff.1 hc
      exact f1 _ _ (h i c' v hc' hv)
  · have : frz b xs v = frz1 b xs v := by cases v <;> first | rfl | exact absurd ⟨_, rfl⟩ hv
    rw [this]; exact f1 v u hr
theorem SimW.freeze {G σ w b xs} (h : SimW G σ w) (hb : σ.sl b = some xs) : ∃ G', Le G w G' w ∧ SimW G' (σ.dropSl b) w ∧ ∀ v u, Rep G w v u → Rep G' w (frz b xs v) u := by
  rcases h.sl b xs hb with ⟨g1, rfl⟩ | ⟨β, o, s, cap, arr, el, g1, g2, g3, g4, g5, g6⟩
  · refine ⟨G, Le.refl _ _, h.less (dropSl_le σ b), frz_rep (Le.refl _ _) fun off n u hr => ?_⟩
    cases hr with
    | hsl _ _ _ β o s cap g hle => rw [g1] at g; cases g
    | hend _ _ a β o s cap g hle => rw [g1] at g; cases g
    | hnil _ a g => simp only [List.length_nil, Nat.add_zero, Nat.le_refl, if_true, List.drop_nil, List.take_nil]; exact .vnil _ _
  · have ho : Owns G σ β (2, b) := .sl b β _ xs hb g1
    have hbase := (h.own _ _ ho).1
    have hl : Le G w (G.addSt fun γ _ => γ = β) w := ⟨rfl, fun _ _ e => e, fun _ _ e => e, fun _ _ e => e, fun _ _ e => .inl e, fun γ _ e => e.imp id fun (e : γ = β) => e ▸ hbase, fun _ _ _ => rfl, Below.refl _ _⟩
    refine ⟨_, hl, ?_, frz_rep hl fun off n u hr => ?_⟩
    · have hw := h.less (dropSl_le σ b)
      have hown : ∀ γ k, Owns (G.addSt fun γ _ => γ = β) (σ.dropSl b) γ k → Owns G (σ.dropSl b) γ k := by
        intro γ k hk
        cases hk with
        | bx b' β' cs2 h2 g2 => exact .bx _ _ cs2 h2 g2
        | mp b' β' cs2 h2 g2 => exact .mp _ _ cs2 h2 g2
        | sl b' β' r cs2 h2 g2 => exact .sl _ _ r cs2 h2 g2
      have hup : ∀ γ k, Owns G (σ.dropSl b) γ k → Owns G σ γ k := by
        intro γ k hk
        cases hk with
        | bx b' β' cs2 h2 g2 => exact .bx _ _ cs2 ((dropSl_le σ b).bx _ _ h2) g2
        | mp b' β' cs2 h2 g2 => exact .mp _ _ cs2 ((dropSl_le σ b).mp _ _ h2) g2
        | sl b' β' r cs2 h2 g2 => exact .sl _ _ r cs2 ((dropSl_le σ b).sl _ _ h2) g2
      refine ⟨hw.base, fun b' cs e => (hw.bx b' cs e).mono hl fun _ _ => rfl, fun b' cs e => (hw.mp b' cs e).mono hl fun _ _ => rfl, fun b' cs e => (hw.sl b' cs e).mono hl fun _ _ _ => rfl, fun γ k hk => ?_, fun γ o e => ?_, hw.fresh⟩
      · have hk1 := hown γ k hk
        refine ⟨(hw.own γ k hk1).1, fun k' hk' => (hw.own γ k hk1).2.1 k' (hown _ _ hk'), fun o e => ?_⟩
        rcases e with e | e
        · exact (hw.own γ k hk1).2.2 o e
        · subst e
          have hk2 := (h.own γ _ ho).2.1 _ (hup _ _ hk1)
          subst hk2
          cases hk1 with
          | sl b' β' r cs2 h2 g2 => simp [ASt.dropSl] at h2
      · rcases e with e | e
        · exact h.stIn _ _ e
        · subst e; exact h.own_lt ho
    · split
      · rename_i hin
        cases hr with
        | hsl _ _ _ β' o' s' cap' g hle =>
          obtain ⟨rfl, rfl, rfl, rfl⟩ : β = β' ∧ o = o' ∧ s = s' ∧ cap = cap' := by rw [g] at g1; simpa using g1.symm
          have hlen : ((xs.drop off).take n).length = n := by simp; omega
          have hc0 : n ≤ cap - off := by omega
          have hc1 : ((xs.drop off).take n).length ≤ cap - off := by rw [hlen]; exact hc0
          have hin2 : ∀ i j c, rowCell ((xs.drop off).take n) i j = some c → rowCell xs (off + i) j = some c ∧ o + (off + i) * s + j < arr.size := by
            intro i j c hc
            obtain ⟨hc2, hi⟩ := rowCell_seg _ _ _ _ _ _ hc
            obtain ⟨h1, h2, h3⟩ := rowCell_lt hc2 g5
            have : xs.length * s ≤ cap * s := Nat.mul_le_mul_right _ g3.2
            exact ⟨hc2, by omega⟩
          have key := Rep.vsl (G := G.addSt fun γ _ => γ = β) (w := w) ((xs.drop off).take n) β (o + off * s) s (cap - off) (fun i j => arr.getD (o + (off + i) * s + j) undef) hc1 (fun i x hx => by
            rw [List.getElem?_take] at hx
            split at hx
            · rw [List.getElem?_drop] at hx; exact g5 _ _ hx
            · cases hx) (fun i j c hc => ⟨.inr rfl, by
            obtain ⟨_, hlt⟩ := hin2 i j c hc
            have e : o + off * s + i * s + j = o + (off + i) * s + j := by rw [Nat.add_mul]; omega
            rw [cell_of_heap g2, e]
            simp [hlt]⟩) (fun i j c hc => by
            obtain ⟨hc2, hlt⟩ := hin2 i j c hc
            have := g6 (off + i) j c _ hc2 (Array.getElem?_eq_getElem hlt)
            simp only [Array.getD, hlt, dif_pos]
            exact this.mono hl)
          rw [hlen] at key; exact key
        | hend _ _ a β' o' s' cap' g hle => simp only [List.take_zero]; exact .vnil _ _
        | hnil _ a g => simp only [List.take_zero]; exact .vnil _ _
      · exact .any _
theorem Fin.freeze {r : AV} {b : Nat} {xs : List AV} (hb : σ.sl b = some xs) (h : Fin R (frz b xs r) (σ.dropSl b)) : Fin R r σ := by
  intro G w v hw hr
  obtain ⟨G', h1, h2, h3⟩ := hw.freeze hb
  obtain ⟨r', G2, σ2, k1, k2, k3, k4⟩ := h G' w v h2 (h3 _ _ hr)
  exact ⟨r', G2, σ2, h1.trans k1, k2, k3, k4⟩
theorem Sim.freeze {G D a w b xs} (hs : Sim G fr σ D a w) (hb : σ.sl b = some xs) : ∃ G', Le G w G' w ∧ Sim G' (fr.map (frz b xs)) (σ.dropSl b) D a w := by
  obtain ⟨G', h1, h2, h3⟩ := hs.w.freeze hb
  refine ⟨G', h1, ⟨by simpa using hs.tmps.1, fun i c v hc hv => ?_⟩, hs.defers, h2⟩
  rw [List.getElem?_map] at hc
  obtain ⟨c', hc', rfl⟩ := Option.map_eq_some_iff.1 hc
  exact h3 _ _ (hs.tmps.2 i c' v hc' hv)
theorem aw_freeze {c : Code} {b : Nat} {xs : List AV} (hb : σ.sl b = some xs) (h : AW P D c Q (fr.map (frz b xs)) (σ.dropSl b)) : AW P D c Q fr σ := by
  intro G a w hs
  obtain ⟨G', h1, h2⟩ := hs.freeze hb
  exact wp_mono (h G' a w h2) fun e a w h => lift_le h1 h
theorem awl_freeze {ops : Array Oper} {l : List Oper} {b : Nat} {xs : List AV} (hb : σ.sl b = some xs) (h : AWL P D ops Q l (fr.map (frz b xs)) (σ.dropSl b)) : AWL P D ops Q l fr σ := by
  intro G a w hs
  obtain ⟨G', h1, h2⟩ := hs.freeze hb
  exact wpList_weaken (fun e a w h => lift_le h1 h) l a w (h G' a w h2)
/-- A nil slice becomes one of the function's own. -/
theorem aw_open {c : Code} {i : Nat} (hi : fr[i]? = some (.p (.slice none 0 0))) (h : AW P D c Q (fr.set i (.hsl σ.next 0 0)) (σ.addSl [])) : AW P D c Q fr σ := by
  intro G a w hs
  obtain ⟨G', h1, h2, h3⟩ := new_nil hs.w w (Below.refl _ _) none
  refine wp_mono (h G' a w ⟨⟨by simpa using hs.tmps.1, fun j c v hc hv => ?_⟩, hs.defers, h2⟩) fun e a w h => lift_le h1 h
  rw [List.getElem?_set] at hc
  split at hc
  · rename_i e
    subst e
    split at hc
    · obtain rfl := Option.some.inj hc
      have := hs.tmps.2 i _ v hi hv
      cases this
      exact h3
    · cases hc
  · exact (hs.tmps.2 j c v hc hv).mono h1

/-! ### results -/
def ares (P : Program) (σ : ASt) (fr : List AV) : List ResultVar → Option (List AV)
  | [] => some []
  | .tmp t :: l => (ares P σ fr l).map fun r => fget fr t :: r
  | .cell a t :: l => (aload P σ t (fget fr a)).bind fun x => (ares P σ fr l).map fun r => x :: r
def tupOf : List AV → AV
  | [x] => x
  | l => .tup l
def resF (tmps : Array Value) : ResultVar → Sem Value
  | .tmp t => pure (tmps.getD t undef)
  | .cell x t => do loadVar t (← asAddr (tmps.getD x undef))
theorem results_eq (fn : Func) (tmps : Array Value) : results fn tmps = (do let vs ← fn.results.mapM (resF tmps); pure (if h : vs.size = 1 then vs[0] else .tuple vs)) := rfl
theorem run_results (P : Program) {G D a w} (hs : Sim G fr σ D a w) : ∀ (l : List ResultVar) (rs : List AV), ares P σ fr l = some rs →
    ∃ vs, (l.mapM (resF a.tmps)).run P w = .ok vs w ∧ RepL G w rs vs
  | [], rs, h => by
    obtain rfl := Option.some.inj h
    exact ⟨[], by simp, rfl, fun i c v h => by simp at h⟩
  | .tmp t :: l, rs, h => by
    obtain ⟨r, hr, rfl⟩ := Option.map_eq_some_iff.1 h
    obtain ⟨vs, h1, h2⟩ := run_results P hs l r hr
    refine ⟨a.tmps.getD t undef :: vs, by simp only [List.mapM_cons, Sem.run_bind, h1, resF, Sem.run_pure, Result.andThen_ok], by simpa using h2.1, fun i c v hc hv => ?_⟩
    cases i with
    | zero =>
      simp only [List.getElem?_cons_zero, Option.some.injEq] at hc hv
      subst hc; subst hv
      exact hs.ev (.tmp t)
    | succ i => exact h2.2 i c v (by simpa using hc) (by simpa using hv)
  | .cell x t :: l, rs, h => by
    obtain ⟨y, hy, h⟩ := Option.bind_eq_some_iff.1 h
    obtain ⟨r, hr, rfl⟩ := Option.map_eq_some_iff.1 h
    obtain ⟨vs, h1, h2⟩ := run_results P hs l r hr
    simp only [aload, Option.bind_eq_some_iff] at hy
    obtain ⟨⟨n, g⟩, hn, ⟨cs, off⟩, hc, hl⟩ := hy
    obtain ⟨β, o, hv, hcs⟩ := acells_spec hc hs.w (hs.ev (.tmp x))
    obtain ⟨v, k1, k2⟩ := run_loadVar_of hn hl hcs
    have hv : a.tmps.getD x undef = .pointer (some ⟨β, o + off, none⟩) := hv
    refine ⟨v :: vs, by simp only [List.mapM_cons, Sem.run_bind, h1, resF, hv, asAddr, k1, Sem.run_pure, Result.andThen_ok], by simpa using h2.1, fun i c u hc hu => ?_⟩
    cases i with
    | zero =>
      simp only [List.getElem?_cons_zero, Option.some.injEq] at hc hu
      subst hc; subst hu
      exact k2
    | succ i => exact h2.2 i c u (by simpa using hc) (by simpa using hu)
theorem aresults_of {fn : Func} {rs : List AV} (h : ares P σ fr fn.results.toList = some rs) : AResults P fn fr σ (tupOf rs) := by
  intro G D a w hs
  obtain ⟨vs, h1, h2⟩ := run_results P hs _ rs h
  have hrun : (results fn a.tmps).run P w = .ok (if hh : vs.toArray.size = 1 then vs.toArray[0] else .tuple vs.toArray) w := by
    rw [results_eq]
    simp only [Sem.run_bind, Array.mapM_eq_mapM_toList, Sem.run_map]
    rw [h1]
    rfl
  refine ⟨_, hrun, ?_⟩
  cases vs with
  | nil =>
    cases rs with
    | nil => exact .tup [] #[] rfl fun i c v h => by simp at h
    | cons _ _ => cases h2.1
  | cons v vs =>
    cases rs with
    | nil => cases h2.1
    | cons r rs =>
      cases vs with
      | nil =>
        cases rs with
        | nil => simpa [tupOf] using h2.2 0 r v rfl rfl
        | cons _ _ => have := h2.1; simp at this
      | cons v' vs =>
        cases rs with
        | nil => have := h2.1; simp at this
        | cons r' rs =>
          simp only [tupOf, List.size_toArray, List.length_cons]
          rw [dif_neg (by omega)]
          exact .tup _ _ (by simpa using h2.1) fun i c u hc hu => h2.2 i c u hc (by simpa using hu)
theorem ret_of {fn : Func} {e : Exit} (he : e = .normal ∨ e = .ret) {rs : List AV} (h : ares P σ fr fn.results.toList = some rs) (hf : Fin R (tupOf rs) σ) : RetQ P fn R e fr σ := by
  rcases he with rfl | rfl <;> exact ⟨_, aresults_of h, hf⟩

/-! ### calls -/
def callable (P : Program) (f : FuncId) : Bool := match P.funcs[f]? with | some fn => !(fn.name == "runtime.NumGoroutine") && fn.body.isSome | none => false
theorem run_callFunc {f : FuncId} (h : callable P f = true) (args : Array Value) (w : World) : (callFunc f args).run P w = .ok (.enter f args) w := by
  unfold callable at h
  cases hf : P.funcs[f]? with
  | none => rw [hf] at h; cases h
  | some fn =>
    rw [hf] at h
    simp only [Bool.and_eq_true, Bool.not_eq_true'] at h
    have hb : fn.body.isNone = false := by cases hb : fn.body <;> simp_all
    simp only [callFunc, Sem.run_bind, run_program, Result.andThen_ok, hf, h.1, hb, Bool.false_eq_true, if_false]
    rfl
def acallee : AV → Option (FuncId × List AV × List AV)
  | .p (.func (.func f) us vs) => if us.size = 0 ∧ vs.size = 0 then some (f, [], []) else none
  | .fn (.func f) aa bs => some (f, aa, bs)
  | _ => none
theorem RepL.append {G w aa us bs vs} (h1 : RepL G w aa us) (h2 : RepL G w bs vs) : RepL G w (aa ++ bs) (us ++ vs) := by
  refine ⟨by simp [h1.1, h2.1], fun i c v hc hv => ?_⟩
  rw [List.getElem?_append] at hc hv
  rw [← h1.1] at hv
  split at hc
  · rename_i hi; rw [if_pos hi] at hv; exact h1.2 i c v hc hv
  · rename_i hi; rw [if_neg hi] at hv; exact h2.2 _ c v hc hv
theorem opq_call {f : Operand} {aa : Array Operand} {ts : Array TypeId} (ho : o.op = .call { callee := .value f, args := aa, argTypes := ts }) {F : FuncId} {first cap : List AV} (hf : acallee (ρ f) = some (F, first, cap)) (hc : callable P F = true)
    (h : ACall P F (first ++ aa.toList.map ρ ++ cap) σ R) : OpQ P o ρ σ R := by
  intro G e w he hw
  have hrf := he f
  generalize ρ f = cf at hf hrf
  generalize hvf : e f = vf at hrf
  have hargs : RepL G w (aa.toList.map ρ) (aa.toList.map e) := ⟨by simp, fun i c v hc hv => by
    simp only [List.getElem?_map, Option.map_eq_some_iff] at hc hv
    obtain ⟨a, ha, rfl⟩ := hc
    obtain ⟨b, hb, rfl⟩ := hv
    obtain rfl := Option.some.inj (ha.symm.trans hb)
    exact he _⟩
  have go : ∀ us vs : Array Value, vf = .func (.func F) us vs → RepL G w first us.toList → RepL G w cap vs.toList → OutcN P G w R ((execOp e o).run P w) := by
    intro us vs hv h1 h2
    subst hv
    simp only [execOp, ho, resolve, hvf, Deferred.ofValue, Sem.run_bind, Sem.run_pure, Result.andThen_ok, invoke, run_callFunc hc]
    refine h G w _ ?_ hw
    simpa [List.append_assoc] using (h1.append (hargs.append h2))
  cases hrf with
  | p =>
    cases vf with
    | func q us vs =>
      cases q with
      | func q =>
        obtain ⟨⟨u0, v0⟩, hf⟩ := ite_some' hf
        simp only [Option.some.injEq, Prod.mk.injEq] at hf
        obtain ⟨rfl, rfl, rfl⟩ := hf
        have hu := Array.eq_empty_of_size_eq_zero u0
        have hv := Array.eq_empty_of_size_eq_zero v0
        exact go us vs rfl (by subst hu; exact ⟨rfl, fun i c v h => by simp at h⟩) (by subst hv; exact ⟨rfl, fun i c v h => by simp at h⟩)
      | _ => cases hf
    | _ => cases hf
  | fn q as' bs' us vs h1 h2 h3 h4 =>
    cases q with
    | func q =>
      simp only [acallee, Option.some.injEq, Prod.mk.injEq] at hf
      obtain ⟨rfl, rfl, rfl⟩ := hf
      exact go us vs rfl ⟨by simpa using h1, fun i c v hc hv => h3 i c v hc (by simpa using hv)⟩ ⟨by simpa using h2, fun i c v hc hv => h4 i c v hc (by simpa using hv)⟩
    | _ => cases hf
  | _ => cases hf
end Go.AL
