import Derived.Test.YtfpjojjgoelckaaDoorA21
import Derived.Test.YtfpjojjgoelckaaDoorA17
/-! What is handed back, closed: slices of the function's own stay as they are; no slice is the empty one. -/
namespace Go.AL
open Go.RowKit (Below)
set_option linter.unusedVariables false
set_option linter.unusedSimpArgs false
variable {P : Program} {σ : ASt} {R : AV → ASt → Prop}
def clo0 (σ : ASt) : AV → AV
  | .p (.slice none 0 _) => .vsl []
  | .hsl b off n => match σ.sl b with
    | some xs => if off + n ≤ xs.length then .vsl ((xs.drop off).take n) else .any
    | none => .hsl b off n
  | v => v
def clo1 (σ : ASt) : AV → AV
  | .agg cs => .agg (cs.map (clo0 σ))
  | v => clo0 σ v
def clo (σ : ASt) : AV → AV
  | .tup cs => .tup (cs.map (clo1 σ))
  | v => clo1 σ v
theorem clo_rep {G G' w} (f0 : ∀ v u, Rep G w v u → Rep G' w (clo0 σ v) u) : ∀ v u, Rep G w v u → Rep G' w (clo σ v) u := by
  have f1 : ∀ v u, Rep G w v u → Rep G' w (clo1 σ v) u := by
    intro v u hr
    by_cases hv : ∃ cs, v = .agg cs
    · obtain ⟨cs, rfl⟩ := hv
      cases hr with
      | agg _ vs hs h =>
        refine .agg _ vs (by simpa using hs) fun i c v hc hv => ?_
        rw [List.getElem?_map] at hc
        obtain ⟨c', hc', rfl⟩ := Option.map_eq_some_iff.1 hc
        exact f0 _ _ (h i c' v hc' hv)
    · have : clo1 σ v = clo0 σ v := by cases v <;> first | rfl | exact absurd ⟨_, rfl⟩ hv
      rw [this]; exact f0 v u hr
  intro v u hr
  by_cases hv : ∃ cs, v = .tup cs
  · obtain ⟨cs, rfl⟩ := hv
    cases hr with
    | tup _ vs hs h =>
      refine .tup _ vs (by simpa using hs) fun i c v hc hv => ?_
      rw [List.getElem?_map] at hc
      obtain ⟨c', hc', rfl⟩ := Option.map_eq_some_iff.1 hc
      exact f1 _ _ (h i c' v hc' hv)
  · have : clo σ v = clo1 σ v := by cases v <;> first | rfl | exact absurd ⟨_, rfl⟩ hv
    rw [this]; exact f1 v u hr
def ASt.noSl (σ : ASt) : ASt := { σ with sl := fun _ => none }
theorem noSl_le (σ : ASt) : (σ.noSl).Le σ := ⟨fun _ _ h => h, fun _ _ h => h, fun _ _ h => (nomatch h), Nat.le_refl _⟩
theorem SimW.close {G σ w} (h : SimW G σ w) : ∃ G', Le G w G' w ∧ SimW G' σ.noSl w ∧ ∀ v u, Rep G w v u → Rep G' w (clo σ v) u := by
  obtain ⟨q, hq⟩ : ∃ q : Nat → Nat → Prop, q = fun γ _ => ∃ b xs r, σ.sl b = some xs ∧ G.sl b = some (some (γ, r)) := ⟨_, rfl⟩
  have hqo : ∀ γ o, q γ o → ∃ b, Owns G σ γ (2, b) := fun γ o e => by
    rw [hq] at e; obtain ⟨b, xs, r, h1, h2⟩ := e; exact ⟨b, .sl b γ r xs h1 h2⟩
  have hl : Le G w (G.addSt q) w := ⟨rfl, fun _ _ e => e, fun _ _ e => e, fun _ _ e => e, fun _ _ e => .inl e, fun γ o e => e.imp id fun e => by
    obtain ⟨b, hb⟩ := hqo γ o e; exact (h.own _ _ hb).1, fun _ _ _ => rfl, Below.refl _ _⟩
  refine ⟨_, hl, ?_, clo_rep fun v u hr => ?_⟩
  · have hw := h.less (noSl_le σ)
    have hown : ∀ γ k, Owns (G.addSt q) σ.noSl γ k → Owns G σ γ k ∧ k.1 ≠ 2 := by
      intro γ k hk
      cases hk with
      | bx b' β' cs2 h2 g2 => exact ⟨.bx _ _ cs2 h2 g2, by simp⟩
      | mp b' β' cs2 h2 g2 => exact ⟨.mp _ _ cs2 h2 g2, by simp⟩
      | sl b' β' r cs2 h2 g2 => cases h2
    refine ⟨hw.base, fun b' cs e => (hw.bx b' cs e).mono hl fun _ _ => rfl, fun b' cs e => (hw.mp b' cs e).mono hl fun _ _ => rfl, fun b' cs e => (nomatch e), fun γ k hk => ?_, fun γ o e => ?_, hw.fresh⟩
    · have hk1 := hown γ k hk
      refine ⟨(h.own γ k hk1.1).1, fun k' hk' => (h.own γ k hk1.1).2.1 k' (hown _ _ hk').1, fun o e => ?_⟩
      rcases e with e | e
      · exact (h.own γ k hk1.1).2.2 o e
      · obtain ⟨b, hb⟩ := hqo γ o e
        have := (h.own γ _ hk1.1).2.1 _ hb
        exact hk1.2 (by rw [← this])
    · rcases e with e | e
      · exact h.stIn _ _ e
      · obtain ⟨b, hb⟩ := hqo γ o e; exact h.own_lt hb
  · have hr0 := hr.mono hl
    by_cases hv : ∃ cap, v = .p (.slice none 0 cap)
    · obtain ⟨cap, rfl⟩ := hv
      cases hr
      exact .vnil none cap
    by_cases hv2 : ∃ b off n, v = .hsl b off n
    · obtain ⟨b, off, n, rfl⟩ := hv2
      simp only [clo0]
      cases hb : σ.sl b with
      | none => exact hr0
      | some xs =>
        simp only
        split
        · rename_i hin
          have hS := h.sl b xs hb
          cases hr with
          | hsl _ _ _ β' o' s' cap' g hle =>
            rcases hS with ⟨g1, rfl⟩ | ⟨β, o, s, cap, arr, el, g1, g2, g3, g4, g5, g6⟩
            · rw [g1] at g; cases g
            obtain ⟨rfl, rfl, rfl, rfl⟩ : β = β' ∧ o = o' ∧ s = s' ∧ cap = cap' := by rw [g] at g1; simpa using g1.symm
            have hlen : ((xs.drop off).take n).length = n := by simp; omega
            have hc0 : n ≤ cap - off := by omega
            have hc1 : ((xs.drop off).take n).length ≤ cap - off := by rw [hlen]; exact hc0
            have hin2 : ∀ i j c, rowCell ((xs.drop off).take n) i j = some c → rowCell xs (off + i) j = some c ∧ o + (off + i) * s + j < arr.size := by
              intro i j c hc
              obtain ⟨hc2, hi⟩ := rowCell_seg _ _ _ _ _ _ hc
              obtain ⟨h1, h2, h3⟩ := rowCell_lt hc2 g5
              have : xs.length * s ≤ cap * s := Nat.mul_le_mul_right _ g3.2
              exact ⟨hc2, by omega⟩
            have key := Rep.vsl (G := G.addSt q) (w := w) ((xs.drop off).take n) β (o + off * s) s (cap - off) (fun i j => arr.getD (o + (off + i) * s + j) undef) hc1 (fun i x hx => by
              rw [List.getElem?_take] at hx
              split at hx
              · rw [List.getElem?_drop] at hx; exact g5 _ _ hx
              · cases hx) (fun i j c hc => ⟨.inr (by rw [hq]; exact ⟨b, xs, _, hb, g1⟩), by
              obtain ⟨_, hlt⟩ := hin2 i j c hc
              have e : o + off * s + i * s + j = o + (off + i) * s + j := by rw [Nat.add_mul]; omega
              rw [cell_of_heap g2, e]
              simp [hlt]⟩) (fun i j c hc => by
              obtain ⟨hc2, hlt⟩ := hin2 i j c hc
              have := g6 (off + i) j c _ hc2 (Array.getElem?_eq_getElem hlt)
              simp only [Array.getD, hlt, dif_pos]
              exact this.mono hl)
            rw [hlen] at key; exact key
          | hend _ _ a β' o' s' cap' g hle => simp only [List.take_zero]; exact .vnil _ _
          | hnil _ a g => simp only [List.take_zero]; exact .vnil _ _
        · exact .any _
    · have : clo0 σ v = v := by
        cases v with
        | p x =>
          cases x <;> first | rfl | skip
          rename_i a n c
          cases a with
          | none => cases n with
            | zero => exact absurd ⟨_, rfl⟩ hv
            | succ n => rfl
          | some a => rfl
        | hsl b off n => exact absurd ⟨_, _, _, rfl⟩ hv2
        | _ => rfl
      rw [this]; exact hr0
theorem Fin.close {r : AV} (h : Fin R (clo σ r) σ.noSl) : Fin R r σ := by
  intro G w v hw hr
  obtain ⟨G', h1, h2, h3⟩ := hw.close
  obtain ⟨r', G2, σ2, k1, k2, k3, k4⟩ := h G' w v h2 (h3 _ _ hr)
  exact ⟨r', G2, σ2, h1.trans k1, k2, k3, k4⟩
attribute [simp] clo clo1 clo0
end Go.AL
