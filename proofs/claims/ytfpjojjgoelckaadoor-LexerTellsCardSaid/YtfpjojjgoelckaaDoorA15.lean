import Derived.Test.YtfpjojjgoelckaaDoorA14b
import Derived.Test.YtfpjojjgoelckaaDoorA13
/-! Loops: what a frame keeps. -/
namespace Go.AL
set_option linter.unusedVariables false
set_option linter.unusedSimpArgs false

variable {P : Program} {σ : ASt} {D : List Deferred} {Q : Exit → List AV → ASt → Prop} {fr : List AV}

attribute [simp] shut_ynil shut_ycons stOp preSt postSt

/-- Of the slots, those named stay known. -/
def keep (ks : List Nat) : Nat → List AV → List AV
  | _, [] => []
  | i, v :: l => (if ks.contains i then v else .any) :: keep ks (i + 1) l
theorem keep_get (ks : List Nat) : ∀ (l : List AV) (i t : Nat), fget (keep ks i l) t = fget l t ∨ fget (keep ks i l) t = .any
  | [], _, _ => .inl rfl
  | v :: l, i, 0 => by simp only [keep, fget]; split <;> simp
  | v :: l, i, t + 1 => by simp only [keep, fget]; exact keep_get ks l (i + 1) t
theorem keep_len (ks : List Nat) : ∀ (l : List AV) (i : Nat), (keep ks i l).length = l.length
  | [], _ => rfl
  | v :: l, i => by simp [keep, keep_len ks l]
theorem keep_idx (ks : List Nat) : ∀ (l : List AV) (i j : Nat) (c : AV), (keep ks i l)[j]? = some c → l[j]? = some c ∨ c = .any
  | [], _, _, _, h => by simp [keep] at h
  | v :: l, i, 0, c, h => by
    simp only [keep, List.getElem?_cons_zero, Option.some.injEq] at h
    split at h
    · exact .inl (by simp [h])
    · exact .inr h.symm
  | v :: l, i, j + 1, c, h => by
    simp only [keep, List.getElem?_cons_succ] at h ⊢
    exact keep_idx ks l (i + 1) j c h
theorem keep_keep (ks : List Nat) : ∀ (l : List AV) (i : Nat), keep ks i (keep ks i l) = keep ks i l
  | [], _ => rfl
  | v :: l, i => by
    simp only [keep, List.cons.injEq]
    refine ⟨?_, keep_keep ks l (i + 1)⟩
    split <;> rfl
theorem Sim.keep {G D a w} (ks : List Nat) (h : Sim G fr σ D a w) : Sim G (keep ks 0 fr) σ D a w := by
  refine ⟨⟨by rw [keep_len]; exact h.tmps.1, fun i c v hc hv => ?_⟩, h.defers, h.w⟩
  rcases keep_idx ks fr 0 i c hc with e | rfl
  · exact h.tmps.2 i c v e hv
  · exact .any _
theorem aw_keep {c : Code} (ks : List Nat) (h : AW P D c Q (keep ks 0 fr) σ) : AW P D c Q fr σ := fun G a w hs => h G a w (hs.keep ks)
/-- A frame of so many slots, of which these are known. -/
def frm (n : Nat) (ps : List (Nat × AV)) : List AV := ps.foldl (fun l p => fset l p.1 p.2) (List.replicate n .any)
theorem aw_loopK {c : Code} (ks : List Nat) (I : Nat → List AV → ASt → Prop) (n : Nat) (h0 : I n (keep ks 0 fr) σ)
    (round : ∀ n fr σ, I n fr σ → AW P D c (thenA (fun fr' σ' => ∃ m, m < n ∧ I m (keep ks 0 fr') σ') Q) fr σ) : AW P D (.loop c) Q fr σ := by
  refine aw_keep ks (aw_loop (fun n fr σ => I n (keep ks 0 fr) σ) n ?_ fun n fr σ h => ?_)
  · rw [keep_keep]; exact h0
  · exact aw_keep ks (round n _ σ h)
end Go.AL
