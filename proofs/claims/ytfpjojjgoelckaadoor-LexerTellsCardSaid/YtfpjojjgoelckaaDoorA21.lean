import Derived.Test.YtfpjojjgoelckaaDoorA20
import Derived.Deep.Slices
/-! Arguments that are slices. -/
namespace Go.AL
open Go.RowKit (Below)
set_option linter.unusedVariables false
theorem cell_lt {W : World} {β o : Nat} {v : Value} (h : W.cell? ⟨β, o, none⟩ = some v) : β < W.heap.size := by
  rcases Nat.lt_or_ge β W.heap.size with h' | h'
  · exact h'
  · unfold World.cell? at h; simp [Array.getElem?_eq_none h'] at h
theorem rep_rows {W : World} {β o k len cap : Nat} (xs : Nat → List Value) (hk : ∀ i, i < len → (xs i).length = k) (hle : len ≤ cap) (F : Nat → AV) (hF : ∀ i, i < len → (F i).cells = (xs i).map AV.p)
    (hc : ∀ i, i < len → ∀ j c, (xs i)[j]? = some c → W.cell? ⟨β, o + (i * k + j), none⟩ = some c) : Rep (G0 W) W (.vsl ((List.range len).map F)) (.slice (some ⟨β, o, none⟩) len cap) := by
  have at_ : ∀ (i j : Nat) c, rowCell ((List.range len).map F) i j = some c → i < len ∧ ∃ u, (xs i)[j]? = some u ∧ c = .p u := by
    intro i j c h
    unfold rowCell at h
    obtain ⟨x, h1, h2⟩ := Option.bind_eq_some_iff.1 h
    rw [List.getElem?_map] at h1
    obtain ⟨i', h3, rfl⟩ := Option.map_eq_some_iff.1 h1
    obtain ⟨hi, rfl⟩ : i < len ∧ i = i' := by
      have := List.getElem?_eq_some_iff.1 h3
      obtain ⟨hl, he⟩ := this
      simp at hl he
      exact ⟨hl, he⟩
    rw [hF i hi, List.getElem?_map] at h2
    obtain ⟨u, h4, rfl⟩ := Option.map_eq_some_iff.1 h2
    exact ⟨hi, u, h4, rfl⟩
  have key := Rep.vsl (G := G0 W) (w := W) ((List.range len).map F) β o k cap (fun i j => (xs i).getD j undef) (by simpa using hle)
    (fun i x hx => by
      rw [List.getElem?_map] at hx
      obtain ⟨i', h3, rfl⟩ := Option.map_eq_some_iff.1 hx
      obtain ⟨hl, he⟩ := List.getElem?_eq_some_iff.1 h3
      simp at hl he
      subst he
      rw [hF i hl, List.length_map]; exact hk i hl)
    (fun i j c h => by
      obtain ⟨hi, u, hu, rfl⟩ := at_ i j c h
      have := hc i hi j u hu
      rw [Nat.add_assoc]
      exact ⟨cell_lt this, by rw [this, List.getD, hu]; rfl⟩)
    (fun i j c h => by
      obtain ⟨hi, u, hu, rfl⟩ := at_ i j c h
      have e : (xs i).getD j undef = u := by rw [List.getD, hu]; rfl
      rw [e]
      exact .p u)
  simpa using key
end Go.AL
