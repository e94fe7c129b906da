import Derived.Test.YtadepmefdanenaaDoorK02n
import Derived.Test.YtadepmefdanenaaDoorK02f
/-! Plain laws of places' ranges: the cells of both, and what two ranges have together. -/
namespace Go.AL
open Go.Proofs
set_option linter.unusedSimpArgs false
set_option linter.unusedVariables false
theorem range1024 : List.range 1024 = (List.range 64).flatMap fun m => (List.range 16).map fun x => 16 * m + x := by decide +kernel
theorem cut16 : ∀ a : Nat, a < 16 → ∀ c : Nat, c < 16 → a ≤ c → (List.range 16).filter (fun x => decide (a ≤ x) && decide (x ≤ c)) = (List.range (c - a + 1)).map fun i => a + i := by decide +kernel
theorem cut64 : ∀ b : Nat, b < 64 → ∀ d : Nat, d < 64 → b ≤ d → (List.range 64).filter (fun y => decide (b ≤ y) && decide (y ≤ d)) = (List.range (d - b + 1)).map fun j => b + j := by decide +kernel
theorem flatMap_cong {α β : Type} {l : List α} {f g : α → List β} (h : ∀ x ∈ l, f x = g x) : l.flatMap f = l.flatMap g := by
  induction l with
  | nil => rfl
  | cons x l ih => rw [List.flatMap_cons, List.flatMap_cons, h x (by simp), ih fun y hy => h y (by simp [hy])]
theorem flatMap_cut {α β : Type} (p : α → Bool) (f : α → List β) (l : List α) : (l.flatMap fun x => if p x = true then f x else []) = (l.filter p).flatMap f := by
  induction l with
  | nil => rfl
  | cons x l ih => rw [List.flatMap_cons, List.filter_cons, ih]; by_cases h : p x = true <;> simp [h]
theorem cellsL_eq (a b c d : Int) : cellsL a b c d = gridL a b c d := by
  have hg : ∀ i : Nat, i ∈ List.range 64 → ∀ x : Nat, x ∈ List.range 16 → atC ((16 * i + x : Nat) : Int) = (x : Int) ∧ atR ((16 * i + x : Nat) : Int) = (i : Int) := by
    intro i hi x hx
    have h1 := List.mem_range.1 hi
    have h2 := List.mem_range.1 hx
    rw [atC_nat (by omega), atR_nat (by omega)]
    omega
  have e : cellsL a b c d = (List.range 64).flatMap fun m : Nat => ((List.range 16).filter fun x : Nat => hasP a b c d (x : Int) (m : Int)).map fun x : Nat => ((x : Int), (m : Int)) := by
    unfold cellsL cellsN
    rw [range1024, List.filter_flatMap, List.map_flatMap]
    refine flatMap_cong fun m hm => ?_
    rw [List.filter_map, List.map_map]
    rw [List.filter_congr (q := fun x : Nat => hasP a b c d (x : Int) (m : Int)) fun x hx => by simp only [Function.comp]; rw [(hg m hm x hx).1, (hg m hm x hx).2]]
    refine List.map_congr_left fun x hx => ?_
    have hx := (List.mem_filter.1 hx).1
    simp only [Function.comp]
    rw [(hg m hm x hx).1, (hg m hm x hx).2]
  rw [e]
  unfold gridL
  split
  · rename_i hw
    obtain ⟨⟨a0, ac, c1⟩, b0, bd, d1⟩ := whole_iff.1 hw
    obtain ⟨a, rfl⟩ := Int.eq_ofNat_of_zero_le a0
    obtain ⟨b, rfl⟩ := Int.eq_ofNat_of_zero_le b0
    obtain ⟨c, rfl⟩ := Int.eq_ofNat_of_zero_le (show 0 ≤ c by omega)
    obtain ⟨d, rfl⟩ := Int.eq_ofNat_of_zero_le (show 0 ≤ d by omega)
    have hr : ∀ m ∈ List.range 64, (((List.range 16).filter fun x : Nat => hasP a b c d (x : Int) (m : Int)).map fun x : Nat => ((x : Int), (m : Int))) = if (decide (b ≤ m) && decide (m ≤ d)) = true then rowN a (m : Int) (c - a + 1) else [] := by
      intro m _
      split
      · rename_i hm
        simp only [Bool.and_eq_true, decide_eq_true_eq] at hm
        rw [List.filter_congr (q := fun x : Nat => decide (a ≤ x) && decide (x ≤ c)) fun x hx => by
          simp only [hasP, withinP, hw, Bool.true_and, Int.ofNat_le, hm, decide_true, Bool.and_true, Int.ofNat_eq_natCast], cut16 a (by omega) c (by omega) (by omega), List.map_map]
        unfold rowN
        exact List.map_congr_left fun i _ => by simp
      · rename_i hm
        rw [List.filter_eq_nil_iff.2, List.map_nil]
        intro x hx
        simp only [Bool.and_eq_true, decide_eq_true_eq] at hm
        simp only [hasP, withinP, Bool.and_eq_true, decide_eq_true_eq]
        omega
    rw [flatMap_cong hr, flatMap_cut, cut64 b (by omega) d (by omega) (by omega), List.flatMap_map]
    unfold gridN
    rw [show ((c : Int) - a + 1).toNat = c - a + 1 by omega, show ((d : Int) - b + 1).toNat = d - b + 1 by omega]
    exact flatMap_cong fun j _ => by simp
  · rename_i hw
    have hw : wholeP a b c d = false := by simpa using hw
    rw [flatMap_cong (g := fun _ => []) fun m _ => by simp [hasP, hw]]
    simp
/-- First and last. -/
def mres (F : List (Int × Int)) : (Int × Int) × (Int × Int) × Bool := (F.headD (0, 0), F.getLastD (0, 0), !F.isEmpty)
theorem mres_snoc (F : List (Int × Int)) (p : Int × Int) : mres (F ++ [p]) = (if (mres F).2.2 = true then (mres F).1 else p, p, true) := by
  cases F with
  | nil => rfl
  | cons x F =>
    simp [mres]
    rw [show x :: (F ++ [p]) = (x :: F) ++ [p] from rfl, List.getLast?_concat]; rfl
theorem meetL_eq (e f g i : Int) (L : List (Int × Int)) : meetL e f g i L = mres (L.filter fun p => hasP e f g i p.1 p.2) := by
  have key : ∀ n (L : List (Int × Int)), L.length = n → meetL e f g i L = mres (L.filter fun p => hasP e f g i p.1 p.2) := by
    intro n
    induction n with
    | zero => intro L h; obtain rfl := List.length_eq_zero_iff.1 h; rfl
    | succ n ih =>
      intro L h
      have hne : L ≠ [] := by intro hh; rw [hh] at h; cases h
      obtain ⟨M, p, rfl⟩ : ∃ M p, L = M ++ [p] := ⟨L.dropLast, L.getLast hne, (List.dropLast_concat_getLast hne).symm⟩
      have ihM := ih M (by simpa using h)
      rw [meetL_snoc, ihM, List.filter_append]
      unfold meetS
      by_cases hp : hasP e f g i p.1 p.2 = true
      · rw [if_pos hp, List.filter_cons_of_pos (by exact hp), List.filter_nil, mres_snoc]
      · rw [if_neg hp, List.filter_cons_of_neg (by exact hp), List.filter_nil, List.append_nil]
  exact key _ L rfl
theorem filter_cells (a b c d e f g i : Int) : (cellsL a b c d).filter (fun p => hasP e f g i p.1 p.2) = if meetP a b c d e f g i = true then cellsL (max a e) (max b f) (min c g) (min d i) else [] := by
  have hM : ∀ x y : Int, (hasP a b c d x y && hasP e f g i x y) = (meetP a b c d e f g i && hasP (max a e) (max b f) (min c g) (min d i) x y) := by
    intro x y
    rw [Bool.eq_iff_iff]
    simp only [hasP, meetP, Bool.and_eq_true, whole_iff, withinP, decide_eq_true_eq]
    omega
  unfold cellsL cellsN
  rw [List.filter_map, List.filter_filter]
  have h2 : ∀ n : Nat, (((fun p : Int × Int => hasP e f g i p.1 p.2) ∘ fun i : Nat => (atC (i : Int), atR (i : Int))) n && hasP a b c d (atC (n : Int)) (atR (n : Int))) = (meetP a b c d e f g i && hasP (max a e) (max b f) (min c g) (min d i) (atC (n : Int)) (atR (n : Int))) := by
    intro n
    simp only [Function.comp]
    rw [Bool.and_comm]
    exact hM _ _
  rw [List.filter_congr fun n _ => h2 n]
  split
  · rename_i h; simp only [h, Bool.true_and]
  · rename_i h
    have h : meetP a b c d e f g i = false := by simpa using h
    simp [h]
theorem grid_ends (a b : Int) (k n : Nat) : mres (gridN a b (k + 1) (n + 1)) = ((a, b), (a + (k : Int), b + (n : Int)), true) := by
  have h1 : gridN a b (k + 1) (n + 1) = (gridN a b (k + 1) n ++ rowN a (b + (n : Int)) k) ++ [(a + (k : Int), b + (n : Int))] := by rw [gridN_succ, rowN_succ, List.append_assoc]
  have h2 : ∃ t, gridN a b (k + 1) (n + 1) = (a, b) :: t := by
    refine ⟨(gridN a b (k + 1) (n + 1)).tail, ?_⟩
    · have : (gridN a b (k + 1) (n + 1)).head? = some (a, b) := by
        unfold gridN
        rw [List.range_succ_eq_map, List.flatMap_cons]
        unfold rowN
        rw [List.range_succ_eq_map]
        simp
      cases hg : gridN a b (k + 1) (n + 1) with
      | nil => rw [hg] at this; cases this
      | cons x t => rw [hg] at this; cases this; rfl
  obtain ⟨t, h2⟩ := h2
  have e1 : (gridN a b (k + 1) (n + 1)).headD (0, 0) = (a, b) := by rw [h2]; rfl
  have e2 : (gridN a b (k + 1) (n + 1)).getLastD (0, 0) = (a + (k : Int), b + (n : Int)) := by rw [h1]; simp
  have e3 : (gridN a b (k + 1) (n + 1)).isEmpty = false := by rw [h2]; rfl
  rw [mres, e1, e2, e3]; rfl
theorem meet_law (a b c d e f g i : Int) : meetL e f g i (cellsL a b c d) = ((z (meetP a b c d e f g i) (max a e), z (meetP a b c d e f g i) (max b f)), (z (meetP a b c d e f g i) (min c g), z (meetP a b c d e f g i) (min d i)), meetP a b c d e f g i) := by
  rw [meetL_eq, filter_cells]
  cases hm : meetP a b c d e f g i with
  | false => rfl
  | true =>
    have hw : wholeP (max a e) (max b f) (min c g) (min d i) = true := by
      simp only [meetP, Bool.and_eq_true] at hm; exact hm.2
    obtain ⟨⟨a0, ac, c1⟩, b0, bd, d1⟩ := whole_iff.1 hw
    rw [if_pos rfl, cellsL_eq, gridL, if_pos hw]
    obtain ⟨k, hk⟩ : ∃ k : Nat, (min c g - max a e + 1).toNat = k + 1 := ⟨(min c g - max a e).toNat, by omega⟩
    obtain ⟨n, hn⟩ : ∃ n : Nat, (min d i - max b f + 1).toNat = n + 1 := ⟨(min d i - max b f).toNat, by omega⟩
    rw [hk, hn, grid_ends]
    simp only [z_true]
    rw [show max a e + (k : Int) = min c g by omega, show max b f + (n : Int) = min d i by omega]
end Go.AL
