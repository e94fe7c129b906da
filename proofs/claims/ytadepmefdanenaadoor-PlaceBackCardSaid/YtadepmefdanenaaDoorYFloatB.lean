import Derived.Test.YtadepmefdanenaaDoorYFloat
namespace Go.Proofs.YtadepmefdanenaaDoor.Flo
open Ieee
/-- A great step leads away. -/
theorem far_sum {a b : Int} (ha : 0 ≤ a ∧ a < 64) (hb : -9223372036854775808 ≤ b ∧ b ≤ 9223372036854775807) (far : b < -64 ∨ 64 < b) :
    ∃ z, add64 (F a) (F b) = some z ∧ (b < 0 → ord64 z 0 = some .lt) ∧ (0 < b → ord64 z 4625196817309499392 = some .gt ∧ (ord64 z 4634204016564240384 = some .gt ∨ ord64 z 4634204016564240384 = some .eq)) := by
  obtain ⟨n, rfl⟩ := Int.eq_ofNat_of_zero_le ha.1
  obtain ⟨m1, i1, e1, p1, q1, r1⟩ := small_read n (by omega)
  have hb0 : b.natAbs ≠ 0 := by omega
  have l1 := log2_lo hb0
  have l2 := log2_hi hb0
  have lg : 6 ≤ b.natAbs.log2 := (Nat.le_log2 hb0).2 (by omega)
  have lh : b.natAbs.log2 ≤ 63 := by
    have : b.natAbs.log2 < 64 := (Nat.log2_lt hb0).2 (by omega)
    omega
  obtain ⟨m2, i2, e2, a2, b2, c2, d2⟩ := near_read (decide (b < 0)) b.natAbs 0 hb0 (by omega) (by omega)
  rw [← F_eq] at e2
  -- the exact sum
  obtain ⟨base, hbase⟩ : ∃ base, base = min i1 i2 := ⟨_, rfl⟩
  obtain ⟨X, hX⟩ : ∃ X : Nat, X = m2 <<< (i2 - base).toNat := ⟨_, rfl⟩
  obtain ⟨B, hB⟩ : ∃ B : Nat, B = (-base).toNat := ⟨_, rfl⟩
  have hN : m1 <<< (i1 - base).toNat = n * 2 ^ B := by
    rw [Nat.shiftLeft_eq, r1, Nat.mul_assoc, ← Nat.pow_add]
    congr 2
    omega
  have X0 : 64 * 2 ^ B ≤ X := by
    rw [hX, Nat.shiftLeft_eq]
    have h1 : 2 ^ 52 * 2 ^ (i2 - base).toNat ≤ m2 * 2 ^ (i2 - base).toNat := Nat.mul_le_mul_right _ a2
    have h2 : (64 : Nat) * 2 ^ B ≤ 2 ^ 52 * 2 ^ (i2 - base).toNat := by
      rw [show (64 : Nat) = 2 ^ 6 from rfl, ← Nat.pow_add, ← Nat.pow_add]
      exact Nat.pow_le_pow_right (by omega) (by omega)
    exact Nat.le_trans h2 h1
  have X1 : X < 2 ^ (66 + B) := by
    rw [hX, Nat.shiftLeft_eq]
    have h1 : m2 * 2 ^ (i2 - base).toNat < 2 ^ 53 * 2 ^ (i2 - base).toNat := Nat.mul_lt_mul_of_pos_right b2 (Nat.pow_pos (by decide))
    have h2 : (2 : Nat) ^ 53 * 2 ^ (i2 - base).toNat ≤ 2 ^ (66 + B) := by
      rw [← Nat.pow_add]
      exact Nat.pow_le_pow_right (by omega) (by omega)
    exact Nat.lt_of_lt_of_le h1 h2
  have P0 : 0 < 2 ^ B := Nat.pow_pos (by decide)
  have nB : n * 2 ^ B ≤ 63 * 2 ^ B := Nat.mul_le_mul_right _ (by omega)
  have pB : (2 : Nat) ^ (66 + B) = 2 ^ 66 * 2 ^ B := Nat.pow_add ..
  have q6 : (2 : Nat) ^ (6 + B) = 64 * 2 ^ B := Nat.pow_add 2 6 B
  have q7 : (2 : Nat) ^ (67 + B) = 2 ^ 67 * 2 ^ B := Nat.pow_add ..
  obtain ⟨total, ht⟩ : ∃ total : Int, total = signed false m1 (i1 - base).toNat + signed (decide (b < 0)) m2 (i2 - base).toNat := ⟨_, rfl⟩
  have hsum : add64 (F n) (F b) = some (double.nearest (if total = 0 then (false && decide (b < 0)) else decide (total < 0)) total.natAbs base) := by
    show ((double.read (F n)).sum (double.read (F b))).map double.write = _
    rw [e1, e2]
    simp only [Datum.sum, Option.map_some]
    rw [← hbase, ← ht]
    rfl
  refine ⟨_, hsum, ?_, ?_⟩
  · intro hb1
    have tneg : total = (n * 2 ^ B : Nat) - (X : Int) := by
      rw [ht, decide_eq_true hb1]
      simp only [signed]
      rw [if_neg (by decide), if_pos trivial, hN, ← hX]
      omega
    generalize n * 2 ^ B = nb at *
    have t0 : total.natAbs ≠ 0 := by omega
    have lo : B ≤ total.natAbs.log2 := (Nat.le_log2 t0).2 (by omega)
    have hi : total.natAbs.log2 < 67 + B := (Nat.log2_lt t0).2 (by omega)
    obtain ⟨m3, i3, e3, a3, b3, c3, d3⟩ := near_read (if total = 0 then (false && decide (b < 0)) else decide (total < 0)) total.natAbs base t0 (by omega) (by omega)
    rw [if_neg (by omega), decide_eq_true (by omega)] at e3 ⊢
    have z0 : double.read 0 = .number false 0 (-1074) := by decide +kernel
    show (double.read _).order (double.read 0) = _
    rw [e3, z0]
    simp only [Datum.order, signed]
    rw [if_pos trivial, if_neg (by decide), Nat.zero_shiftLeft]
    have : 0 < m3 <<< (i3 - min i3 (-1074)).toNat := by
      rw [Nat.shiftLeft_eq]
      exact Nat.mul_pos (by omega) (Nat.pow_pos (by decide))
    rw [Int.compare_eq_lt.2 (by omega)]
  · intro hb1
    have tpos : total = (n * 2 ^ B : Nat) + (X : Int) := by
      rw [ht, decide_eq_false (by omega : ¬ b < 0)]
      simp only [signed]
      rw [if_neg (by decide), if_neg (by decide), hN, ← hX]
    generalize n * 2 ^ B = nb at *
    have t0 : total.natAbs ≠ 0 := by omega
    have lo : 6 + B ≤ total.natAbs.log2 := (Nat.le_log2 t0).2 (by omega)
    have hi : total.natAbs.log2 < 67 + B := (Nat.log2_lt t0).2 (by omega)
    obtain ⟨m3, i3, e3, a3, b3, c3, d3⟩ := near_read (if total = 0 then (false && decide (b < 0)) else decide (total < 0)) total.natAbs base t0 (by omega) (by omega)
    rw [if_neg (by omega), decide_eq_false (by omega)] at e3 ⊢
    have z1 : double.read 4625196817309499392 = .number false (2 ^ 52) (-48) := by decide +kernel
    have z2 : double.read 4634204016564240384 = .number false (2 ^ 52) (-46) := by decide +kernel
    constructor
    · show (double.read _).order (double.read 4625196817309499392) = _
      rw [e3, z1]
      simp only [Datum.order, signed]
      rw [if_neg (by decide), if_neg (by decide), show min i3 (-48) = -48 from by omega, Nat.shiftLeft_eq, Nat.shiftLeft_eq]
      have : m3 * 2 ^ 1 ≤ m3 * 2 ^ (i3 - -48).toNat := Nat.mul_le_mul_left _ (Nat.pow_le_pow_right (by omega) (by omega))
      rw [Int.compare_eq_gt.2 (by simp only [Int.sub_self, Int.toNat_zero, Nat.pow_zero, Nat.mul_one]; omega)]
    · show (double.read _).order (double.read 4634204016564240384) = _ ∨ (double.read _).order (double.read 4634204016564240384) = _
      rw [e3, z2]
      simp only [Datum.order, signed]
      rw [if_neg (by decide), if_neg (by decide), show min i3 (-46) = -46 from by omega, Nat.shiftLeft_eq, Nat.shiftLeft_eq]
      have : m3 * 2 ^ 0 ≤ m3 * 2 ^ (i3 - -46).toNat := Nat.mul_le_mul_left _ (Nat.pow_le_pow_right (by omega) (by omega))
      simp only [Int.sub_self, Int.toNat_zero, Nat.pow_zero, Nat.mul_one] at this ⊢
      rcases Nat.lt_or_ge (2 ^ 52) (m3 * 2 ^ (i3 - -46).toNat) with h | h
      · exact .inl (by rw [Int.compare_eq_gt.2 (by omega)])
      · exact .inr (by rw [Int.compare_eq_eq.2 (by omega)])

/-- The sum of two whole numbers as floats. -/
def S64 (a b : Int) : Nat := (add64 (F a) (F b)).getD 0
/-- What is told of a coordinate a, so much (b) on. -/
theorem sum_small {a b : Int} (ha : 0 ≤ a ∧ a < 64) (hb : -64 ≤ b ∧ b ≤ 64) :
    add64 (F a) (F b) = some (S64 a b) ∧ ord64 (S64 a b) 0 = some (compare (a + b) 0) ∧ ord64 (S64 a b) 4625196817309499392 = some (compare (a + b) 16) ∧ ord64 (S64 a b) 4634204016564240384 = some (compare (a + b) 64) ∧ floatToIntVal .f64 (S64 a b) .i64 = some (a + b) := by
  have h := fine_small a.toNat (by omega) (b + 64).toNat (by omega)
  rw [show ((a.toNat : Nat) : Int) = a from by omega, show (((b + 64).toNat : Nat) : Int) - 64 = b from by omega] at h
  unfold fineSum at h
  unfold S64
  cases e : add64 (F a) (F b) with
  | none => rw [e] at h; cases h
  | some z =>
    rw [e] at h
    simp only [Bool.and_eq_true, beq_iff_eq] at h
    exact ⟨rfl, h.1.1.1, h.1.1.2, h.1.2, h.2⟩
theorem sum_some {a b : Int} (ha : 0 ≤ a ∧ a < 64) (hb : -9223372036854775808 ≤ b ∧ b ≤ 9223372036854775807) : add64 (F a) (F b) = some (S64 a b) := by
  by_cases h : -64 ≤ b ∧ b ≤ 64
  · exact (sum_small ha h).1
  · obtain ⟨z, hz, -⟩ := far_sum ha hb (by omega)
    unfold S64; rw [hz]; rfl
theorem sum_below {a b : Int} (ha : 0 ≤ a ∧ a < 64) (hb : -9223372036854775808 ≤ b ∧ b ≤ 9223372036854775807) : ord64 (S64 a b) 0 = some .lt ↔ a + b < 0 := by
  by_cases h : -64 ≤ b ∧ b ≤ 64
  · rw [(sum_small ha h).2.1, Option.some.injEq, Int.compare_eq_lt]
  · obtain ⟨z, hz, h1, h2⟩ := far_sum ha hb (by omega)
    have e : S64 a b = z := by unfold S64; rw [hz]; rfl
    rw [e]
    by_cases b0 : b < 0
    · exact ⟨fun _ => by omega, fun _ => h1 b0⟩
    · refine ⟨fun hh => ?_, fun _ => by omega⟩
      have z1 : Ieee.double.read 4625196817309499392 = .number false (2 ^ 52) (-48) := by decide +kernel
      have z0 : Ieee.double.read 0 = .number false 0 (-1074) := by decide +kernel
      have g := (h2 (by omega)).1
      exfalso
      -- a number below 0 is not above 16
      unfold ord64 at g hh
      have g' : (Ieee.double.read z).order (Ieee.double.read 4625196817309499392) = some .gt := g
      have h' : (Ieee.double.read z).order (Ieee.double.read 0) = some .lt := hh
      rw [z1] at g'
      rw [z0] at h'
      cases hr : Ieee.double.read z with
      | nan _ _ => rw [hr] at g'; simp [Datum.order] at g'
      | infinity s => cases s <;> rw [hr] at g' h' <;> simp [Datum.order] at g' h'
      | number s m i =>
        rw [hr] at g' h'
        simp only [Datum.order, Option.some.injEq] at g' h'
        rw [Int.compare_eq_gt] at g'
        rw [Int.compare_eq_lt] at h'
        cases s with
        | false => simp only [signed] at h'; rw [if_neg (by decide), if_neg (by decide), Nat.zero_shiftLeft] at h'; generalize m <<< (i - min i (-1074)).toNat = q at h'; omega
        | true =>
          simp only [signed] at g'
          rw [if_pos trivial, if_neg (by decide)] at g'
          generalize m <<< (i - min i (-48)).toNat = q at g'
          generalize (2 ^ 52) <<< (-48 - min i (-48)).toNat = q2 at g'
          omega
theorem sum_above16 {a b : Int} (ha : 0 ≤ a ∧ a < 64) (hb : -9223372036854775808 ≤ b ∧ b ≤ 9223372036854775807) (h0 : 0 ≤ a + b) : (ord64 (S64 a b) 4625196817309499392 = some .gt ∨ ord64 (S64 a b) 4625196817309499392 = some .eq) ↔ 16 ≤ a + b := by
  by_cases h : -64 ≤ b ∧ b ≤ 64
  · rw [(sum_small ha h).2.2.1, Option.some.injEq, Option.some.injEq, Int.compare_eq_gt, Int.compare_eq_eq]; omega
  · obtain ⟨z, hz, h1, h2⟩ := far_sum ha hb (by omega)
    have e : S64 a b = z := by unfold S64; rw [hz]; rfl
    rw [e]
    exact ⟨fun _ => by omega, fun _ => .inl (h2 (by omega)).1⟩
theorem sum_above64 {a b : Int} (ha : 0 ≤ a ∧ a < 64) (hb : -9223372036854775808 ≤ b ∧ b ≤ 9223372036854775807) (h0 : 0 ≤ a + b) : (ord64 (S64 a b) 4634204016564240384 = some .gt ∨ ord64 (S64 a b) 4634204016564240384 = some .eq) ↔ 64 ≤ a + b := by
  by_cases h : -64 ≤ b ∧ b ≤ 64
  · rw [(sum_small ha h).2.2.2.1, Option.some.injEq, Option.some.injEq, Int.compare_eq_gt, Int.compare_eq_eq]; omega
  · obtain ⟨z, hz, h1, h2⟩ := far_sum ha hb (by omega)
    have e : S64 a b = z := by unfold S64; rw [hz]; rfl
    rw [e]
    exact ⟨fun _ => by omega, fun _ => (h2 (by omega)).2⟩
end Go.Proofs.YtadepmefdanenaaDoor.Flo
