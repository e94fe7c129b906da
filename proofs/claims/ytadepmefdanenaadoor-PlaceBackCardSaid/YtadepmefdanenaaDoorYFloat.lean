import Derived.Laws.FloatArith
namespace Go.Proofs.YtadepmefdanenaaDoor.Flo
open Ieee

theorem read_word (neg : Bool) (e kept : Nat) (h0 : 2 ^ 52 ≤ kept) (h1 : kept ≤ 2 ^ 53) (he : e ≤ 2000) :
    ∃ m i, double.read (double.word neg (e * 2 ^ 52 + kept)) = .number neg m i ∧ 2 ^ 52 ≤ m ∧ m < 2 ^ 53 ∧ (e : Int) - 1074 ≤ i ∧ i ≤ (e : Int) - 1073 := by
  have hsw : double.signWeight = 2 ^ 63 := rfl
  have hbin : double.binade = 2 ^ 52 := rfl
  have hinf : double.infRung = 2047 * 2 ^ 52 := rfl
  have hlp : double.leastPlace = -1074 := rfl
  have hneg : (double.word neg (e * 2 ^ 52 + kept) / double.signWeight % 2 == 1) = neg := by
    unfold Format.word
    rw [hsw]
    cases neg with
    | true => rw [if_pos rfl, beq_iff_eq]; omega
    | false => rw [if_neg (by decide), beq_eq_false_iff_ne]; omega
  have hr : double.word neg (e * 2 ^ 52 + kept) % double.signWeight = e * 2 ^ 52 + kept := by
    unfold Format.word
    rw [hsw]
    cases neg with
    | true => rw [if_pos rfl]; omega
    | false => rw [if_neg (by decide)]; omega
  unfold Format.read
  simp only [hneg, hr]
  rw [hbin, hinf, hlp, if_neg (by omega), if_pos (by omega)]
  refine ⟨_, _, rfl, by omega, by omega, ?_, ?_⟩
  · have : e ≤ (e * 2 ^ 52 + kept) / 2 ^ 52 - 1 := by omega
    omega
  · have : (e * 2 ^ 52 + kept) / 2 ^ 52 - 1 ≤ e + 1 := by omega
    omega
theorem log2_lo {m : Nat} (h : m ≠ 0) : 2 ^ m.log2 ≤ m := Nat.log2_self_le h
theorem log2_hi {m : Nat} (_ : m ≠ 0) : m < 2 ^ (m.log2 + 1) := Nat.lt_log2_self
theorem near_read (neg : Bool) (mag : Nat) (place : Int) (h : mag ≠ 0) (hlo : -1000 ≤ place + mag.log2) (hhi : place + mag.log2 ≤ 900) :
    ∃ m i, double.read (double.nearest neg mag place) = .number neg m i ∧ 2 ^ 52 ≤ m ∧ m < 2 ^ 53 ∧ place + mag.log2 - 52 ≤ i ∧ i ≤ place + mag.log2 - 51 := by
  have hbin : double.binade = 2 ^ 52 := rfl
  have hinf : double.infRung = 2047 * 2 ^ 52 := rfl
  have hlp : double.leastPlace = -1074 := rfl
  have hfb : double.fractionBits = 52 := rfl
  have l1 := log2_lo h
  have l2 := log2_hi h
  unfold Format.nearest
  rw [if_neg h, hlp, hfb, hbin, hinf]
  generalize hL : mag.log2 = L at *
  have e1 : max (place + (L : Int) - (52 : Nat)) (-1074) = place + L - 52 := by omega
  simp only [e1]
  have e2 : (place + (L : Int) - 52 - -1074).toNat = (place + L + 1022).toNat := by congr 1; omega
  rw [e2]
  have key : ∃ kept, Toward.even.cut neg (mag <<< (place - (place + (L : Int) - 52)).toNat) (place + (L : Int) - 52 - place).toNat = kept ∧ 2 ^ 52 ≤ kept ∧ kept ≤ 2 ^ 53 := by
    refine ⟨_, rfl, ?_⟩
    by_cases hc : L ≤ 52
    · have a1 : (place - (place + (L : Int) - 52)).toNat = 52 - L := by omega
      have a2 : (place + (L : Int) - 52 - place).toNat = 0 := by omega
      rw [a1, a2, Nat.shiftLeft_eq]
      unfold Toward.cut
      simp only [Nat.zero_min, Nat.shiftLeft_zero, Nat.div_one, Nat.mod_one]
      have p : 2 ^ 52 = 2 ^ L * 2 ^ (52 - L) := by rw [← Nat.pow_add]; congr 1; omega
      have q : 2 ^ 53 = 2 ^ (L + 1) * 2 ^ (52 - L) := by rw [← Nat.pow_add]; congr 1; omega
      have b1 : 2 ^ 52 ≤ mag * 2 ^ (52 - L) := by rw [p]; exact Nat.mul_le_mul_right _ l1
      have b2 : mag * 2 ^ (52 - L) < 2 ^ 53 := by rw [q]; exact Nat.mul_lt_mul_of_pos_right l2 (Nat.pow_pos (by decide))
      generalize mag * 2 ^ (52 - L) = z at *
      simp
      omega
    · have a1 : (place - (place + (L : Int) - 52)).toNat = 0 := by omega
      have a2 : (place + (L : Int) - 52 - place).toNat = L - 52 := by omega
      rw [a1, a2, Nat.shiftLeft_zero]
      unfold Toward.cut
      rw [hL, show min (L - 52) (L + 2) = L - 52 from by omega, Nat.shiftLeft_eq, Nat.one_mul]
      have p : 2 ^ L = 2 ^ 52 * 2 ^ (L - 52) := by rw [← Nat.pow_add]; congr 1; omega
      have q : 2 ^ (L + 1) = 2 ^ 53 * 2 ^ (L - 52) := by rw [← Nat.pow_add]; congr 1; omega
      have b1 : 2 ^ 52 ≤ mag / 2 ^ (L - 52) := (Nat.le_div_iff_mul_le (Nat.pow_pos (by decide))).2 (by rw [← p]; exact l1)
      have b2 : mag / 2 ^ (L - 52) < 2 ^ 53 := (Nat.div_lt_iff_lt_mul (Nat.pow_pos (by decide))).2 (by rw [← q]; exact l2)
      have b3 : ∀ b : Bool, b.toNat ≤ 1 := fun b => by cases b <;> decide
      dsimp only
      generalize mag / 2 ^ (L - 52) = z at *
      have := b3 ((decide (2 ^ (L - 52) < 2 * (mag % 2 ^ (L - 52))) || (2 ^ (L - 52) == 2 * (mag % 2 ^ (L - 52)) && z % 2 == 1)))
      omega
  obtain ⟨kept, ek, k0, k1⟩ := key
  rw [ek, Nat.min_eq_left (by omega)]
  obtain ⟨m, i, hr, m0, m1, i0, i1⟩ := read_word neg (place + L + 1022).toNat kept k0 k1 (by omega)
  exact ⟨m, i, hr, m0, m1, by omega, by omega⟩

/-! ### whole numbers -/
abbrev F (n : Int) : Nat := floatOfInt .f64 n
theorem F_eq (n : Int) : F n = double.nearest (decide (n < 0)) n.natAbs 0 := rfl
/-- What stands for a small number. -/
theorem small_read : ∀ a : Nat, a < 64 → ∃ m i, double.read (F a) = .number false m i ∧ i ≤ 0 ∧ -1074 ≤ i ∧ m = a * 2 ^ (-i).toNat := by
  have h : ∀ a : Nat, a < 64 → (match double.read (F a) with | .number false m i => decide (i ≤ 0 ∧ -1074 ≤ i ∧ m = a * 2 ^ (-i).toNat) | _ => false) = true := by decide +kernel
  intro a ha
  have := h a ha
  split at this
  · rename_i m i e
    obtain ⟨h1, h2, h3⟩ := of_decide_eq_true this
    exact ⟨m, i, e, h1, h2, h3⟩
  · cases this
def add64 (x y : Nat) : Option Nat := FloatKind.f64.format.add x y
def ord64 (x y : Nat) : Option Ordering := FloatKind.f64.format.order x y
/-- Small sums are exact. -/
def fineSum (a b : Int) : Bool :=
  match add64 (F a) (F b) with
  | some z => ord64 z 0 == some (compare (a + b) 0) && ord64 z 4625196817309499392 == some (compare (a + b) 16) && ord64 z 4634204016564240384 == some (compare (a + b) 64) && floatToIntVal .f64 z .i64 == some (a + b)
  | none => false
theorem fine_small : ∀ a : Nat, a < 64 → ∀ b : Nat, b < 129 → fineSum a (b - 64) = true := by decide +kernel
end Go.Proofs.YtadepmefdanenaaDoor.Flo
