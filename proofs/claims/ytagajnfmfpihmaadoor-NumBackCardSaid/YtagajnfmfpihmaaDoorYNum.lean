import Derived.Test.YtagajnfmfpihmaaDoorXNum
import Derived.Test.YtagajnfmfpihmaaDoorGGridironlaw01NumTells
import Derived.Test.YtagajnfmfpihmaaDoorGGridironlaw01NumBack
namespace Go.Proofs.YtagajnfmfpihmaaDoor.G
open Go.RowKit Go.Proofs.YtagajnfmfpihmaaDoorW.PrintWords Go.Proofs.YtagajnfmfpihmaaDoorW.PrintLast
set_option linter.unusedVariables false

def In64 (a : Int) : Prop := -9223372036854775808 ≤ a ∧ a ≤ 9223372036854775807
theorem In64.of_wf {a : Int} (h : (Lit.int .i64 a).wf = true) : In64 a := by
  simp only [Lit.wf, IntKind.min, IntKind.max, IntKind.signed, IntKind.bits, Bool.and_eq_true, decide_eq_true_eq, if_true] at h
  unfold In64; omega
/-- The number, if it is one. -/
def chk (c : Int) : Int × Bool := if -9223372036854775808 ≤ c ∧ c ≤ 9223372036854775807 then (c, true) else (0, false)
theorem chk_yes {c : Int} (h : In64 c) : chk c = (c, true) := if_pos h
theorem chk_no {c : Int} (h : ¬ In64 c) : chk c = (0, false) := if_neg h
theorem wrap_in {c : Int} (h : In64 c) : wrap64 c = c := by unfold In64 at h; unfold wrap64; omega
theorem in_wrap (c : Int) : In64 (wrap64 c) := by unfold In64 wrap64; omega
theorem wrap_q (c : Int) : ∃ q, wrap64 c = c + 18446744073709551616 * q := ⟨-((c + 9223372036854775808) / 18446744073709551616), by unfold wrap64; omega⟩

theorem told1 (k : Nat) (n : Int) (b : Bool) : num_told.f (k + 4) n [b] = some (ifb b n, b) := by
  cases b <;> simp [ifb, num_told.f, num_all.f, num_all.l0, rdOf, wrap64]
theorem told3 (k : Nat) (n : Int) (a b c : Bool) : num_told.f (k + 6) n [a, b, c] = some (ifb (a && b && c) n, a && b && c) := by
  cases a <;> cases b <;> cases c <;> simp [ifb, num_told.f, num_all.f, num_all.l0, rdOf, wrap64]
theorem ifb_chk {c w : Int} {d : Bool} (h1 : In64 c → d = true) (h2 : ¬ In64 c → d = false) (h3 : In64 c → w = c) : (ifb d w, d) = chk c := by
  by_cases h : In64 c
  · rw [h1 h, chk_yes h, h3 h]; rfl
  · rw [h2 h, chk_no h]; rfl

theorem add_eq (k : Nat) {a b : Int} (ha : In64 a) (hb : In64 b) : num_Add.f (k + 4) a b = some (chk (a + b)) := by
  unfold num_Add.f
  rw [told1, Option.bind_some]
  congr 1
  refine ifb_chk (fun h => ?_) (fun h => ?_) wrap_in
  · rw [wrap_in h, beq_iff_eq, decide_eq_decide]; unfold In64 at *; omega
  · rw [beq_eq_false_iff_ne, ne_eq, decide_eq_decide]; unfold In64 at *; unfold wrap64; omega
theorem sub_eq (k : Nat) {a b : Int} (ha : In64 a) (hb : In64 b) : num_Sub.f (k + 4) a b = some (chk (a - b)) := by
  unfold num_Sub.f
  rw [told1, Option.bind_some]
  congr 1
  refine ifb_chk (fun h => ?_) (fun h => ?_) wrap_in
  · rw [wrap_in h, beq_iff_eq, decide_eq_decide]; unfold In64 at *; omega
  · rw [beq_eq_false_iff_ne, ne_eq, decide_eq_decide]; unfold In64 at *; unfold wrap64; omega
theorem neg_eq (k : Nat) {a : Int} (ha : In64 a) : num_Neg.f (k + 4) a = some (chk (-a)) := by
  unfold num_Neg.f
  rw [sub_eq k (by unfold In64; omega) ha, Option.bind_some, Int.zero_sub]

theorem tdiv_in {a b : Int} (ha : In64 a) (h : ¬ (a = -9223372036854775808 ∧ b = -1)) : In64 (a.tdiv b) := by
  have e : (a.tdiv b).natAbs = a.natAbs / b.natAbs := Int.natAbs_tdiv a b
  by_cases hb : b.natAbs ≤ 1
  · have hb' : b = 0 ∨ b = 1 ∨ b = -1 := by omega
    rcases hb' with rfl | rfl | rfl
    · simp [In64]
    · simpa using ha
    · rw [Int.tdiv_neg, Int.tdiv_one]; unfold In64 at *; omega
  · have h2 : a.natAbs / b.natAbs ≤ a.natAbs / 2 := Nat.div_le_div_left (by omega) (by omega)
    generalize a.natAbs / b.natAbs = q at *
    generalize a.tdiv b = p at *
    unfold In64 at *
    omega
theorem mul_core {a b c : Int} (hb : In64 b) (hq : ∃ q, c = a * b + 18446744073709551616 * q) (h : c.tdiv b = a) (hb0 : b ≠ 0) : c = a * b := by
  obtain ⟨q, hq⟩ := hq
  have e := Int.mul_tdiv_add_tmod c b
  rw [h, Int.mul_comm] at e
  have l := Int.natAbs_tmod c b
  have l2 : c.natAbs % b.natAbs < b.natAbs := Nat.mod_lt _ (by omega)
  unfold In64 at hb
  generalize a * b = p at *
  omega
theorem mul_eq (k : Nat) {a b : Int} (ha : In64 a) (hb : In64 b) : num_Mul.f (k + 6) a b = some (chk (a * b)) := by
  unfold num_Mul.f
  by_cases a0 : a = 0
  · subst a0; simp [chk]
  by_cases b0 : b = 0
  · subst b0; simp [chk]
  rw [if_neg a0, if_neg b0]
  have key : ∀ A B : Bool, (a ≠ -1 → A = true) → (a = -1 → A = (b != -9223372036854775808)) → (b ≠ -1 → B = true) → (b = -1 → B = (a != -9223372036854775808)) →
      ((num_told.f (k + 6) (wrap64 (a * b)) [A, B, (wrap64 (Int.tdiv (wrap64 (a * b)) b)) == a]).bind fun t => some (t.1, t.2)) = some (chk (a * b)) := by
    intro A B A1 A2 B1 B2
    rw [told3, Option.bind_some]
    congr 1
    refine ifb_chk (fun h => ?_) (fun h => ?_) wrap_in
    · have hA : A = true := by
        by_cases e : a = -1
        · rw [A2 e, bne_iff_ne]; rintro rfl; subst e; unfold In64 at h; omega
        · exact A1 e
      have hB : B = true := by
        by_cases e : b = -1
        · rw [B2 e, bne_iff_ne]; rintro rfl; subst e; unfold In64 at h; omega
        · exact B1 e
      rw [hA, hB, wrap_in h, Int.mul_tdiv_cancel _ b0, wrap_in ha]
      simp
    · cases hA : A with
      | false => rfl
      | true =>
        cases hB : B with
        | false => rfl
        | true =>
          rw [Bool.and_self, Bool.true_and, beq_eq_false_iff_ne]
          intro hC
          by_cases sp : wrap64 (a * b) = -9223372036854775808 ∧ b = -1
          · rw [sp.1, sp.2] at hC
            have hB' := B2 sp.2
            rw [hB] at hB'
            have : a ≠ -9223372036854775808 := bne_iff_ne.1 hB'.symm
            exact this (by rw [← hC]; unfold wrap64; decide)
          · rw [wrap_in (tdiv_in (in_wrap _) sp)] at hC
            exact h ((mul_core hb (wrap_q _) hC b0) ▸ in_wrap _)
  by_cases ea : a = -1 <;> by_cases eb : b = -1
  · rw [if_pos ea, if_pos eb]; exact key _ _ (fun h => absurd ea h) (fun _ => rfl) (fun h => absurd eb h) (fun _ => rfl)
  · rw [if_pos ea, if_neg eb]; exact key _ _ (fun h => absurd ea h) (fun _ => rfl) (fun _ => rfl) (fun h => absurd h eb)
  · rw [if_neg ea, if_pos eb]; exact key _ _ (fun _ => rfl) (fun h => absurd h ea) (fun h => absurd eb h) (fun _ => rfl)
  · rw [if_neg ea, if_neg eb]; exact key _ _ (fun _ => rfl) (fun h => absurd h ea) (fun _ => rfl) (fun h => absurd h eb)
theorem div_zero (k : Nat) (a : Int) : num_Div.f (k + 4) a 0 = some (0, false) := by unfold num_Div.f; rw [if_pos rfl]
theorem div_eq (k : Nat) {a b : Int} (ha : In64 a) (hb : In64 b) (b0 : b ≠ 0) : num_Div.f (k + 4) a b = some (chk (a.tdiv b)) := by
  unfold num_Div.f
  rw [if_neg b0]
  by_cases am : a = -9223372036854775808
  · rw [if_pos am, told1, Option.bind_some]
    congr 1
    refine ifb_chk (fun h => ?_) (fun h => ?_) wrap_in
    · rw [bne_iff_ne]; rintro rfl; subst am; exact absurd h (by unfold In64; decide)
    · rw [bne_eq_false_iff_eq]; exact Classical.byContradiction fun hb1 => h (tdiv_in ha (fun hh => hb1 hh.2))
  · rw [if_neg am, told1, Option.bind_some]
    congr 1
    exact ifb_chk (fun h => rfl) (fun h => absurd (tdiv_in ha (fun hh => am hh.1)) h) wrap_in

/-! ### the reference -/
theorem wrap_u {x : Int} (h0 : 0 ≤ x) (h1 : x ≤ 18446744073709551615) : IntKind.u64.wrap x = x := by
  simp only [IntKind.wrap, IntKind.bits, IntKind.signed]; simp; omega
theorem wrap_ur (x : Int) : IntKind.u64.wrap x = x % 18446744073709551616 := by simp [IntKind.wrap, IntKind.bits, IntKind.signed]
theorem size_eq {a : Int} (ha : In64 a) : gridironref01_size.f a = some (a.natAbs : Int) := by
  unfold gridironref01_size.f In64 at *
  split
  · congr 1; rw [wrap_ur, wrap_ur]; unfold wrap64; omega
  · congr 1; rw [wrap_ur]; omega
theorem signed_eq (k : Nat) {u : Int} (m : Bool) (h0 : 0 ≤ u) (h1 : u ≤ 18446744073709551615) : gridironref01_signed.f (k + 1) u m = some (chk (if m = true then -u else u)) := by
  unfold gridironref01_signed.f
  cases m with
  | true =>
    rw [if_pos rfl, if_pos rfl]
    simp only [gridironref01_signed.j0]
    by_cases e : u = 9223372036854775808
    · subst e; rw [if_pos (by decide), chk_yes (by unfold In64; omega)]
    · rw [if_neg (by simpa using e)]
      by_cases g : u > 9223372036854775807
      · rw [if_pos g, chk_no (by unfold In64; omega)]
      · rw [if_neg g, if_pos trivial, wrap_in (c := u) (by unfold In64; omega), wrap_in (by unfold In64; omega), chk_yes (by unfold In64; omega)]
  | false =>
    rw [if_neg (by decide), if_neg (by decide)]
    simp only [gridironref01_signed.j0]
    rw [if_neg (by decide)]
    by_cases g : u > 9223372036854775807
    · rw [if_pos g, chk_no (by unfold In64; omega)]
    · rw [if_neg g, if_neg (by decide), wrap_in (c := u) (by unfold In64; omega), chk_yes (by unfold In64; omega)]
theorem both_eq (k : Nat) {x y : Int} (m : Bool) (hx0 : 0 ≤ x) (hx : x ≤ 9223372036854775808) (hy0 : 0 ≤ y) (hy : y ≤ 9223372036854775808) : gridironref01_both.f (k + 1) x y m = some (chk (if m = true then -(x + y) else x + y)) := by
  unfold gridironref01_both.f
  rw [wrap_u (x := 9223372036854775808 - y) (by omega) (by omega)]
  by_cases g : x > 9223372036854775808 - y
  · rw [if_pos g, chk_no (by unfold In64; split <;> omega)]
  · rw [if_neg g, wrap_u (by omega) (by omega), signed_eq k m (by omega) (by omega), Option.bind_some]
theorem dec_eq (p q : Prop) [Decidable p] [Decidable q] : ((decide p == decide q) = true) ↔ (p ↔ q) := by rw [beq_iff_eq, decide_eq_decide]
theorem radd_eq (k : Nat) {a b : Int} (ha : In64 a) (hb : In64 b) : gridironref01_Add.f (k + 1) a b = some (chk (a + b)) := by
  unfold gridironref01_Add.f
  rw [size_eq ha, size_eq hb, Option.bind_some, Option.bind_some]
  unfold In64 at ha hb
  by_cases s : ((decide (a < 0)) == (decide (b < 0))) = true
  · rw [if_pos s, both_eq k _ (by omega) (by omega) (by omega) (by omega), Option.bind_some]
    rw [dec_eq] at s
    refine congrArg (fun z => some (chk z)) ?_
    split <;> rename_i h <;> simp at h <;> omega
  · rw [if_neg s]
    rw [dec_eq] at s
    by_cases g : (a.natAbs : Int) ≥ b.natAbs
    · rw [if_pos g, wrap_u (by omega) (by omega), signed_eq k _ (by omega) (by omega), Option.bind_some]
      refine congrArg (fun z => some (chk z)) ?_
      split <;> rename_i h <;> simp at h <;> omega
    · rw [if_neg g, wrap_u (by omega) (by omega), signed_eq k _ (by omega) (by omega), Option.bind_some]
      refine congrArg (fun z => some (chk z)) ?_
      split <;> rename_i h <;> simp at h <;> omega
theorem rsub_eq (k : Nat) {a b : Int} (ha : In64 a) (hb : In64 b) : gridironref01_Sub.f (k + 1) a b = some (chk (a - b)) := by
  unfold gridironref01_Sub.f
  rw [size_eq ha, size_eq hb, Option.bind_some, Option.bind_some]
  unfold In64 at ha hb
  by_cases s : ((decide (a < 0)) != (decide (b < 0))) = true
  · rw [if_pos s, both_eq k _ (by omega) (by omega) (by omega) (by omega), Option.bind_some]
    rw [bne_iff_ne, ne_eq, decide_eq_decide] at s
    refine congrArg (fun z => some (chk z)) ?_
    split <;> rename_i h <;> simp at h <;> omega
  · rw [if_neg s]
    rw [bne_iff_ne, ne_eq, decide_eq_decide] at s
    by_cases g : (a.natAbs : Int) ≥ b.natAbs
    · rw [if_pos g, wrap_u (by omega) (by omega), signed_eq k _ (by omega) (by omega), Option.bind_some]
      refine congrArg (fun z => some (chk z)) ?_
      split <;> rename_i h <;> simp at h <;> omega
    · rw [if_neg g, wrap_u (by omega) (by omega), signed_eq k _ (by omega) (by omega), Option.bind_some]
      refine congrArg (fun z => some (chk z)) ?_
      split <;> rename_i h <;> simp at h <;> omega
theorem sign_mul (a b : Int) : (if ((decide (a < 0)) != (decide (b < 0))) = true then -((a.natAbs : Int) * b.natAbs) else (a.natAbs : Int) * b.natAbs) = a * b := by
  rcases Int.natAbs_eq a with ea | ea <;> rcases Int.natAbs_eq b with eb | eb <;> generalize a.natAbs = x at * <;> generalize b.natAbs = y at * <;> subst ea <;> subst eb <;> by_cases hx : x = 0 <;> by_cases hy : y = 0 <;> simp [hx, hy, Int.neg_mul, Int.mul_neg] <;> omega
theorem rmul_eq (k : Nat) {a b : Int} (ha : In64 a) (hb : In64 b) : gridironref01_Mul.f (k + 1) a b = some (chk (a * b)) := by
  unfold gridironref01_Mul.f
  rw [size_eq ha, size_eq hb, Option.bind_some, Option.bind_some]
  by_cases z : (a.natAbs : Int) = 0
  · have : a = 0 := by omega
    subst this
    rw [if_pos z, wrap_u (by simp) (by simp), signed_eq k _ (by simp) (by simp), Option.bind_some]
    simp
  · rw [if_neg z]
    have hp : 0 ≤ (a.natAbs : Int) * b.natAbs := Int.mul_nonneg (by omega) (by omega)
    have e : Int.tdiv 9223372036854775808 (a.natAbs : Int) = 9223372036854775808 / (a.natAbs : Int) := Int.tdiv_eq_ediv_of_nonneg (by omega)
    have q0 : 0 ≤ (9223372036854775808 : Int) / (a.natAbs : Int) := Int.ediv_nonneg (by omega) (by omega)
    have q1 : (9223372036854775808 : Int) / (a.natAbs : Int) ≤ 9223372036854775808 := Int.ediv_le_self _ (by omega)
    rw [e, wrap_u q0 (by omega)]
    by_cases g : (b.natAbs : Int) > 9223372036854775808 / (a.natAbs : Int)
    · rw [if_pos g]
      have g2 : 9223372036854775808 < (b.natAbs : Int) * a.natAbs := (Int.ediv_lt_iff_lt_mul (by omega)).1 g
      rw [chk_no]
      have : (a * b).natAbs = a.natAbs * b.natAbs := Int.natAbs_mul a b
      have g3 : 9223372036854775808 < ((a * b).natAbs : Int) := by rw [this, Int.natCast_mul, Int.mul_comm]; exact g2
      unfold In64
      generalize a * b = p at *
      omega
    · rw [if_neg g]
      have g2 : (b.natAbs : Int) * a.natAbs ≤ 9223372036854775808 := Int.not_lt.1 (fun h => g ((Int.ediv_lt_iff_lt_mul (by omega)).2 h))
      rw [Int.mul_comm] at g2
      rw [wrap_u hp (by omega), signed_eq k _ hp (by omega), Option.bind_some, sign_mul]
theorem sign_div (a b : Int) : (if ((decide (a < 0)) != (decide (b < 0))) = true then -(Int.tdiv (a.natAbs : Int) b.natAbs) else Int.tdiv (a.natAbs : Int) b.natAbs) = a.tdiv b := by
  rcases Int.natAbs_eq a with ea | ea <;> rcases Int.natAbs_eq b with eb | eb <;> generalize a.natAbs = x at * <;> generalize b.natAbs = y at * <;> subst ea <;> subst eb <;> by_cases hx : x = 0 <;> by_cases hy : y = 0 <;> simp [hx, hy, Int.neg_tdiv, Int.tdiv_neg] <;> omega
theorem rdiv_zero (k : Nat) (a : Int) : gridironref01_Div.f (k + 1) a 0 = some (0, false) := by unfold gridironref01_Div.f; rw [if_pos rfl]
theorem rdiv_eq (k : Nat) {a b : Int} (ha : In64 a) (hb : In64 b) (b0 : b ≠ 0) : gridironref01_Div.f (k + 1) a b = some (chk (a.tdiv b)) := by
  unfold gridironref01_Div.f
  rw [if_neg b0, size_eq ha, size_eq hb, Option.bind_some, Option.bind_some, if_neg (by omega)]
  have e : Int.tdiv (a.natAbs : Int) (b.natAbs : Int) = (a.natAbs : Int) / (b.natAbs : Int) := Int.tdiv_eq_ediv_of_nonneg (by omega)
  have q0 : 0 ≤ (a.natAbs : Int) / (b.natAbs : Int) := Int.ediv_nonneg (by omega) (by omega)
  have q1 : (a.natAbs : Int) / (b.natAbs : Int) ≤ a.natAbs := Int.ediv_le_self _ (by omega)
  unfold In64 at ha
  rw [e, wrap_u q0 (by omega), ← e, signed_eq k _ (by omega) (by omega), Option.bind_some, sign_div]
theorem rneg_eq (k : Nat) {a : Int} (ha : In64 a) : gridironref01_Neg.f (k + 1) a = some (chk (-a)) := by
  unfold gridironref01_Neg.f
  rw [size_eq ha, Option.bind_some]
  unfold In64 at ha
  rw [signed_eq k _ (by omega) (by omega), Option.bind_some]
  refine congrArg (fun z => some (chk z)) ?_
  split <;> rename_i h <;> simp at h <;> omega

/-! ### the laws -/
theorem alive_true (k : Nat) : gridironlaw01_alive.f (k + 6) = some true := by
  have p1 : num_Parse.f (⟨#[45, 49, 50]⟩ : ByteArray) = some (-12, true) := by
    have e : Lib.atoiAll [45, 49, 50] = .ok (-12) := by decide
    have i : Lib.itoa (-12) = [45, 49, 50] := by simp [Lib.itoa, Lib.decDigits]
    unfold num_Parse.f
    rw [if_pos (by decide)]
    rw [show (⟨#[45, 49, 50]⟩ : ByteArray).data.toList = [45, 49, 50] from rfl, e]
    simp only [ByteArray.toList_eq]
    rw [i]
    rfl
  have p2 : num_Parse.f (⟨#[48, 49, 50]⟩ : ByteArray) = some (0, false) := by
    have e : Lib.atoiAll [48, 49, 50] = .ok 12 := by decide
    have i : Lib.itoa 12 = [49, 50] := by simp [Lib.itoa, Lib.decDigits]
    unfold num_Parse.f
    rw [if_pos (by decide)]
    rw [show (⟨#[48, 49, 50]⟩ : ByteArray).data.toList = [48, 49, 50] from rfl, e]
    simp only [ByteArray.toList_eq]
    rw [i]
    rfl
  have t1 : num_Text.f (-9223372036854775808) = some ⟨#[45, 57, 50, 50, 51, 51, 55, 50, 48, 51, 54, 56, 53, 52, 55, 55, 53, 56, 48, 56]⟩ := by
    have i : Lib.itoa (-9223372036854775808) = [45, 57, 50, 50, 51, 51, 55, 50, 48, 51, 54, 56, 53, 52, 55, 55, 53, 56, 48, 56] := by simp [Lib.itoa, Lib.decDigits]
    unfold num_Text.f
    rw [if_pos (by decide), i]
  unfold gridironlaw01_alive.f
  rw [add_eq (k + 2) (by unfold In64; decide) (by unfold In64; decide), add_eq (k + 2) (by unfold In64; decide) (by unfold In64; decide), mul_eq k (by unfold In64; decide) (by unfold In64; decide), div_eq (k + 2) (by unfold In64; decide) (by unfold In64; decide) (by decide)]
  simp only [Option.bind_some]
  have m : chk (-4611686018427387904 * 2) = (-9223372036854775808, true) := by decide
  rw [m, neg_eq (k + 2) (by unfold In64; decide), p1, p2]
  simp only [Option.bind_some]
  rw [t1]
  simp only [Option.bind_some, ByteArray.toList_eq]
  decide
theorem NumTells : gridironlaw01_NumTells.Pure := by
  intro a b wa wb
  have ha := In64.of_wf wa
  have hb := In64.of_wf wb
  refine ⟨7, ?_⟩
  unfold gridironlaw01_NumTells.f
  rw [add_eq 3 ha hb, radd_eq 6 ha hb, sub_eq 3 ha hb, rsub_eq 6 ha hb]
  simp only [Option.bind_some, if_true, bne_self_eq_false]
  simp only [gridironlaw01_NumTells.j0]
  rw [if_neg (by decide), mul_eq 0 ha hb, rmul_eq 5 ha hb, neg_eq 2 ha, rneg_eq 5 ha, alive_true 0]
  by_cases b0 : b = 0
  · subst b0
    rw [div_zero 2, rdiv_zero 5]
    simp
  · rw [div_eq 2 ha hb b0, rdiv_eq 5 ha hb b0]
    simp
theorem back_j3 (k : Nat) : gridironlaw01_NumBack.j3 (k + 7) true = some true := by
  simp only [gridironlaw01_NumBack.j3]
  rw [alive_true, Option.bind_some, if_pos rfl]
theorem back_j2 (k : Nat) {b r : Int} (hb : In64 b) (h : r.natAbs < b.natAbs) : gridironlaw01_NumBack.j2 (k + 8) b r false = some true := by
  simp only [gridironlaw01_NumBack.j2]
  rw [if_neg (by decide)]
  unfold In64 at hb
  by_cases b0 : b > 0
  · rw [if_pos b0, if_pos (by omega), wrap_in (c := -b) (by unfold In64; omega), if_pos (by omega), back_j3]
  · rw [if_neg b0, if_pos (by omega), if_pos (by omega)]
    by_cases r0 : r ≤ 0
    · rw [if_pos r0, back_j3]
    · rw [if_neg r0, wrap_in (c := -r) (by unfold In64; omega), decide_eq_true (by omega), back_j3]
theorem back_j1 (k : Nat) {a b : Int} (ha : In64 a) (hb : In64 b) : gridironlaw01_NumBack.j1 (k + 9) a b false = some true := by
  simp only [gridironlaw01_NumBack.j1]
  rw [if_neg (by decide)]
  by_cases b0 : b = 0
  · subst b0
    rw [div_zero (k + 4), Option.bind_some, if_neg (by decide), alive_true (k + 2), Option.bind_some, if_pos rfl, if_pos rfl]
  · rw [div_eq (k + 4) ha hb b0, Option.bind_some]
    by_cases q : In64 (a.tdiv b)
    · rw [chk_yes q, if_pos rfl]
      have e := Int.mul_tdiv_add_tmod a b
      have l : (a.tmod b).natAbs = a.natAbs % b.natAbs := Int.natAbs_tmod a b
      have l2 : a.natAbs % b.natAbs < b.natAbs := Nat.mod_lt _ (by omega)
      have l3 : a.natAbs % b.natAbs ≤ a.natAbs := Nat.mod_le _ _
      have sg : a.tmod b = 0 ∨ (a.tmod b < 0 ↔ a < 0) := by
        rcases Int.lt_or_le a 0 with h | h
        · have : 0 ≤ (-a).tmod b := Int.tmod_nonneg _ (by omega)
          rw [Int.neg_tmod] at this
          omega
        · have : 0 ≤ a.tmod b := Int.tmod_nonneg _ h
          omega
      rw [Int.mul_comm] at e
      have hm : In64 (a.tdiv b * b) := by
        unfold In64 at *
        generalize a.tdiv b * b = p at *
        generalize a.tmod b = r at *
        omega
      rw [mul_eq (k + 2) q hb, chk_yes hm, Option.bind_some]
      have es : a - a.tdiv b * b = a.tmod b := by omega
      rw [sub_eq (k + 4) ha hm, es, chk_yes (by unfold In64 at *; omega), Option.bind_some, if_pos rfl, if_pos rfl]
      have j2 := back_j2 k (r := a.tmod b) hb (by omega)
      by_cases r0 : a.tmod b = 0
      · rw [if_pos r0]; exact j2
      · rw [if_neg r0]
        have d : ((decide (a.tmod b < 0)) != (decide (a < 0))) = false := by
          rw [bne_eq_false_iff_eq, decide_eq_decide]
          omega
        show gridironlaw01_NumBack.j2 (k + 8) b (a.tmod b) ((decide (a.tmod b < 0)) != (decide (a < 0))) = some true
        rw [d]; exact j2
    · rw [chk_no q, if_neg (by decide), alive_true (k + 2), Option.bind_some, if_pos rfl, if_neg b0]
      have : b = -1 := Classical.byContradiction fun h => q (tdiv_in ha (fun hh => h hh.2))
      subst this
      rfl
theorem back_j0 (k : Nat) {a b : Int} (ha : In64 a) (hb : In64 b) : gridironlaw01_NumBack.j0 (k + 10) a b false = some true := by
  simp only [gridironlaw01_NumBack.j0]
  rw [if_neg (by decide), mul_eq (k + 3) ha hb, mul_eq (k + 3) hb ha, Int.mul_comm b a, Option.bind_some, Option.bind_some]
  have j1 := back_j1 k ha hb
  by_cases m : In64 (a * b)
  · rw [chk_yes m]
    by_cases b0 : b = 0
    · rw [b0] at j1 ⊢
      rw [div_zero (k + 5), Option.bind_some, if_pos rfl, if_neg (by simp), if_pos rfl, if_pos rfl]
      exact j1
    · rw [div_eq (k + 5) m hb b0, Int.mul_tdiv_cancel _ b0, chk_yes ha, Option.bind_some, if_pos rfl, if_neg (by simp), if_pos rfl, if_neg b0, if_pos rfl]
      show gridironlaw01_NumBack.j1 (k + 9) a b (a != a) = some true
      rw [bne_self_eq_false]
      exact j1
  · rw [chk_no m]
    have d : ∃ x, num_Div.f (k + 9) 0 b = some x := by
      by_cases b0 : b = 0
      · subst b0; exact ⟨_, div_zero (k + 5) 0⟩
      · exact ⟨_, div_eq (k + 5) (by unfold In64; omega) hb b0⟩
    obtain ⟨x, d⟩ := d
    show ((num_Div.f (k + 9) 0 b).bind _) = _
    rw [d, Option.bind_some, if_pos rfl, if_neg (by decide), if_neg (by decide)]
    exact j1
theorem NumBack : gridironlaw01_NumBack.Pure := by
  intro a b wa wb
  have ha := In64.of_wf wa
  have hb := In64.of_wf wb
  refine ⟨10, ?_⟩
  unfold gridironlaw01_NumBack.f
  rw [add_eq 6 ha hb, add_eq 6 hb ha, Int.add_comm b a, Option.bind_some, Option.bind_some]
  have j0 := back_j0 0 ha hb
  by_cases m : In64 (a + b)
  · rw [chk_yes m, sub_eq 6 m hb, Int.add_sub_cancel, chk_yes ha, Option.bind_some, if_pos rfl, if_neg (by simp), if_pos rfl, if_pos rfl]
    show gridironlaw01_NumBack.j0 10 a b (a != a) = some true
    rw [bne_self_eq_false]
    exact j0
  · rw [chk_no m, sub_eq 6 (by unfold In64; omega) hb, Option.bind_some, if_pos rfl, if_neg (by decide), if_neg (by decide)]
    exact j0
end Go.Proofs.YtagajnfmfpihmaaDoor.G
