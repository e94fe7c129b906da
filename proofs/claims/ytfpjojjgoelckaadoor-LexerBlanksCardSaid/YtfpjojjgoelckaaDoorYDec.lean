import Derived.Shelf.Strconv.Itoa3
import Derived.Lib.AtoiAllCases
import Derived.Lib.ItoaLen
import Derived.Laws.BytesArg
namespace Go.Proofs.YtfpjojjgoelckaaDoor.Dec
open Go.Lib

/-- Is a byte a figure? -/
def fig (c : UInt8) : Bool := decide (48 ≤ c.toNat ∧ c.toNat ≤ 57)
theorem of_fig {c : UInt8} (h : fig c = true) : 48 ≤ c.toNat ∧ c.toNat ≤ 57 := by unfold fig at h; simpa using h
/-- What figures come to. -/
def fv : List UInt8 → Nat → Nat
  | [], acc => acc
  | c :: r, acc => fv r (acc * 10 + (c.toNat - 48))
def fval (acc : Nat) (l : List UInt8) : Nat := fv l acc
theorem fval_nil (acc : Nat) : fval acc [] = acc := rfl
theorem fval_cons (acc : Nat) (c : UInt8) (r : List UInt8) : fval acc (c :: r) = fval (acc * 10 + (c.toNat - 48)) r := by unfold fval; rw [fv]
theorem fval_append (acc : Nat) (l m : List UInt8) : fval acc (l ++ m) = fval (fval acc l) m := by
  induction l generalizing acc with
  | nil => rfl
  | cons c r ih => rw [List.cons_append, fval_cons, fval_cons]; exact ih _
theorem fval_ge (acc : Nat) (l : List UInt8) : acc ≤ fval acc l := by
  induction l generalizing acc with
  | nil => exact Nat.le_refl _
  | cons c r ih => rw [fval_cons]; exact Nat.le_trans (by omega) (ih _)
theorem fval_lt (acc : Nat) (l : List UInt8) (h : l.all fig = true) : fval acc l < (acc + 1) * 10 ^ l.length := by
  induction l generalizing acc with
  | nil => rw [List.length_nil, Nat.pow_zero, Nat.mul_one]; exact Nat.lt_succ_self _
  | cons c r ih =>
    simp only [List.all_cons, Bool.and_eq_true] at h
    have hc : 48 ≤ c.toNat ∧ c.toNat ≤ 57 := of_fig h.1
    have ihh := ih (acc * 10 + (c.toNat - 48)) h.2
    clear ih
    rw [List.length_cons, Nat.pow_succ]
    rw [fval_cons]
    generalize 10 ^ r.length = p at *
    have h2 : (acc * 10 + (c.toNat - 48) + 1) * p ≤ ((acc + 1) * 10) * p := Nat.mul_le_mul_right _ (by omega)
    have e : (acc + 1) * (p * 10) = ((acc + 1) * 10) * p := by rw [Nat.mul_comm p 10, Nat.mul_assoc]
    rw [e]
    exact Nat.lt_of_lt_of_le ihh h2
theorem u8_of (n : Nat) (h : n < 256) : (UInt8.ofNat n).toNat = n := by simp [UInt8.toNat_ofNat', Nat.mod_eq_of_lt h]
theorem u8_eq {c : UInt8} {n : Nat} (h : n < 256) (e : c.toNat = n) : UInt8.ofNat n = c := by
  apply UInt8.toNat_inj.1
  rw [u8_of n h, e]
/-- The numeral's figures: each is one, and they come to the number. -/
theorem dec_all (u : Nat) : (decDigits u).all fig = true := by
  induction u using Nat.strongRecOn with
  | _ u ih =>
    rw [decDigits]
    split
    · rename_i h
      simp only [List.all_cons, List.all_nil, Bool.and_true, fig, decide_eq_true_eq]
      rw [u8_of _ (by omega)]; omega
    · rename_i h
      rw [List.all_append, ih (u / 10) (by omega)]
      simp only [List.all_cons, List.all_nil, Bool.and_true, Bool.true_and, fig, decide_eq_true_eq]
      rw [u8_of _ (by omega)]; omega
theorem dec_val (u : Nat) : fval 0 (decDigits u) = u := by
  induction u using Nat.strongRecOn with
  | _ u ih =>
    rw [decDigits]
    split
    · rename_i h
      have e := u8_of (48 + u) (by omega)
      rw [fval_cons, fval_nil]
      omega
    · rename_i h
      have e := u8_of (48 + u % 10) (by omega)
      rw [fval_append, ih (u / 10) (by omega)]
      rw [fval_cons, fval_nil]
      omega
theorem dec_ne (u : Nat) : decDigits u ≠ [] := by
  rw [decDigits]; split <;> simp
theorem dec_len (k u : Nat) (h : u < 10 ^ (k + 1)) : (decDigits u).length ≤ k + 1 := by
  induction k generalizing u with
  | zero => rw [decDigits, dif_pos (by simpa using h)]; simp
  | succ k ih =>
    rw [decDigits]
    split
    · simp
    · have := ih (u / 10) (by rw [Nat.pow_succ] at h; omega)
      simp; omega
/-- The first figure is 0 of 0 alone. -/
theorem dec_head (u : Nat) (h : 0 < u) : ∀ c, (decDigits u).head? = some c → 49 ≤ c.toNat := by
  induction u using Nat.strongRecOn with
  | _ u ih =>
    intro c
    rw [decDigits]
    split
    · intro hc
      simp only [List.head?_cons, Option.some.injEq] at hc
      rw [← hc, u8_of _ (by omega)]; omega
    · rename_i h2
      intro hc
      have e : (decDigits (u / 10) ++ [UInt8.ofNat (48 + u % 10)]).head? = (decDigits (u / 10)).head? := by
        cases hd : decDigits (u / 10) with
        | nil => exact absurd hd (dec_ne _)
        | cons x r => rfl
      rw [e] at hc
      exact ih (u / 10) (by omega) (by omega) c hc
/-- Figures without needless noughts are their number's numeral. -/
theorem dec_canon : ∀ (n : Nat) (d : List UInt8), d.length = n → d ≠ [] → d.all fig = true → (∀ c, d.head? = some c → c.toNat = 48 → d.length = 1) → decDigits (fval 0 d) = d := by
  intro n
  induction n with
  | zero => intro d hn h0; exact absurd (List.eq_nil_of_length_eq_zero hn) h0
  | succ n ih =>
    intro d hn h0 ha hh
    obtain ⟨i, c, rfl⟩ : ∃ i c, d = i ++ [c] := ⟨d.dropLast, d.getLast h0, (List.dropLast_concat_getLast h0).symm⟩
    rw [List.all_append, Bool.and_eq_true] at ha
    have hc : 48 ≤ c.toNat ∧ c.toNat ≤ 57 := by have := ha.2; simpa [fig] using this
    cases i with
    | nil =>
      rw [List.nil_append, fval_cons, fval_nil, Nat.zero_mul, Nat.zero_add, decDigits, dif_pos (by omega), u8_eq (c := c) (by omega) (by omega)]
    | cons x r =>
      have hx : 48 ≤ x.toNat ∧ x.toNat ≤ 57 := by have := ha.1; simp only [List.all_cons, Bool.and_eq_true] at this; exact of_fig this.1
      have hx0 : x.toNat ≠ 48 := fun e => by have := hh x rfl e; simp at this
      have e := ih (x :: r) (by simp at hn ⊢; omega) (by simp) ha.1 (fun c' h1 h2 => by simp at h1; subst h1; exact absurd h2 hx0)
      have hp : 1 ≤ fval 0 (x :: r) := by rw [fval_cons]; exact Nat.le_trans (by omega) (fval_ge (0 * 10 + (x.toNat - 48)) r)
      rw [fval_append, fval_cons, fval_nil]
      generalize fval 0 (x :: r) = v at *
      rw [decDigits, dif_neg (by omega), show (v * 10 + (c.toNat - 48)) / 10 = v from by omega, e, u8_eq (c := c) (by omega) (by omega)]
/-- Atoi's own reading of figures. -/
theorem parse_figs (l : List UInt8) : ∀ acc, l.all fig = true → fval acc l < 18446744073709551616 → parseUint10 acc l = .ok (fval acc l) := by
  induction l with
  | nil => intro acc _ _; rfl
  | cons c r ih =>
    intro acc ha hv
    simp only [List.all_cons, Bool.and_eq_true] at ha
    have hc : 48 ≤ c.toNat ∧ c.toNat ≤ 57 := of_fig ha.1
    rw [fval_cons] at hv ⊢
    have := fval_ge (acc * 10 + (c.toNat - 48)) r
    simp only [parseUint10]
    rw [if_pos hc, if_neg (by omega), if_neg (by omega)]
    exact ih _ ha.2 hv
theorem fig_head {l : List UInt8} (h : l.all fig = true) {c : UInt8} (hc : l.head? = some c) : 48 ≤ c.toNat ∧ c.toNat ≤ 57 := by
  cases l with
  | nil => simp at hc
  | cons x r => simp at hc; subst hc; simp only [List.all_cons, Bool.and_eq_true] at h; exact of_fig h.1
theorem mag_figs {l : List UInt8} (h0 : l ≠ []) (ha : l.all fig = true) (hv : fval 0 l < 18446744073709551616) : parseMag l = .ok (fval 0 l) := by
  unfold parseMag
  rw [if_neg h0, parse_figs l 0 ha hv]
theorem atoi_plain {l : List UInt8} (h0 : l ≠ []) (ha : l.all fig = true) (hv : fval 0 l < 18446744073709551616) :
    atoiAll l = if 9223372036854775808 ≤ fval 0 l then .range else .ok (fval 0 l) := by
  have hm := mag_figs h0 ha hv
  cases l with
  | nil => exact absurd rfl h0
  | cons c r =>
    have hc := fig_head ha (c := c) rfl
    simp only [atoiAll]
    rw [if_neg (by omega), hm]
    have : ¬ c.toNat = 45 := by omega
    simp only [this, not_false_eq_true, true_and, false_and, if_false]
theorem atoi_minus {l : List UInt8} (h0 : l ≠ []) (ha : l.all fig = true) (hv : fval 0 l < 18446744073709551616) :
    atoiAll (45 :: l) = if 9223372036854775808 < fval 0 l then .range else .ok (-(fval 0 l : Int)) := by
  have hm := mag_figs h0 ha hv
  simp only [atoiAll]
  rw [if_pos (Or.inr (by decide)), hm]
  have : (45 : UInt8).toNat = 45 := by decide
  simp only [this, not_true_eq_false, false_and, if_false, true_and, if_true]
theorem atoi_itoa (v : Int) (h0 : -9223372036854775808 ≤ v) (h1 : v ≤ 9223372036854775807) : atoiAll (itoa v) = .ok v := by
  unfold itoa
  split
  · rw [atoi_minus (dec_ne _) (dec_all _) (by rw [dec_val]; omega), dec_val, if_neg (by omega)]
    congr 1; omega
  · rw [atoi_plain (dec_ne _) (dec_all _) (by rw [dec_val]; omega), dec_val, if_neg (by omega)]
    congr 1; omega
end Go.Proofs.YtfpjojjgoelckaaDoor.Dec
