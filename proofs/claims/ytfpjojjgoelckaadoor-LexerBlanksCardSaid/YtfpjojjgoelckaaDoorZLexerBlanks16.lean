/- Parts of the proof of LexerBlanks: the logic, contracts, plain laws. -/
import Derived.Test.YtfpjojjgoelckaaDoorZLexerBlanks15
import Derived.Test.YtfpjojjgoelckaaDoorZLexerBlanks7
/-! Contracts: place.Text, place.Parse. -/
namespace Go.AL
open Go.Proofs
set_option linter.unusedSimpArgs false
set_option linter.unusedVariables false
def textQ (c r : Int) : ByteArray := if rightP c r = true then strOf [65 + c] ++ ⟨(Lib.itoa (r + 1)).toArray⟩ else ⟨#[]⟩
theorem letters_at : ∀ c : Nat, c < 16 → letters.extract c (c + 1) = strOf [65 + (c : Int)] := by decide
theorem figs_itoa : ∀ n : Nat, n < 65 → figs n = ⟨(Lib.itoa (n : Int)).toArray⟩ := by
  have h1 : ∀ n : Nat, n < 10 → dig n = ⟨(Lib.itoa (n : Int)).toArray⟩ := by decide +kernel
  have h2 : ∀ a : Nat, a < 7 → ∀ b : Nat, b < 10 → 0 < a → dig a ++ dig b = ⟨(Lib.itoa ((a * 10 + b : Nat) : Int)).toArray⟩ := by decide +kernel
  intro n hn
  by_cases h : n < 10
  · unfold figs; rw [if_pos h]; exact h1 n h
  · have e := h2 (n / 10) (by omega) (n % 10) (by omega) (by omega)
    rw [show n / 10 * 10 + n % 10 = n by omega] at e
    rw [← e, figs, if_neg h, figs, if_pos (by omega)]
theorem textQ_eq (c r : Int) : textQ c r = textP c r := by
  unfold textQ textP
  split
  · rename_i h
    obtain ⟨c0, c1, r0, r1⟩ := rightP_iff'.1 h
    obtain ⟨k, rfl⟩ := Int.eq_ofNat_of_zero_le c0
    obtain ⟨m, rfl⟩ := Int.eq_ofNat_of_zero_le r0
    rw [show ((k : Int)).toNat = k from rfl, letters_at k (by omega), show (m : Int) + 1 = ((m + 1 : Nat) : Int) by omega, ← figs_itoa (m + 1) (by omega), textI, if_neg (by omega)]
    rfl
  · rfl
end Go.AL
