import Derived.Test.YtadepmefdanenaaDoorK02j
import Derived.Test.YtadepmefdanenaaDoorKLib
/-! Contracts: place.Text, place.Parse. -/
namespace Go.AL
open Go.Proofs
set_option linter.unusedSimpArgs false
set_option linter.unusedVariables false
def textQ (c r : Int) : ByteArray := if rightP c r = true then strOf [65 + c] ++ ⟨(Lib.itoa (r + 1)).toArray⟩ else ⟨#[]⟩
set_option maxRecDepth 100000 in
theorem text_ok (c r : Int) : APure Tryd.prog 16 [place c r] (vs (textQ c r)) := by
  refine apure_of Tryd.func16 Tryd.ntmps16 rfl ?_
  simp only [List.length_cons, List.length_nil, List.cons_append, List.nil_append, List.replicate]
  refine aw_seq (aw_run [] ?_)
  simp -implicitDefEqProofs
  refine aw_seq (aw_seq (aw_run [] ?_))
  simp -implicitDefEqProofs
  refine awl_pure' [] rfl rfl rfl (by kernel_rfl) rfl (right_ok c r) (by simp) (by simp) ?_
  simp -implicitDefEqProofs
  refine aw_cond rfl (fun h => ?_) (fun h => aw_skip ?_)
  · repeat' (first
      | refine aw_seq ?_
      | (refine aw_run [] ?_; simp -implicitDefEqProofs)
      | (refine aw_ymix [] draws (by decide +kernel) ?_; simp -implicitDefEqProofs)
      | (refine aw_yrun draws (by kernel_rfl) ?_; simp -implicitDefEqProofs)
      | (refine awl_skip' [] rfl ?_; simp -implicitDefEqProofs)
      | (refine aw_cond rfl (fun h => ?_) (fun h => ?_) <;> try (with_reducible first | exact ff_tt h | exact tt_ff h))
      | (refine aw_skip ?_; simp -implicitDefEqProofs)
      | refine aw_block ?_
      | (refine aw_exit ?_; simp -implicitDefEqProofs)
      | refine aw_ret (ret_of (.inr rfl) (by simp [Tryd.results16]; rfl) (Fin.of ?_)))
    have : rightP c r = false := by simpa using h
    simp [tupOf, textQ, this]
  · have hR : rightP c r = true := by simpa using h
    have hb := rightP_iff'.1 hR
    have h1 : IntKind.i64.wrap (65 + c) = 65 + c := wrap_id (by omega) (by omega)
    have h2 : IntKind.i64.wrap (r + 1) = r + 1 := wrap_id (by omega) (by omega)
    have h3 : IntKind.u8.wrap (65 + c) = 65 + c := bwrap_id (by omega) (by omega)
    have hs : (strOf [65 + c]).size + (⟨(Lib.itoa (r + 1)).toArray⟩ : ByteArray).size ≤ 9223372036854775807 := by
      have e1 : (strOf [65 + c]).size = 1 := rfl
      have e2 := Lib.itoa_length_le (r + 1) (by omega) (by omega)
      have e3 : (⟨(Lib.itoa (r + 1)).toArray⟩ : ByteArray).size = (Lib.itoa (r + 1)).length := by simp [ByteArray.size]
      omega
    simp -implicitDefEqProofs
    refine aw_seq (aw_yrun draws (by kernel_rfl) ?_)
    simp -implicitDefEqProofs [h1, h2, h3]
    refine yl_pure rfl rfl rfl (by kernel_rfl) rfl (itoa_ok (r + 1) (by omega) (by omega)) (by simp) (by simp) ?_
    simp -implicitDefEqProofs [hs]
    repeat' (first
      | refine aw_seq ?_
      | (refine aw_run [] ?_; simp -implicitDefEqProofs)
      | (refine aw_ymix [] draws (by decide +kernel) ?_; simp -implicitDefEqProofs)
      | (refine aw_yrun draws (by kernel_rfl) ?_; simp -implicitDefEqProofs)
      | (refine awl_skip' [] rfl ?_; simp -implicitDefEqProofs)
      | (refine aw_cond rfl (fun h => ?_) (fun h => ?_) <;> try (with_reducible first | exact ff_tt h | exact tt_ff h))
      | (refine aw_skip ?_; simp -implicitDefEqProofs)
      | refine aw_block ?_
      | (refine aw_exit ?_; simp -implicitDefEqProofs)
      | refine aw_ret (ret_of (.inr rfl) (by simp [Tryd.results16]; rfl) (Fin.of ?_)))
    simp [tupOf, textQ, hR]
theorem letters_at : ∀ c : Nat, c < 16 → letters.extract c (c + 1) = strOf [65 + (c : Int)] := by decide
theorem figs_itoa : ∀ n : Nat, n < 65 → figs n = ⟨(Lib.itoa (n : Int)).toArray⟩ := by
  have h1 : ∀ n : Nat, n < 10 → dig n = ⟨(Lib.itoa (n : Int)).toArray⟩ := by decide +kernel
  have h2 : ∀ a : Nat, a < 7 → ∀ b : Nat, b < 10 → 0 < a → dig a ++ dig b = ⟨(Lib.itoa ((a * 10 + b : Nat) : Int)).toArray⟩ := by decide +kernel
  intro n hn
  by_cases h : n < 10
  · unfold figs; rw [if_pos h]; exact h1 n h
  · have e := h2 (n / 10) (by omega) (n % 10) (by omega) (by omega)
    rw [show n / 10 * 10 + n % 10 = n by omega] at e
    rw [← e, figs, if_neg h, figs, if_pos (by omega)]
theorem textQ_eq (c r : Int) : textQ c r = textP c r := by
  unfold textQ textP
  split
  · rename_i h
    obtain ⟨c0, c1, r0, r1⟩ := rightP_iff'.1 h
    obtain ⟨k, rfl⟩ := Int.eq_ofNat_of_zero_le c0
    obtain ⟨m, rfl⟩ := Int.eq_ofNat_of_zero_le r0
    rw [show ((k : Int)).toNat = k from rfl, letters_at k (by omega), show (m : Int) + 1 = ((m + 1 : Nat) : Int) by omega, ← figs_itoa (m + 1) (by omega), textI, if_neg (by omega)]
    rfl
  · rfl
theorem ptext_ok (c r : Int) : APure Tryd.prog 16 [place c r] (vs (textP c r)) := textQ_eq c r ▸ text_ok c r
end Go.AL
