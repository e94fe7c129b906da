/- Parts of the proof of LexerBlanks: the logic, contracts, plain laws. -/
import Derived.Test.YtfpjojjgoelckaaDoorZLexerBlanks9
import Derived.Test.YtfpjojjgoelckaaDoorZLexerBlanks11
/-! Contracts: gridironref02.Text. -/
namespace Go.AL
open Go.Proofs
set_option linter.unusedSimpArgs false
set_option linter.unusedVariables false
def letters : ByteArray := ⟨#[65, 66, 67, 68, 69, 70, 71, 72, 73, 74, 75, 76, 77, 78, 79, 80]⟩
def textP (c r : Int) : ByteArray := if rightP c r = true then letters.extract c.toNat (c.toNat + 1) ++ textI (r + 1) else ⟨#[]⟩
theorem rightP_iff' {c r : Int} : rightP c r = true ↔ 0 ≤ c ∧ c < 16 ∧ 0 ≤ r ∧ r < 64 := by simp [rightP, and_assoc]
set_option maxRecDepth 100000 in
theorem rtext_ok (c r : Int) : APure Tryd.prog 39 [place c r] (vs (textP c r)) := by
  refine apure_of Tryd.func39 Tryd.ntmps39 rfl ?_
  simp only [List.length_cons, List.length_nil, List.cons_append, List.nil_append, List.replicate]
  refine aw_seq (aw_run [] ?_)
  simp -implicitDefEqProofs
  refine aw_seq (aw_run [] ?_)
  simp -implicitDefEqProofs
  refine awl_pure' [] rfl rfl rfl (by kernel_rfl) rfl (rright_ok c r) (by simp) (by simp) ?_
  simp -implicitDefEqProofs
  refine aw_seq (aw_seq (aw_run [] ?_))
  simp -implicitDefEqProofs
  refine aw_cond rfl (fun h => ?_) (fun h => aw_skip ?_)
  · repeat' (first
      | refine aw_seq ?_
      | (refine aw_run [] ?_; simp -implicitDefEqProofs (maxSteps := 1000000))
      | (refine aw_ymix [] draws (by decide +kernel) ?_; simp -implicitDefEqProofs (maxSteps := 1000000))
      | (refine aw_yrun draws (by kernel_rfl) ?_; simp -implicitDefEqProofs (maxSteps := 1000000))
      | (refine awl_skip' [] rfl ?_; simp -implicitDefEqProofs (maxSteps := 1000000))
      | (refine aw_cond rfl (fun h => ?_) (fun h => ?_) <;> try (with_reducible first | exact ff_tt h | exact tt_ff h))
      | (refine aw_skip ?_; simp -implicitDefEqProofs (maxSteps := 1000000))
      | refine aw_block ?_
      | (refine aw_exit ?_; simp -implicitDefEqProofs (maxSteps := 1000000))
      | refine aw_ret (ret_of (.inr rfl) (by simp [Tryd.results39]; rfl) (Fin.of ?_)))
    have : rightP c r = false := by simpa using h
    simp [tupOf, textP, this]
  · have hR : rightP c r = true := by simpa using h
    have hb := rightP_iff'.1 hR
    obtain ⟨k, rfl⟩ := Int.eq_ofNat_of_zero_le hb.1
    have h1 : IntKind.i64.wrap ((k : Int) + 1) = ((k + 1 : Nat) : Int) := by rw [wrap_id (by omega) (by omega)]; rfl
    have h2 : IntKind.i64.wrap (r + 1) = r + 1 := wrap_id (by omega) (by omega)
    have hk : k ≤ k + 1 ∧ k + 1 ≤ (⟨#[65, 66, 67, 68, 69, 70, 71, 72, 73, 74, 75, 76, 77, 78, 79, 80]⟩ : ByteArray).size := ⟨by omega, by
      have e : (⟨#[65, 66, 67, 68, 69, 70, 71, 72, 73, 74, 75, 76, 77, 78, 79, 80]⟩ : ByteArray).size = 16 := rfl
      omega⟩
    have hn : 0 ≤ (k : Int) + 1 := by omega
    have hs : (letters.extract k (k + 1)).size + (textI (r + 1)).size ≤ 9223372036854775807 := by
      have e1 : (textI (r + 1)).size ≤ 20 := by
        unfold textI
        rw [if_neg (by omega)]
        exact figs_len _ (by omega)
      have e2 : (letters.extract k (k + 1)).size ≤ 16 := by
        rw [ByteArray.size_extract]
        have e : letters.size = 16 := rfl
        omega
      omega
    unfold letters at hs
    rw [ByteArray.size_extract] at hs
    simp -implicitDefEqProofs
    refine aw_seq (aw_yrun draws (by kernel_rfl) ?_)
    simp -implicitDefEqProofs [h1, h2, hk, hn]
    refine yl_pure rfl rfl rfl (by kernel_rfl) rfl (rtext1_ok (r + 1) (by omega) (by omega)) (by simp) (by simp) ?_
    simp -implicitDefEqProofs [hs]
    repeat' (first
      | refine aw_seq ?_
      | (refine aw_run [] ?_; simp -implicitDefEqProofs (maxSteps := 1000000))
      | (refine aw_ymix [] draws (by decide +kernel) ?_; simp -implicitDefEqProofs (maxSteps := 1000000))
      | (refine aw_yrun draws (by kernel_rfl) ?_; simp -implicitDefEqProofs (maxSteps := 1000000))
      | (refine awl_skip' [] rfl ?_; simp -implicitDefEqProofs (maxSteps := 1000000))
      | (refine aw_cond rfl (fun h => ?_) (fun h => ?_) <;> try (with_reducible first | exact ff_tt h | exact tt_ff h))
      | (refine aw_skip ?_; simp -implicitDefEqProofs (maxSteps := 1000000))
      | refine aw_block ?_
      | (refine aw_exit ?_; simp -implicitDefEqProofs (maxSteps := 1000000))
      | refine aw_ret (ret_of (.inr rfl) (by simp [Tryd.results39]; rfl) (Fin.of ?_)))
    simp [tupOf, textP, hR, letters]
end Go.AL
