/- Parts of the proof of LexerBlanks: the logic, contracts, plain laws. -/
import Derived.Test.YtfpjojjgoelckaaDoorZLexerBlanks13
/-! Contracts: gridironref02.Parse. -/
namespace Go.AL
open Go.Proofs
set_option linter.unusedSimpArgs false
set_option linter.unusedVariables false
def isText (s : ByteArray) (i : Nat) : Bool := decide (textP (atC (i : Int)) (atR (i : Int)) = s)
/-- The first place with this text. -/
def findT (s : ByteArray) : Option Nat := (List.range 1024).find? (isText s)
def parseI (s : ByteArray) : Nat := (findT s).getD 0
def parseB (s : ByteArray) : Bool := formedP s && (findT s).isSome
def parseE (s : ByteArray) : Int := if formedP s = true then (if (findT s).isSome = true then 0 else 4) else 2
set_option maxRecDepth 100000 in
theorem rparse_ok (s : ByteArray) (hsz : s.size ≤ 9223372036854775807) : APure Tryd.prog 26 [vs s] (.tup [place (z (parseB s) (atC (parseI s))) (z (parseB s) (atR (parseI s))), vi (parseE s)]) := by
  refine apure_of Tryd.func26 Tryd.ntmps26 rfl ?_
  simp only [List.length_cons, List.length_nil, List.cons_append, List.nil_append, List.replicate]
  repeat' (first
    | refine aw_seq ?_
    | (refine aw_run [2, 6] ?_; simp -implicitDefEqProofs (maxSteps := 1000000))
    | (refine aw_ymix [2, 6] draws (by decide +kernel) ?_; simp -implicitDefEqProofs (maxSteps := 1000000))
    | (refine aw_yrun draws (by kernel_rfl) ?_; simp -implicitDefEqProofs (maxSteps := 1000000))
    | (refine awl_skip' [2, 6] rfl ?_; simp -implicitDefEqProofs (maxSteps := 1000000))
    | (refine awl_pure_guard [2, 6] rfl rfl rfl (by first | assumption | kernel_rfl) rfl (fun hc => by first | exact rformed_ok s hsz) (by simp) (by simp) (by simp) ?_; simp -implicitDefEqProofs (maxSteps := 1000000))
    | (refine yl_pureG rfl rfl rfl (by first | assumption | kernel_rfl) rfl (fun hc => by first | exact rformed_ok s hsz) (by simp) (by simp) (by simp) ?_; simp -implicitDefEqProofs (maxSteps := 1000000))
    | (refine awl_pure' [2, 6] rfl rfl rfl (by first | assumption | kernel_rfl) rfl (by first | exact rformed_ok s hsz) (by simp) (by simp) ?_; simp -implicitDefEqProofs (maxSteps := 1000000))
    | (refine yl_pure rfl rfl rfl (by first | assumption | kernel_rfl) rfl (by first | exact rformed_ok s hsz) (by simp) (by simp) ?_; simp -implicitDefEqProofs (maxSteps := 1000000))
    | (refine aw_cond rfl (fun h => ?_) (fun h => ?_) <;> try (with_reducible first | exact ff_tt h | exact tt_ff h))
    | (refine aw_skip ?_; simp -implicitDefEqProofs (maxSteps := 1000000))
    | refine aw_block ?_
    | (refine aw_exit ?_; simp -implicitDefEqProofs (maxSteps := 1000000))
    | refine aw_ret (ret_of (.inr rfl) (by simp [Tryd.results26]; rfl) (Fin.of ?_)))
  · have hf : formedP s = false := by simpa using h
    simp [tupOf, parseB, parseE, hf]
  · have hf : formedP s = true := by simpa using h
    refine aw_loopW [0, 2, 5] (fun n fr σ => ∃ i m : Nat, i + n = 1024 ∧ 1 ≤ m ∧ (∀ j, j < i → isText s j = false) ∧ σ = mkSt [(0, [vi 0, vi 0])] [] m ∧ fr = frm 30 [(0, vs s), (2, .ptr 0 0), (5, vi (i : Nat))]) 1024 ?_ ?_
    · refine ⟨mkSt [(0, [vi 0, vi 0])] [] 1, le_mkSt (by simp [σ0]) (by simp) (by simp [σ0]), 0, 1, by omega, by omega, by omega, rfl, ?_⟩
      simp [σ0]
    · rintro n fr σ ⟨i, m, hi, hm, hno, rfl, rfl⟩
      simp
      have hm0 : ¬ 0 = m := by omega
      refine aw_seq (aw_seq (aw_run [2, 6] ?_))
      simp -implicitDefEqProofs
      refine aw_cond rfl (fun h => aw_skip ?_) (fun h => aw_exit ?_)
      · have hlt : i < 1024 := by simp at h; omega
        have hnx : IntKind.i64.wrap ((i : Int) + 1) = ((i + 1 : Nat) : Int) := by rw [wrap_id (by omega) (by omega)]; simp
        simp -implicitDefEqProofs
        repeat' (first
          | refine aw_seq ?_
          | (refine aw_run [2, 6] ?_; simp -implicitDefEqProofs (maxSteps := 1000000) [List.lookup, hm0])
          | (refine aw_ymix [2, 6] draws (by decide +kernel) ?_; simp -implicitDefEqProofs (maxSteps := 1000000) [List.lookup, hm0])
          | (refine aw_yrun draws (by kernel_rfl) ?_; simp -implicitDefEqProofs (maxSteps := 1000000) [List.lookup, hm0])
          | (refine awl_skip' [2, 6] rfl ?_; simp -implicitDefEqProofs (maxSteps := 1000000) [List.lookup, hm0])
          | (refine awl_pure_guard [2, 6] rfl rfl rfl (by first | assumption | kernel_rfl) rfl (fun hc => by first | exact rat_ok _ | exact rtext_ok _ _) (by simp) (by simp) (by simp) ?_; simp -implicitDefEqProofs (maxSteps := 1000000) [List.lookup, hm0])
          | (refine yl_pureG rfl rfl rfl (by first | assumption | kernel_rfl) rfl (fun hc => by first | exact rat_ok _ | exact rtext_ok _ _) (by simp) (by simp) (by simp) ?_; simp -implicitDefEqProofs (maxSteps := 1000000) [List.lookup, hm0])
          | (refine awl_pure' [2, 6] rfl rfl rfl (by first | assumption | kernel_rfl) rfl (by first | exact rat_ok _ | exact rtext_ok _ _) (by simp) (by simp) ?_; simp -implicitDefEqProofs (maxSteps := 1000000) [List.lookup, hm0])
          | (refine yl_pure rfl rfl rfl (by first | assumption | kernel_rfl) rfl (by first | exact rat_ok _ | exact rtext_ok _ _) (by simp) (by simp) ?_; simp -implicitDefEqProofs (maxSteps := 1000000) [List.lookup, hm0])
          | (refine aw_cond rfl (fun h => ?_) (fun h => ?_) <;> try (with_reducible first | exact ff_tt h | exact tt_ff h))
          | (refine aw_skip ?_; simp -implicitDefEqProofs (maxSteps := 1000000) [List.lookup, hm0])
          | refine aw_block ?_
          | (refine aw_exit ?_; simp -implicitDefEqProofs (maxSteps := 1000000) [List.lookup, hm0])
          | refine aw_ret (ret_of (.inr rfl) (by simp [Tryd.results26]; rfl) (Fin.of ?_)))
        · have hi1 : isText s i = true := h
          have hfd : findT s = some i := by
            unfold findT
            rw [List.find?_range_eq_some]
            exact ⟨hi1, by simp [hlt], fun j hj => by simp [hno j hj]⟩
          simp [tupOf, parseB, parseE, parseI, hf, hfd]
        · refine ⟨n - 1, by omega, mkSt [(0, [vi 0, vi 0])] [] (m + 1), le_mkSt (by simp [List.lookup, hm0]) (by simp) (by simp), i + 1, by omega, m + 1, by omega, ?_, rfl, by simp [hnx]⟩
          intro j hj
          by_cases hji : j < i
          · exact hno j hji
          · obtain rfl : j = i := by omega
            exact h
      · simp -implicitDefEqProofs
        repeat' (first
          | refine aw_seq ?_
          | (refine aw_run [2, 6] ?_; simp -implicitDefEqProofs (maxSteps := 1000000) [List.lookup])
          | (refine aw_ymix [2, 6] draws (by decide +kernel) ?_; simp -implicitDefEqProofs (maxSteps := 1000000) [List.lookup])
          | (refine aw_yrun draws (by kernel_rfl) ?_; simp -implicitDefEqProofs (maxSteps := 1000000) [List.lookup])
          | (refine awl_skip' [2, 6] rfl ?_; simp -implicitDefEqProofs (maxSteps := 1000000) [List.lookup])
          | (refine aw_cond rfl (fun h => ?_) (fun h => ?_) <;> try (with_reducible first | exact ff_tt h | exact tt_ff h))
          | (refine aw_skip ?_; simp -implicitDefEqProofs (maxSteps := 1000000) [List.lookup])
          | refine aw_block ?_
          | (refine aw_exit ?_; simp -implicitDefEqProofs (maxSteps := 1000000) [List.lookup])
          | refine aw_ret (ret_of (.inr rfl) (by simp [Tryd.results26]; rfl) (Fin.of ?_)))
        have hfd : findT s = none := by
          unfold findT
          rw [List.find?_range_eq_none]
          intro j hj
          have : j < i := by simp at h; omega
          simp [hno j this]
        simp [tupOf, parseB, parseE, parseI, hf, hfd]
end Go.AL
