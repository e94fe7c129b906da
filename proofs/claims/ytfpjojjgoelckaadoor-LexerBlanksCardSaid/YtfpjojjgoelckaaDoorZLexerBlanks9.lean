/- Parts of the proof of LexerBlanks: the logic, contracts, plain laws. -/
import Derived.Test.YtfpjojjgoelckaaDoorZLexerBlanks3
/-! Contracts: gridironref01's texts. -/
namespace Go.AL
open Go.Proofs
set_option linter.unusedSimpArgs false
set_option linter.unusedVariables false
set_option maxRecDepth 100000 in
theorem size_ok (a : Int) (h1 : -9223372036854775808 ≤ a) (h2 : a ≤ 9223372036854775807) : APure Tryd.prog 58 [vi a] (vu a.natAbs) := by
  refine apure_of Tryd.func58 Tryd.ntmps58 rfl ?_
  simp only [List.length_cons, List.length_nil, List.cons_append, List.nil_append, List.replicate]
  repeat' (first
    | refine aw_seq ?_
    | (refine aw_run [] ?_; simp -implicitDefEqProofs (maxSteps := 1000000))
    | (refine aw_ymix [] draws (by decide +kernel) ?_; simp -implicitDefEqProofs (maxSteps := 1000000))
    | (refine aw_yrun draws (by kernel_rfl) ?_; simp -implicitDefEqProofs (maxSteps := 1000000))
    | (refine awl_skip' [] rfl ?_; simp -implicitDefEqProofs (maxSteps := 1000000))
    | (refine aw_cond rfl (fun h => ?_) (fun h => ?_) <;> try (with_reducible first | exact ff_tt h | exact tt_ff h))
    | (refine aw_skip ?_; simp -implicitDefEqProofs (maxSteps := 1000000))
    | refine aw_block ?_
    | (refine aw_exit ?_; simp -implicitDefEqProofs (maxSteps := 1000000))
    | refine aw_ret (ret_of (.inr rfl) (by simp [Tryd.results58]; rfl) (Fin.of ?_)))
  · simp [tupOf] at h ⊢
    rw [wrap_id (n := a + 1) (by omega) (by omega), wrap_id (by omega) (by omega), uwrap_id (n := -(a + 1)) (by omega) (by omega), uwrap_id (by omega) (by omega)]
    omega
  · simp [tupOf] at h ⊢
    rw [uwrap_id (by omega) (by omega)]
    omega
def dig (d : Nat) : ByteArray := ⟨#[UInt8.ofNat (48 + d)]⟩
def figs (u : Nat) : ByteArray := if u < 10 then dig u else figs (u / 10) ++ dig (u % 10)
theorem figs_size (u : Nat) : (figs u).size ≤ u + 1 := by
  induction u using Nat.strongRecOn with
  | _ u ih =>
    unfold figs
    split
    · simp [dig, ByteArray.size]
    · have := ih (u / 10) (by omega)
      rw [ByteArray.size_append]
      have e : (dig (u % 10)).size = 1 := rfl
      omega
theorem figs_len (u : Nat) (h : u < 18446744073709551616) : (figs u).size ≤ 20 := by
  have key : ∀ (n u : Nat), u < 10 ^ (n + 1) → (figs u).size ≤ n + 1 := by
    intro n
    induction n with
    | zero => intro u hu; unfold figs; rw [if_pos (by omega)]; exact Nat.le_refl _
    | succ n ih =>
      intro u hu
      unfold figs
      split
      · have e : (dig u).size = 1 := rfl
        omega
      · have := ih (u / 10) (by rw [Nat.pow_succ] at hu; omega)
        rw [ByteArray.size_append]
        have e : (dig (u % 10)).size = 1 := rfl
        omega
  exact key 19 u (by omega)
set_option maxRecDepth 100000 in
theorem figures_ok (u : Nat) (h : u < 18446744073709551616) : APure Tryd.prog 57 [vu u] (vs (figs u)) := by
  induction u using Nat.strongRecOn with
  | _ u ih =>
    have hd : strOf [IntKind.u8.wrap (IntKind.u64.wrap (48 + (u : Int).tmod 10))] = dig (u % 10) := by
      rw [show (u : Int).tmod 10 = ((u % 10 : Nat) : Int) from rfl, uwrap_id (by omega) (by omega), bwrap_id (by omega) (by omega)]
      simp only [strOf, dig, List.map_cons, List.map_nil]
      rw [show (48 + ((u % 10 : Nat) : Int)).toNat = 48 + u % 10 by omega]
    have hq : IntKind.u64.wrap ((u : Int) / 10) = ((u / 10 : Nat) : Int) := by rw [uwrap_id (by omega) (by omega)]; rfl
    have hs : (figs (u / 10)).size + (dig (u % 10)).size ≤ 9223372036854775807 := by
      have := figs_len (u / 10) (by omega)
      have e : (dig (u % 10)).size = 1 := rfl
      omega
    have hf := figs.eq_1 u
    refine apure_of Tryd.func57 Tryd.ntmps57 rfl ?_
    simp only [List.length_cons, List.length_nil, List.cons_append, List.nil_append, List.replicate]
    repeat' (first
      | refine aw_seq ?_
      | (refine aw_run [] ?_; simp -implicitDefEqProofs (maxSteps := 1000000))
      | (refine aw_ymix [] draws (by decide +kernel) ?_; simp -implicitDefEqProofs (maxSteps := 1000000))
      | (refine aw_yrun draws (by kernel_rfl) ?_; simp -implicitDefEqProofs (maxSteps := 1000000))
      | (refine awl_skip' [] rfl ?_; simp -implicitDefEqProofs (maxSteps := 1000000))
      | (refine aw_cond rfl (fun h => ?_) (fun h => ?_) <;> try (with_reducible first | exact ff_tt h | exact tt_ff h))
      | (refine aw_skip ?_; simp -implicitDefEqProofs (maxSteps := 1000000))
      | refine aw_block ?_
      | (refine aw_exit ?_; simp -implicitDefEqProofs (maxSteps := 1000000))
      | refine aw_ret (ret_of (.inr rfl) (by simp [Tryd.results57]; rfl) (Fin.of ?_)))
    · have h10 : 10 ≤ u := by simp at h; omega
      rw [hd, hq]
      refine awl_pure' [] rfl rfl rfl (by kernel_rfl) rfl (ih (u / 10) (by omega) (by omega)) (by simp) (by simp) ?_
      simp -implicitDefEqProofs [hs]
      repeat' (first
        | refine aw_seq ?_
        | (refine aw_run [] ?_; simp -implicitDefEqProofs (maxSteps := 1000000))
        | (refine aw_ymix [] draws (by decide +kernel) ?_; simp -implicitDefEqProofs (maxSteps := 1000000))
        | (refine aw_yrun draws (by kernel_rfl) ?_; simp -implicitDefEqProofs (maxSteps := 1000000))
        | (refine awl_skip' [] rfl ?_; simp -implicitDefEqProofs (maxSteps := 1000000))
        | (refine aw_cond rfl (fun h => ?_) (fun h => ?_) <;> try (with_reducible first | exact ff_tt h | exact tt_ff h))
        | (refine aw_skip ?_; simp -implicitDefEqProofs (maxSteps := 1000000))
        | refine aw_block ?_
        | (refine aw_exit ?_; simp -implicitDefEqProofs (maxSteps := 1000000))
        | refine aw_ret (ret_of (.inr rfl) (by simp [Tryd.results57]; rfl) (Fin.of ?_)))
      rw [hf, if_neg (by omega)]
      rfl
    · have h10 : u < 10 := by simp at h; omega
      rw [hd, hf, if_pos h10, Nat.mod_eq_of_lt h10]
      rfl
/-- A number's text. -/
def textI (a : Int) : ByteArray := if a < 0 then ⟨#[45]⟩ ++ figs a.natAbs else figs a.natAbs
set_option maxRecDepth 100000 in
theorem rtext1_ok (a : Int) (h1 : -9223372036854775808 ≤ a) (h2 : a ≤ 9223372036854775807) : APure Tryd.prog 47 [vi a] (vs (textI a)) := by
  have hl := figs_len a.natAbs (by omega)
  have hs : (⟨#[45]⟩ : ByteArray).size + (figs a.natAbs).size ≤ 9223372036854775807 := by
    have e : (⟨#[45]⟩ : ByteArray).size = 1 := rfl
    omega
  refine apure_of Tryd.func47 Tryd.ntmps47 rfl ?_
  simp only [List.length_cons, List.length_nil, List.cons_append, List.nil_append, List.replicate]
  repeat' (first
    | refine aw_seq ?_
    | (refine aw_run [] ?_; simp -implicitDefEqProofs (maxSteps := 1000000) [hs])
    | (refine aw_ymix [] draws (by decide +kernel) ?_; simp -implicitDefEqProofs (maxSteps := 1000000) [hs])
    | (refine aw_yrun draws (by kernel_rfl) ?_; simp -implicitDefEqProofs (maxSteps := 1000000) [hs])
    | (refine awl_skip' [] rfl ?_; simp -implicitDefEqProofs (maxSteps := 1000000) [hs])
    | (refine awl_pure_guard [] rfl rfl rfl (by first | assumption | kernel_rfl) rfl (fun hc => by first | exact size_ok a h1 h2 | exact figures_ok a.natAbs (by omega)) (by simp) (by simp) (by simp) ?_; simp -implicitDefEqProofs (maxSteps := 1000000) [hs])
    | (refine yl_pureG rfl rfl rfl (by first | assumption | kernel_rfl) rfl (fun hc => by first | exact size_ok a h1 h2 | exact figures_ok a.natAbs (by omega)) (by simp) (by simp) (by simp) ?_; simp -implicitDefEqProofs (maxSteps := 1000000) [hs])
    | (refine awl_pure' [] rfl rfl rfl (by first | assumption | kernel_rfl) rfl (by first | exact size_ok a h1 h2 | exact figures_ok a.natAbs (by omega)) (by simp) (by simp) ?_; simp -implicitDefEqProofs (maxSteps := 1000000) [hs])
    | (refine yl_pure rfl rfl rfl (by first | assumption | kernel_rfl) rfl (by first | exact size_ok a h1 h2 | exact figures_ok a.natAbs (by omega)) (by simp) (by simp) ?_; simp -implicitDefEqProofs (maxSteps := 1000000) [hs])
    | (refine aw_cond rfl (fun h => ?_) (fun h => ?_) <;> try (with_reducible first | exact ff_tt h | exact tt_ff h))
    | (refine aw_skip ?_; simp -implicitDefEqProofs (maxSteps := 1000000) [hs])
    | refine aw_block ?_
    | (refine aw_exit ?_; simp -implicitDefEqProofs (maxSteps := 1000000) [hs])
    | refine aw_ret (ret_of (.inr rfl) (by simp [Tryd.results47]; rfl) (Fin.of ?_)))
  · have : a < 0 := by simpa using h
    simp [tupOf, textI, this]
  · have : ¬ a < 0 := by simpa using h
    simp [tupOf, textI, this]
end Go.AL
