/- Parts of the proof of LexerBlanks: the logic, contracts, plain laws. -/
import Derived.Test.YtfpjojjgoelckaaDoorZLexerBlanks8
import Derived.Test.YtfpjojjgoelckaaDoorZLexerBlanks18
/-! Contracts: lexer.name. -/
namespace Go.AL
open Go.Proofs
set_option linter.unusedSimpArgs false
set_option linter.unusedVariables false
def nameR (c : Int) : Bool := letR c || figR c
theorem nameR_hi : ∀ c : Int, 128 ≤ c → nameR c = false := fun c h => by simp [nameR, letR_hi c h, figR_hi c h]
set_option maxRecDepth 100000 in
theorem name1_ok (c : Int) : APure Tryd.prog 34 [vr c] (vb (nameR c)) := by
  refine apure_of Tryd.func34 Tryd.ntmps34 rfl ?_
  simp only [List.length_cons, List.length_nil, List.cons_append, List.nil_append, List.replicate]
  repeat' (first
    | refine aw_seq ?_
    | (refine aw_run [] ?_; simp -implicitDefEqProofs (maxSteps := 1000000))
    | (refine aw_ymix [] draws (by decide +kernel) ?_; simp -implicitDefEqProofs (maxSteps := 1000000))
    | (refine aw_yrun draws (by kernel_rfl) ?_; simp -implicitDefEqProofs (maxSteps := 1000000))
    | (refine awl_skip' [] rfl ?_; simp -implicitDefEqProofs (maxSteps := 1000000))
    | (refine awl_pure_guard [] rfl rfl rfl (by first | assumption | kernel_rfl) rfl (fun hc => by first | exact letter_ok _ | exact figure_ok _) (by simp) (by simp) (by simp) ?_; simp -implicitDefEqProofs (maxSteps := 1000000))
    | (refine yl_pureG rfl rfl rfl (by first | assumption | kernel_rfl) rfl (fun hc => by first | exact letter_ok _ | exact figure_ok _) (by simp) (by simp) (by simp) ?_; simp -implicitDefEqProofs (maxSteps := 1000000))
    | (refine awl_pure' [] rfl rfl rfl (by first | assumption | kernel_rfl) rfl (by first | exact letter_ok _ | exact figure_ok _) (by simp) (by simp) ?_; simp -implicitDefEqProofs (maxSteps := 1000000))
    | (refine yl_pure rfl rfl rfl (by first | assumption | kernel_rfl) rfl (by first | exact letter_ok _ | exact figure_ok _) (by simp) (by simp) ?_; simp -implicitDefEqProofs (maxSteps := 1000000))
    | (refine aw_cond rfl (fun h => ?_) (fun h => ?_) <;> try (with_reducible first | exact ff_tt h | exact tt_ff h))
    | (refine aw_skip ?_; simp -implicitDefEqProofs (maxSteps := 1000000))
    | refine aw_block ?_
    | (refine aw_exit ?_; simp -implicitDefEqProofs (maxSteps := 1000000))
    | refine aw_ret (ret_of (.inr rfl) (by simp [Tryd.results34]; rfl) (Fin.of ?_)))
  rfl
def isWord (t : ByteArray) : Prop := t = ⟨#[73, 70]⟩ ∨ t = ⟨#[83, 85, 77]⟩ ∨ t = ⟨#[77, 73, 78]⟩ ∨ t = ⟨#[77, 65, 88]⟩ ∨ t = ⟨#[67, 79, 85, 78, 84]⟩
set_option maxHeartbeats 4000000 in
set_option maxRecDepth 100000 in
theorem name_word (s : ByteArray) (hs : s.size ≤ 281474976710656) (hw : isWord (leadS nameR s)) : APure Tryd.prog 20 [vs s] (.tup [token 4 0 0 0 (leadS nameR s) 0, vi (leadL nameR s : Nat)]) := by
  have hl := lead_ok 34 nameR (by kernel_rfl) name1_ok nameR_hi s (by omega)
  have hle := leadL_le nameR s
  have hn : (0 : Int) ≤ (leadL nameR s : Nat) := by omega
  rcases hw with h | h | h | h | h
  all_goals
    have hq := h
    unfold leadS at hq
    rw [h]
    refine apure_of Tryd.func20 Tryd.ntmps20 rfl ?_
    simp only [List.length_cons, List.length_nil, List.cons_append, List.nil_append, List.replicate]
    repeat' (first
      | refine aw_seq ?_
      | (refine aw_run [2, 5] ?_; simp -implicitDefEqProofs (maxSteps := 1000000) [hle, hn, hq])
      | (refine aw_ymix [2, 5] draws (by decide +kernel) ?_; simp -implicitDefEqProofs (maxSteps := 1000000) [hle, hn, hq])
      | (refine aw_yrun draws (by kernel_rfl) ?_; simp -implicitDefEqProofs (maxSteps := 1000000) [hle, hn, hq])
      | (refine awl_skip' [2, 5] rfl ?_; simp -implicitDefEqProofs (maxSteps := 1000000) [hle, hn, hq])
      | (refine awl_pure_guard [2, 5] rfl rfl rfl (by first | assumption | kernel_rfl) rfl (fun hc => by first | exact hl) (by simp) (by simp) (by simp) ?_; simp -implicitDefEqProofs (maxSteps := 1000000) [hle, hn, hq])
      | (refine yl_pureG rfl rfl rfl (by first | assumption | kernel_rfl) rfl (fun hc => by first | exact hl) (by simp) (by simp) (by simp) ?_; simp -implicitDefEqProofs (maxSteps := 1000000) [hle, hn, hq])
      | (refine awl_pure' [2, 5] rfl rfl rfl (by first | assumption | kernel_rfl) rfl (by first | exact hl) (by simp) (by simp) ?_; simp -implicitDefEqProofs (maxSteps := 1000000) [hle, hn, hq])
      | (refine yl_pure rfl rfl rfl (by first | assumption | kernel_rfl) rfl (by first | exact hl) (by simp) (by simp) ?_; simp -implicitDefEqProofs (maxSteps := 1000000) [hle, hn, hq])
      | (refine aw_cond rfl (fun h => ?_) (fun h => ?_) <;> try (with_reducible first | exact ff_tt h | exact tt_ff h))
      | (refine aw_skip ?_; simp -implicitDefEqProofs (maxSteps := 1000000) [hle, hn, hq])
      | refine aw_block ?_
      | (refine aw_exit ?_; simp -implicitDefEqProofs (maxSteps := 1000000) [hle, hn, hq])
      | refine aw_ret (ret_of (.inr rfl) (by simp [Tryd.results20]; rfl) (Fin.of ?_)))
    rfl
set_option maxHeartbeats 4000000 in
set_option maxRecDepth 100000 in
theorem name_place (s : ByteArray) (hs : s.size ≤ 281474976710656) (hw : ¬ isWord (leadS nameR s)) (c r e : Int) (hp : APure Tryd.prog 35 [vs (leadS nameR s)] (.tup [place c r, vi e])) :
    APure Tryd.prog 20 [vs s] (.tup [token (if e = 0 then 2 else if e = 4 then 3 else 0) 0 (if e = 0 then c else 0) (if e = 0 then r else 0) ⟨#[]⟩ 0, vi (if e = 0 ∨ e = 4 then (leadL nameR s : Nat) else 0)]) := by
  have hl := lead_ok 34 nameR (by kernel_rfl) name1_ok nameR_hi s (by omega)
  have hle := leadL_le nameR s
  have hn : (0 : Int) ≤ (leadL nameR s : Nat) := by omega
  unfold isWord at hw
  simp only [not_or] at hw
  obtain ⟨w1, w2, w3, w4, w5⟩ := hw
  unfold leadS at w1 w2 w3 w4 w5 hp
  by_cases e0 : e = 0
  · subst e0
    refine apure_of Tryd.func20 Tryd.ntmps20 rfl ?_
    simp only [List.length_cons, List.length_nil, List.cons_append, List.nil_append, List.replicate]
    repeat' (first
      | refine aw_seq ?_
      | (refine aw_run [2, 5] ?_; simp -implicitDefEqProofs (maxSteps := 1000000) [hle, hn, w1, w2, w3, w4, w5])
      | (refine aw_ymix [2, 5] draws (by decide +kernel) ?_; simp -implicitDefEqProofs (maxSteps := 1000000) [hle, hn, w1, w2, w3, w4, w5])
      | (refine aw_yrun draws (by kernel_rfl) ?_; simp -implicitDefEqProofs (maxSteps := 1000000) [hle, hn, w1, w2, w3, w4, w5])
      | (refine awl_skip' [2, 5] rfl ?_; simp -implicitDefEqProofs (maxSteps := 1000000) [hle, hn, w1, w2, w3, w4, w5])
      | (refine awl_pure_guard [2, 5] rfl rfl rfl (by first | assumption | kernel_rfl) rfl (fun hc => by first | exact hl | exact hp) (by simp) (by simp) (by simp) ?_; simp -implicitDefEqProofs (maxSteps := 1000000) [hle, hn, w1, w2, w3, w4, w5])
      | (refine yl_pureG rfl rfl rfl (by first | assumption | kernel_rfl) rfl (fun hc => by first | exact hl | exact hp) (by simp) (by simp) (by simp) ?_; simp -implicitDefEqProofs (maxSteps := 1000000) [hle, hn, w1, w2, w3, w4, w5])
      | (refine awl_pure' [2, 5] rfl rfl rfl (by first | assumption | kernel_rfl) rfl (by first | exact hl | exact hp) (by simp) (by simp) ?_; simp -implicitDefEqProofs (maxSteps := 1000000) [hle, hn, w1, w2, w3, w4, w5])
      | (refine yl_pure rfl rfl rfl (by first | assumption | kernel_rfl) rfl (by first | exact hl | exact hp) (by simp) (by simp) ?_; simp -implicitDefEqProofs (maxSteps := 1000000) [hle, hn, w1, w2, w3, w4, w5])
      | (refine aw_cond rfl (fun h => ?_) (fun h => ?_) <;> try (with_reducible first | exact ff_tt h | exact tt_ff h))
      | (refine aw_skip ?_; simp -implicitDefEqProofs (maxSteps := 1000000) [hle, hn, w1, w2, w3, w4, w5])
      | refine aw_block ?_
      | (refine aw_exit ?_; simp -implicitDefEqProofs (maxSteps := 1000000) [hle, hn, w1, w2, w3, w4, w5])
      | refine aw_ret (ret_of (.inr rfl) (by simp [Tryd.results20]; rfl) (Fin.of ?_)))
    all_goals simp [tupOf]
  by_cases e4 : e = 4
  · subst e4
    refine apure_of Tryd.func20 Tryd.ntmps20 rfl ?_
    simp only [List.length_cons, List.length_nil, List.cons_append, List.nil_append, List.replicate]
    repeat' (first
      | refine aw_seq ?_
      | (refine aw_run [2, 5] ?_; simp -implicitDefEqProofs (maxSteps := 1000000) [hle, hn, w1, w2, w3, w4, w5])
      | (refine aw_ymix [2, 5] draws (by decide +kernel) ?_; simp -implicitDefEqProofs (maxSteps := 1000000) [hle, hn, w1, w2, w3, w4, w5])
      | (refine aw_yrun draws (by kernel_rfl) ?_; simp -implicitDefEqProofs (maxSteps := 1000000) [hle, hn, w1, w2, w3, w4, w5])
      | (refine awl_skip' [2, 5] rfl ?_; simp -implicitDefEqProofs (maxSteps := 1000000) [hle, hn, w1, w2, w3, w4, w5])
      | (refine awl_pure_guard [2, 5] rfl rfl rfl (by first | assumption | kernel_rfl) rfl (fun hc => by first | exact hl | exact hp) (by simp) (by simp) (by simp) ?_; simp -implicitDefEqProofs (maxSteps := 1000000) [hle, hn, w1, w2, w3, w4, w5])
      | (refine yl_pureG rfl rfl rfl (by first | assumption | kernel_rfl) rfl (fun hc => by first | exact hl | exact hp) (by simp) (by simp) (by simp) ?_; simp -implicitDefEqProofs (maxSteps := 1000000) [hle, hn, w1, w2, w3, w4, w5])
      | (refine awl_pure' [2, 5] rfl rfl rfl (by first | assumption | kernel_rfl) rfl (by first | exact hl | exact hp) (by simp) (by simp) ?_; simp -implicitDefEqProofs (maxSteps := 1000000) [hle, hn, w1, w2, w3, w4, w5])
      | (refine yl_pure rfl rfl rfl (by first | assumption | kernel_rfl) rfl (by first | exact hl | exact hp) (by simp) (by simp) ?_; simp -implicitDefEqProofs (maxSteps := 1000000) [hle, hn, w1, w2, w3, w4, w5])
      | (refine aw_cond rfl (fun h => ?_) (fun h => ?_) <;> try (with_reducible first | exact ff_tt h | exact tt_ff h))
      | (refine aw_skip ?_; simp -implicitDefEqProofs (maxSteps := 1000000) [hle, hn, w1, w2, w3, w4, w5])
      | refine aw_block ?_
      | (refine aw_exit ?_; simp -implicitDefEqProofs (maxSteps := 1000000) [hle, hn, w1, w2, w3, w4, w5])
      | refine aw_ret (ret_of (.inr rfl) (by simp [Tryd.results20]; rfl) (Fin.of ?_)))
    all_goals simp [tupOf]
  · refine apure_of Tryd.func20 Tryd.ntmps20 rfl ?_
    simp only [List.length_cons, List.length_nil, List.cons_append, List.nil_append, List.replicate]
    repeat' (first
      | refine aw_seq ?_
      | (refine aw_run [2, 5] ?_; simp -implicitDefEqProofs (maxSteps := 1000000) [hle, hn, w1, w2, w3, w4, w5, e0, e4])
      | (refine aw_ymix [2, 5] draws (by decide +kernel) ?_; simp -implicitDefEqProofs (maxSteps := 1000000) [hle, hn, w1, w2, w3, w4, w5, e0, e4])
      | (refine aw_yrun draws (by kernel_rfl) ?_; simp -implicitDefEqProofs (maxSteps := 1000000) [hle, hn, w1, w2, w3, w4, w5, e0, e4])
      | (refine awl_skip' [2, 5] rfl ?_; simp -implicitDefEqProofs (maxSteps := 1000000) [hle, hn, w1, w2, w3, w4, w5, e0, e4])
      | (refine awl_pure_guard [2, 5] rfl rfl rfl (by first | assumption | kernel_rfl) rfl (fun hc => by first | exact hl | exact hp) (by simp) (by simp) (by simp) ?_; simp -implicitDefEqProofs (maxSteps := 1000000) [hle, hn, w1, w2, w3, w4, w5, e0, e4])
      | (refine yl_pureG rfl rfl rfl (by first | assumption | kernel_rfl) rfl (fun hc => by first | exact hl | exact hp) (by simp) (by simp) (by simp) ?_; simp -implicitDefEqProofs (maxSteps := 1000000) [hle, hn, w1, w2, w3, w4, w5, e0, e4])
      | (refine awl_pure' [2, 5] rfl rfl rfl (by first | assumption | kernel_rfl) rfl (by first | exact hl | exact hp) (by simp) (by simp) ?_; simp -implicitDefEqProofs (maxSteps := 1000000) [hle, hn, w1, w2, w3, w4, w5, e0, e4])
      | (refine yl_pure rfl rfl rfl (by first | assumption | kernel_rfl) rfl (by first | exact hl | exact hp) (by simp) (by simp) ?_; simp -implicitDefEqProofs (maxSteps := 1000000) [hle, hn, w1, w2, w3, w4, w5, e0, e4])
      | (refine aw_cond rfl (fun h => ?_) (fun h => ?_) <;> try (with_reducible first | exact ff_tt h | exact tt_ff h))
      | (refine aw_skip ?_; simp -implicitDefEqProofs (maxSteps := 1000000) [hle, hn, w1, w2, w3, w4, w5, e0, e4])
      | refine aw_block ?_
      | (refine aw_exit ?_; simp -implicitDefEqProofs (maxSteps := 1000000) [hle, hn, w1, w2, w3, w4, w5, e0, e4])
      | refine aw_ret (ret_of (.inr rfl) (by simp [Tryd.results20]; rfl) (Fin.of ?_)))
    all_goals simp [tupOf, e0, e4]
end Go.AL
