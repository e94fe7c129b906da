/- Parts of the proof of LexerBlanks: the logic, contracts, plain laws. -/
import Derived.Test.YtfpjojjgoelckaaDoorZLexerBlanks5
import Derived.Test.YtfpjojjgoelckaaDoorZLexerBlanks7
/-! Contracts: lexer.number, mark. -/
namespace Go.AL
open Go.Proofs
set_option linter.unusedSimpArgs false
set_option linter.unusedVariables false
abbrev token (k n c r : Int) (t : ByteArray) (f : Int) : AV := .agg [vi k, vi n, vi c, vi r, vs t, vi f]
/-- The leading figures. -/
def leadS (p : Int → Bool) (s : ByteArray) : ByteArray := s.extract 0 (leadL p s)
theorem leadL_le (p : Int → Bool) (s : ByteArray) : leadL p s ≤ s.size := by
  unfold leadL
  have h1 := (List.takeWhile_sublist (l := s.data.toList) (fun b : UInt8 => p b.toNat)).length_le
  rw [Array.length_toList] at h1
  exact h1
theorem figR_hi : ∀ c : Int, 128 ≤ c → figR c = false := fun c h => by simp [figR]; omega
theorem letR_hi : ∀ c : Int, 128 ≤ c → letR c = false := fun c h => by simp [letR]; omega
set_option maxRecDepth 100000 in
theorem number_yes (s : ByteArray) (hs : s.size ≤ 281474976710656) (v : Int) (hv : Lib.atoiAll (leadS figR s).data.toList = .ok v) : APure Tryd.prog 18 [vs s] (.tup [token 1 v 0 0 ⟨#[]⟩ 0, vi (leadL figR s : Nat)]) := by
  have hl := lead_ok 17 figR (by kernel_rfl) figure_ok figR_hi s (by omega)
  have hle := leadL_le figR s
  have hz : (leadS figR s).size ≤ 281474976710656 := by unfold leadS; rw [ByteArray.size_extract]; omega
  have ha := atoi_ok (leadS figR s) hz v hv
  have hn : (0 : Int) ≤ (leadL figR s : Nat) := by omega
  unfold leadS at ha
  refine apure_of Tryd.func18 Tryd.ntmps18 rfl ?_
  simp only [List.length_cons, List.length_nil, List.cons_append, List.nil_append, List.replicate]
  repeat' (first
    | refine aw_seq ?_
    | (refine aw_run [2] ?_; simp -implicitDefEqProofs (maxSteps := 1000000) [hle, hn])
    | (refine aw_ymix [2] draws (by decide +kernel) ?_; simp -implicitDefEqProofs (maxSteps := 1000000) [hle, hn])
    | (refine aw_yrun draws (by kernel_rfl) ?_; simp -implicitDefEqProofs (maxSteps := 1000000) [hle, hn])
    | (refine awl_skip' [2] rfl ?_; simp -implicitDefEqProofs (maxSteps := 1000000) [hle, hn])
    | (refine awl_pure_guard [2] rfl rfl rfl (by first | assumption | kernel_rfl) rfl (fun hc => by first | exact hl | exact ha) (by simp) (by simp) (by simp) ?_; simp -implicitDefEqProofs (maxSteps := 1000000) [hle, hn])
    | (refine yl_pureG rfl rfl rfl (by first | assumption | kernel_rfl) rfl (fun hc => by first | exact hl | exact ha) (by simp) (by simp) (by simp) ?_; simp -implicitDefEqProofs (maxSteps := 1000000) [hle, hn])
    | (refine awl_pure' [2] rfl rfl rfl (by first | assumption | kernel_rfl) rfl (by first | exact hl | exact ha) (by simp) (by simp) ?_; simp -implicitDefEqProofs (maxSteps := 1000000) [hle, hn])
    | (refine yl_pure rfl rfl rfl (by first | assumption | kernel_rfl) rfl (by first | exact hl | exact ha) (by simp) (by simp) ?_; simp -implicitDefEqProofs (maxSteps := 1000000) [hle, hn])
    | (refine aw_cond rfl (fun h => ?_) (fun h => ?_) <;> try (with_reducible first | exact ff_tt h | exact tt_ff h))
    | (refine aw_skip ?_; simp -implicitDefEqProofs (maxSteps := 1000000) [hle, hn])
    | refine aw_block ?_
    | (refine aw_exit ?_; simp -implicitDefEqProofs (maxSteps := 1000000) [hle, hn])
    | refine aw_ret (ret_of (.inr rfl) (by simp [Tryd.results18]; rfl) (Fin.of ?_)))
  rfl
set_option maxRecDepth 100000 in
theorem number_no (s : ByteArray) (hs : s.size ≤ 281474976710656) (hv : ∀ v, Lib.atoiAll (leadS figR s).data.toList ≠ .ok v) : APure Tryd.prog 18 [vs s] (.tup [token 0 0 0 0 ⟨#[]⟩ 0, vi 0]) := by
  have hl := lead_ok 17 figR (by kernel_rfl) figure_ok figR_hi s (by omega)
  have hle := leadL_le figR s
  have hz : (leadS figR s).size ≤ 281474976710656 := by unfold leadS; rw [ByteArray.size_extract]; omega
  obtain ⟨v, t, _, _, ha⟩ := atoi_no (leadS figR s) hz hv
  have hn : (0 : Int) ≤ (leadL figR s : Nat) := by omega
  unfold leadS at ha
  refine apure_of Tryd.func18 Tryd.ntmps18 rfl ?_
  simp only [List.length_cons, List.length_nil, List.cons_append, List.nil_append, List.replicate]
  repeat' (first
    | refine aw_seq ?_
    | (refine aw_run [2] ?_; simp -implicitDefEqProofs (maxSteps := 1000000) [hle, hn])
    | (refine aw_ymix [2] draws (by decide +kernel) ?_; simp -implicitDefEqProofs (maxSteps := 1000000) [hle, hn])
    | (refine aw_yrun draws (by kernel_rfl) ?_; simp -implicitDefEqProofs (maxSteps := 1000000) [hle, hn])
    | (refine awl_skip' [2] rfl ?_; simp -implicitDefEqProofs (maxSteps := 1000000) [hle, hn])
    | (refine awl_pure_guard [2] rfl rfl rfl (by first | assumption | kernel_rfl) rfl (fun hc => by first | exact hl | exact ha) (by simp) (by simp) (by simp) ?_; simp -implicitDefEqProofs (maxSteps := 1000000) [hle, hn])
    | (refine yl_pureG rfl rfl rfl (by first | assumption | kernel_rfl) rfl (fun hc => by first | exact hl | exact ha) (by simp) (by simp) (by simp) ?_; simp -implicitDefEqProofs (maxSteps := 1000000) [hle, hn])
    | (refine awl_pure' [2] rfl rfl rfl (by first | assumption | kernel_rfl) rfl (by first | exact hl | exact ha) (by simp) (by simp) ?_; simp -implicitDefEqProofs (maxSteps := 1000000) [hle, hn])
    | (refine yl_pure rfl rfl rfl (by first | assumption | kernel_rfl) rfl (by first | exact hl | exact ha) (by simp) (by simp) ?_; simp -implicitDefEqProofs (maxSteps := 1000000) [hle, hn])
    | (refine aw_cond rfl (fun h => ?_) (fun h => ?_) <;> try (with_reducible first | exact ff_tt h | exact tt_ff h))
    | (refine aw_skip ?_; simp -implicitDefEqProofs (maxSteps := 1000000) [hle, hn])
    | refine aw_block ?_
    | (refine aw_exit ?_; simp -implicitDefEqProofs (maxSteps := 1000000) [hle, hn])
    | refine aw_ret (ret_of (.inr rfl) (by simp [Tryd.results18]; rfl) (Fin.of ?_)))
  rfl
/-- How long the mark is with which a text begins. -/
def markN : List UInt8 → Nat
  | [] => 0
  | b :: l => if b = 60 then (if hasPre ⟨⟨b :: l⟩⟩ ⟨#[60, 62]⟩ = true ∨ hasPre ⟨⟨l⟩⟩ ⟨#[61]⟩ = true then 2 else 1) else if b = 62 then (if hasPre ⟨⟨l⟩⟩ ⟨#[61]⟩ = true then 2 else 1)
    else if b = 43 ∨ b = 45 ∨ b = 42 ∨ b = 47 ∨ b = 40 ∨ b = 41 ∨ b = 44 ∨ b = 58 ∨ b = 61 then 1 else 0
set_option maxHeartbeats 4000000 in
set_option maxRecDepth 100000 in
theorem mark_ok (b : UInt8) (l : List UInt8) (hs : l.length + 1 ≤ 281474976710656) : APure Tryd.prog 22 [vs ⟨⟨b :: l⟩⟩]
    (.tup [token (if markN (b :: l) = 0 then 0 else 5) 0 0 0 ((⟨⟨b :: l⟩⟩ : ByteArray).extract 0 (markN (b :: l))) 0, vi (markN (b :: l) : Nat)]) := by
  by_cases h0 : b = 43
  · subst h0
    have hx : ∀ n : Nat, markN (43 :: l) = 1 := fun _ => by simp [markN]
    have hp1 : 1 ≤ l.length + 1 := by omega
    have hl1 : (1 : Int) ≤ (l.length : Int) + 1 := by omega
    refine apure_of Tryd.func22 Tryd.ntmps22 rfl ?_
    simp only [List.length_cons, List.length_nil, List.cons_append, List.nil_append, List.replicate]
    repeat' (first
      | refine aw_seq ?_
      | (refine aw_run [2] ?_; simp -implicitDefEqProofs (maxSteps := 1000000) [bsizeL, hp1, hl1])
      | (refine aw_ymix [2] draws (by decide +kernel) ?_; simp -implicitDefEqProofs (maxSteps := 1000000) [bsizeL, hp1, hl1])
      | (refine aw_yrun draws (by kernel_rfl) ?_; simp -implicitDefEqProofs (maxSteps := 1000000) [bsizeL, hp1, hl1])
      | (refine awl_skip' [2] rfl ?_; simp -implicitDefEqProofs (maxSteps := 1000000) [bsizeL, hp1, hl1])
      | (refine aw_cond rfl (fun h => ?_) (fun h => ?_) <;> try (with_reducible first | exact ff_tt h | exact tt_ff h))
      | (refine aw_skip ?_; simp -implicitDefEqProofs (maxSteps := 1000000) [bsizeL, hp1, hl1])
      | refine aw_block ?_
      | (refine aw_exit ?_; simp -implicitDefEqProofs (maxSteps := 1000000) [bsizeL, hp1, hl1])
      | refine aw_ret (ret_of (.inr rfl) (by simp [Tryd.results22]; rfl) (Fin.of ?_)))
    rw [hx 0]
    rfl
  by_cases h1 : b = 45
  · subst h1
    have hx : ∀ n : Nat, markN (45 :: l) = 1 := fun _ => by simp [markN]
    have hp1 : 1 ≤ l.length + 1 := by omega
    have hl1 : (1 : Int) ≤ (l.length : Int) + 1 := by omega
    refine apure_of Tryd.func22 Tryd.ntmps22 rfl ?_
    simp only [List.length_cons, List.length_nil, List.cons_append, List.nil_append, List.replicate]
    repeat' (first
      | refine aw_seq ?_
      | (refine aw_run [2] ?_; simp -implicitDefEqProofs (maxSteps := 1000000) [bsizeL, hp1, hl1])
      | (refine aw_ymix [2] draws (by decide +kernel) ?_; simp -implicitDefEqProofs (maxSteps := 1000000) [bsizeL, hp1, hl1])
      | (refine aw_yrun draws (by kernel_rfl) ?_; simp -implicitDefEqProofs (maxSteps := 1000000) [bsizeL, hp1, hl1])
      | (refine awl_skip' [2] rfl ?_; simp -implicitDefEqProofs (maxSteps := 1000000) [bsizeL, hp1, hl1])
      | (refine aw_cond rfl (fun h => ?_) (fun h => ?_) <;> try (with_reducible first | exact ff_tt h | exact tt_ff h))
      | (refine aw_skip ?_; simp -implicitDefEqProofs (maxSteps := 1000000) [bsizeL, hp1, hl1])
      | refine aw_block ?_
      | (refine aw_exit ?_; simp -implicitDefEqProofs (maxSteps := 1000000) [bsizeL, hp1, hl1])
      | refine aw_ret (ret_of (.inr rfl) (by simp [Tryd.results22]; rfl) (Fin.of ?_)))
    rw [hx 0]
    rfl
  by_cases h2 : b = 42
  · subst h2
    have hx : ∀ n : Nat, markN (42 :: l) = 1 := fun _ => by simp [markN]
    have hp1 : 1 ≤ l.length + 1 := by omega
    have hl1 : (1 : Int) ≤ (l.length : Int) + 1 := by omega
    refine apure_of Tryd.func22 Tryd.ntmps22 rfl ?_
    simp only [List.length_cons, List.length_nil, List.cons_append, List.nil_append, List.replicate]
    repeat' (first
      | refine aw_seq ?_
      | (refine aw_run [2] ?_; simp -implicitDefEqProofs (maxSteps := 1000000) [bsizeL, hp1, hl1])
      | (refine aw_ymix [2] draws (by decide +kernel) ?_; simp -implicitDefEqProofs (maxSteps := 1000000) [bsizeL, hp1, hl1])
      | (refine aw_yrun draws (by kernel_rfl) ?_; simp -implicitDefEqProofs (maxSteps := 1000000) [bsizeL, hp1, hl1])
      | (refine awl_skip' [2] rfl ?_; simp -implicitDefEqProofs (maxSteps := 1000000) [bsizeL, hp1, hl1])
      | (refine aw_cond rfl (fun h => ?_) (fun h => ?_) <;> try (with_reducible first | exact ff_tt h | exact tt_ff h))
      | (refine aw_skip ?_; simp -implicitDefEqProofs (maxSteps := 1000000) [bsizeL, hp1, hl1])
      | refine aw_block ?_
      | (refine aw_exit ?_; simp -implicitDefEqProofs (maxSteps := 1000000) [bsizeL, hp1, hl1])
      | refine aw_ret (ret_of (.inr rfl) (by simp [Tryd.results22]; rfl) (Fin.of ?_)))
    rw [hx 0]
    rfl
  by_cases h3 : b = 47
  · subst h3
    have hx : ∀ n : Nat, markN (47 :: l) = 1 := fun _ => by simp [markN]
    have hp1 : 1 ≤ l.length + 1 := by omega
    have hl1 : (1 : Int) ≤ (l.length : Int) + 1 := by omega
    refine apure_of Tryd.func22 Tryd.ntmps22 rfl ?_
    simp only [List.length_cons, List.length_nil, List.cons_append, List.nil_append, List.replicate]
    repeat' (first
      | refine aw_seq ?_
      | (refine aw_run [2] ?_; simp -implicitDefEqProofs (maxSteps := 1000000) [bsizeL, hp1, hl1])
      | (refine aw_ymix [2] draws (by decide +kernel) ?_; simp -implicitDefEqProofs (maxSteps := 1000000) [bsizeL, hp1, hl1])
      | (refine aw_yrun draws (by kernel_rfl) ?_; simp -implicitDefEqProofs (maxSteps := 1000000) [bsizeL, hp1, hl1])
      | (refine awl_skip' [2] rfl ?_; simp -implicitDefEqProofs (maxSteps := 1000000) [bsizeL, hp1, hl1])
      | (refine aw_cond rfl (fun h => ?_) (fun h => ?_) <;> try (with_reducible first | exact ff_tt h | exact tt_ff h))
      | (refine aw_skip ?_; simp -implicitDefEqProofs (maxSteps := 1000000) [bsizeL, hp1, hl1])
      | refine aw_block ?_
      | (refine aw_exit ?_; simp -implicitDefEqProofs (maxSteps := 1000000) [bsizeL, hp1, hl1])
      | refine aw_ret (ret_of (.inr rfl) (by simp [Tryd.results22]; rfl) (Fin.of ?_)))
    rw [hx 0]
    rfl
  by_cases h4 : b = 40
  · subst h4
    have hx : ∀ n : Nat, markN (40 :: l) = 1 := fun _ => by simp [markN]
    have hp1 : 1 ≤ l.length + 1 := by omega
    have hl1 : (1 : Int) ≤ (l.length : Int) + 1 := by omega
    refine apure_of Tryd.func22 Tryd.ntmps22 rfl ?_
    simp only [List.length_cons, List.length_nil, List.cons_append, List.nil_append, List.replicate]
    repeat' (first
      | refine aw_seq ?_
      | (refine aw_run [2] ?_; simp -implicitDefEqProofs (maxSteps := 1000000) [bsizeL, hp1, hl1])
      | (refine aw_ymix [2] draws (by decide +kernel) ?_; simp -implicitDefEqProofs (maxSteps := 1000000) [bsizeL, hp1, hl1])
      | (refine aw_yrun draws (by kernel_rfl) ?_; simp -implicitDefEqProofs (maxSteps := 1000000) [bsizeL, hp1, hl1])
      | (refine awl_skip' [2] rfl ?_; simp -implicitDefEqProofs (maxSteps := 1000000) [bsizeL, hp1, hl1])
      | (refine aw_cond rfl (fun h => ?_) (fun h => ?_) <;> try (with_reducible first | exact ff_tt h | exact tt_ff h))
      | (refine aw_skip ?_; simp -implicitDefEqProofs (maxSteps := 1000000) [bsizeL, hp1, hl1])
      | refine aw_block ?_
      | (refine aw_exit ?_; simp -implicitDefEqProofs (maxSteps := 1000000) [bsizeL, hp1, hl1])
      | refine aw_ret (ret_of (.inr rfl) (by simp [Tryd.results22]; rfl) (Fin.of ?_)))
    rw [hx 0]
    rfl
  by_cases h5 : b = 41
  · subst h5
    have hx : ∀ n : Nat, markN (41 :: l) = 1 := fun _ => by simp [markN]
    have hp1 : 1 ≤ l.length + 1 := by omega
    have hl1 : (1 : Int) ≤ (l.length : Int) + 1 := by omega
    refine apure_of Tryd.func22 Tryd.ntmps22 rfl ?_
    simp only [List.length_cons, List.length_nil, List.cons_append, List.nil_append, List.replicate]
    repeat' (first
      | refine aw_seq ?_
      | (refine aw_run [2] ?_; simp -implicitDefEqProofs (maxSteps := 1000000) [bsizeL, hp1, hl1])
      | (refine aw_ymix [2] draws (by decide +kernel) ?_; simp -implicitDefEqProofs (maxSteps := 1000000) [bsizeL, hp1, hl1])
      | (refine aw_yrun draws (by kernel_rfl) ?_; simp -implicitDefEqProofs (maxSteps := 1000000) [bsizeL, hp1, hl1])
      | (refine awl_skip' [2] rfl ?_; simp -implicitDefEqProofs (maxSteps := 1000000) [bsizeL, hp1, hl1])
      | (refine aw_cond rfl (fun h => ?_) (fun h => ?_) <;> try (with_reducible first | exact ff_tt h | exact tt_ff h))
      | (refine aw_skip ?_; simp -implicitDefEqProofs (maxSteps := 1000000) [bsizeL, hp1, hl1])
      | refine aw_block ?_
      | (refine aw_exit ?_; simp -implicitDefEqProofs (maxSteps := 1000000) [bsizeL, hp1, hl1])
      | refine aw_ret (ret_of (.inr rfl) (by simp [Tryd.results22]; rfl) (Fin.of ?_)))
    rw [hx 0]
    rfl
  by_cases h6 : b = 44
  · subst h6
    have hx : ∀ n : Nat, markN (44 :: l) = 1 := fun _ => by simp [markN]
    have hp1 : 1 ≤ l.length + 1 := by omega
    have hl1 : (1 : Int) ≤ (l.length : Int) + 1 := by omega
    refine apure_of Tryd.func22 Tryd.ntmps22 rfl ?_
    simp only [List.length_cons, List.length_nil, List.cons_append, List.nil_append, List.replicate]
    repeat' (first
      | refine aw_seq ?_
      | (refine aw_run [2] ?_; simp -implicitDefEqProofs (maxSteps := 1000000) [bsizeL, hp1, hl1])
      | (refine aw_ymix [2] draws (by decide +kernel) ?_; simp -implicitDefEqProofs (maxSteps := 1000000) [bsizeL, hp1, hl1])
      | (refine aw_yrun draws (by kernel_rfl) ?_; simp -implicitDefEqProofs (maxSteps := 1000000) [bsizeL, hp1, hl1])
      | (refine awl_skip' [2] rfl ?_; simp -implicitDefEqProofs (maxSteps := 1000000) [bsizeL, hp1, hl1])
      | (refine aw_cond rfl (fun h => ?_) (fun h => ?_) <;> try (with_reducible first | exact ff_tt h | exact tt_ff h))
      | (refine aw_skip ?_; simp -implicitDefEqProofs (maxSteps := 1000000) [bsizeL, hp1, hl1])
      | refine aw_block ?_
      | (refine aw_exit ?_; simp -implicitDefEqProofs (maxSteps := 1000000) [bsizeL, hp1, hl1])
      | refine aw_ret (ret_of (.inr rfl) (by simp [Tryd.results22]; rfl) (Fin.of ?_)))
    rw [hx 0]
    rfl
  by_cases h7 : b = 58
  · subst h7
    have hx : ∀ n : Nat, markN (58 :: l) = 1 := fun _ => by simp [markN]
    have hp1 : 1 ≤ l.length + 1 := by omega
    have hl1 : (1 : Int) ≤ (l.length : Int) + 1 := by omega
    refine apure_of Tryd.func22 Tryd.ntmps22 rfl ?_
    simp only [List.length_cons, List.length_nil, List.cons_append, List.nil_append, List.replicate]
    repeat' (first
      | refine aw_seq ?_
      | (refine aw_run [2] ?_; simp -implicitDefEqProofs (maxSteps := 1000000) [bsizeL, hp1, hl1])
      | (refine aw_ymix [2] draws (by decide +kernel) ?_; simp -implicitDefEqProofs (maxSteps := 1000000) [bsizeL, hp1, hl1])
      | (refine aw_yrun draws (by kernel_rfl) ?_; simp -implicitDefEqProofs (maxSteps := 1000000) [bsizeL, hp1, hl1])
      | (refine awl_skip' [2] rfl ?_; simp -implicitDefEqProofs (maxSteps := 1000000) [bsizeL, hp1, hl1])
      | (refine aw_cond rfl (fun h => ?_) (fun h => ?_) <;> try (with_reducible first | exact ff_tt h | exact tt_ff h))
      | (refine aw_skip ?_; simp -implicitDefEqProofs (maxSteps := 1000000) [bsizeL, hp1, hl1])
      | refine aw_block ?_
      | (refine aw_exit ?_; simp -implicitDefEqProofs (maxSteps := 1000000) [bsizeL, hp1, hl1])
      | refine aw_ret (ret_of (.inr rfl) (by simp [Tryd.results22]; rfl) (Fin.of ?_)))
    rw [hx 0]
    rfl
  by_cases h8 : b = 61
  · subst h8
    have hx : ∀ n : Nat, markN (61 :: l) = 1 := fun _ => by simp [markN]
    have hp1 : 1 ≤ l.length + 1 := by omega
    have hl1 : (1 : Int) ≤ (l.length : Int) + 1 := by omega
    refine apure_of Tryd.func22 Tryd.ntmps22 rfl ?_
    simp only [List.length_cons, List.length_nil, List.cons_append, List.nil_append, List.replicate]
    repeat' (first
      | refine aw_seq ?_
      | (refine aw_run [2] ?_; simp -implicitDefEqProofs (maxSteps := 1000000) [bsizeL, hp1, hl1])
      | (refine aw_ymix [2] draws (by decide +kernel) ?_; simp -implicitDefEqProofs (maxSteps := 1000000) [bsizeL, hp1, hl1])
      | (refine aw_yrun draws (by kernel_rfl) ?_; simp -implicitDefEqProofs (maxSteps := 1000000) [bsizeL, hp1, hl1])
      | (refine awl_skip' [2] rfl ?_; simp -implicitDefEqProofs (maxSteps := 1000000) [bsizeL, hp1, hl1])
      | (refine aw_cond rfl (fun h => ?_) (fun h => ?_) <;> try (with_reducible first | exact ff_tt h | exact tt_ff h))
      | (refine aw_skip ?_; simp -implicitDefEqProofs (maxSteps := 1000000) [bsizeL, hp1, hl1])
      | refine aw_block ?_
      | (refine aw_exit ?_; simp -implicitDefEqProofs (maxSteps := 1000000) [bsizeL, hp1, hl1])
      | refine aw_ret (ret_of (.inr rfl) (by simp [Tryd.results22]; rfl) (Fin.of ?_)))
    rw [hx 0]
    rfl
  have hex : ∀ x : UInt8, (⟨⟨x :: l⟩⟩ : ByteArray).extract 1 (l.length + 1) = ⟨⟨l⟩⟩ := fun x => bext x l
  have hp1 : 1 ≤ l.length + 1 := by omega
  have hl1 : (1 : Int) ≤ (l.length : Int) + 1 := by omega
  have len1 : hasPre ⟨⟨l⟩⟩ ⟨#[61]⟩ = true → 2 ≤ l.length + 1 := fun h => by
    simp only [hasPre, Bool.and_eq_true, decide_eq_true_eq] at h
    have := h.1
    simp [bsizeL] at this
    omega
  by_cases hlt : b = 60
  · subst hlt
    have len2 : hasPre ⟨⟨60 :: l⟩⟩ ⟨#[60, 62]⟩ = true → 2 ≤ l.length + 1 := fun h => by
      simp only [hasPre, Bool.and_eq_true, decide_eq_true_eq] at h
      have := h.1
      simp [bsizeL] at this
      omega
    have pa := pre_ok ⟨⟨60 :: l⟩⟩ ⟨#[60, 62]⟩ (by simp [bsizeL]; omega)
    have pb := pre_ok ⟨⟨l⟩⟩ ⟨#[61]⟩ (by simp [bsizeL]; omega)
    cases ea : hasPre ⟨⟨60 :: l⟩⟩ ⟨#[60, 62]⟩ with
    | true =>
      have h2 := len2 ea
      rw [ea] at pa
      cases eb : hasPre ⟨⟨l⟩⟩ ⟨#[61]⟩ with
      | true =>
        rw [eb] at pb
        have hm : markN (60 :: l) = 2 := by simp [markN, ea]
        refine apure_of Tryd.func22 Tryd.ntmps22 rfl ?_
        simp only [List.length_cons, List.length_nil, List.cons_append, List.nil_append, List.replicate]
        repeat' (first
          | refine aw_seq ?_
          | (refine aw_run [2] ?_; simp -implicitDefEqProofs (maxSteps := 1000000) [bsizeL, hp1, hl1, hex, h2])
          | (refine aw_ymix [2] draws (by decide +kernel) ?_; simp -implicitDefEqProofs (maxSteps := 1000000) [bsizeL, hp1, hl1, hex, h2])
          | (refine aw_yrun draws (by kernel_rfl) ?_; simp -implicitDefEqProofs (maxSteps := 1000000) [bsizeL, hp1, hl1, hex, h2])
          | (refine awl_skip' [2] rfl ?_; simp -implicitDefEqProofs (maxSteps := 1000000) [bsizeL, hp1, hl1, hex, h2])
          | (refine awl_pure_guard [2] rfl rfl rfl (by first | assumption | kernel_rfl) rfl (fun hc => by first | exact pa | exact pb) (by simp) (by simp) (by simp) ?_; simp -implicitDefEqProofs (maxSteps := 1000000) [bsizeL, hp1, hl1, hex, h2])
          | (refine yl_pureG rfl rfl rfl (by first | assumption | kernel_rfl) rfl (fun hc => by first | exact pa | exact pb) (by simp) (by simp) (by simp) ?_; simp -implicitDefEqProofs (maxSteps := 1000000) [bsizeL, hp1, hl1, hex, h2])
          | (refine awl_pure' [2] rfl rfl rfl (by first | assumption | kernel_rfl) rfl (by first | exact pa | exact pb) (by simp) (by simp) ?_; simp -implicitDefEqProofs (maxSteps := 1000000) [bsizeL, hp1, hl1, hex, h2])
          | (refine yl_pure rfl rfl rfl (by first | assumption | kernel_rfl) rfl (by first | exact pa | exact pb) (by simp) (by simp) ?_; simp -implicitDefEqProofs (maxSteps := 1000000) [bsizeL, hp1, hl1, hex, h2])
          | (refine aw_cond rfl (fun h => ?_) (fun h => ?_) <;> try (with_reducible first | exact ff_tt h | exact tt_ff h))
          | (refine aw_skip ?_; simp -implicitDefEqProofs (maxSteps := 1000000) [bsizeL, hp1, hl1, hex, h2])
          | refine aw_block ?_
          | (refine aw_exit ?_; simp -implicitDefEqProofs (maxSteps := 1000000) [bsizeL, hp1, hl1, hex, h2])
          | refine aw_ret (ret_of (.inr rfl) (by simp [Tryd.results22]; rfl) (Fin.of ?_)))
        rw [hm]; rfl
      | false =>
        rw [eb] at pb
        have hm : markN (60 :: l) = 2 := by simp [markN, ea]
        refine apure_of Tryd.func22 Tryd.ntmps22 rfl ?_
        simp only [List.length_cons, List.length_nil, List.cons_append, List.nil_append, List.replicate]
        repeat' (first
          | refine aw_seq ?_
          | (refine aw_run [2] ?_; simp -implicitDefEqProofs (maxSteps := 1000000) [bsizeL, hp1, hl1, hex, h2])
          | (refine aw_ymix [2] draws (by decide +kernel) ?_; simp -implicitDefEqProofs (maxSteps := 1000000) [bsizeL, hp1, hl1, hex, h2])
          | (refine aw_yrun draws (by kernel_rfl) ?_; simp -implicitDefEqProofs (maxSteps := 1000000) [bsizeL, hp1, hl1, hex, h2])
          | (refine awl_skip' [2] rfl ?_; simp -implicitDefEqProofs (maxSteps := 1000000) [bsizeL, hp1, hl1, hex, h2])
          | (refine awl_pure_guard [2] rfl rfl rfl (by first | assumption | kernel_rfl) rfl (fun hc => by first | exact pa | exact pb) (by simp) (by simp) (by simp) ?_; simp -implicitDefEqProofs (maxSteps := 1000000) [bsizeL, hp1, hl1, hex, h2])
          | (refine yl_pureG rfl rfl rfl (by first | assumption | kernel_rfl) rfl (fun hc => by first | exact pa | exact pb) (by simp) (by simp) (by simp) ?_; simp -implicitDefEqProofs (maxSteps := 1000000) [bsizeL, hp1, hl1, hex, h2])
          | (refine awl_pure' [2] rfl rfl rfl (by first | assumption | kernel_rfl) rfl (by first | exact pa | exact pb) (by simp) (by simp) ?_; simp -implicitDefEqProofs (maxSteps := 1000000) [bsizeL, hp1, hl1, hex, h2])
          | (refine yl_pure rfl rfl rfl (by first | assumption | kernel_rfl) rfl (by first | exact pa | exact pb) (by simp) (by simp) ?_; simp -implicitDefEqProofs (maxSteps := 1000000) [bsizeL, hp1, hl1, hex, h2])
          | (refine aw_cond rfl (fun h => ?_) (fun h => ?_) <;> try (with_reducible first | exact ff_tt h | exact tt_ff h))
          | (refine aw_skip ?_; simp -implicitDefEqProofs (maxSteps := 1000000) [bsizeL, hp1, hl1, hex, h2])
          | refine aw_block ?_
          | (refine aw_exit ?_; simp -implicitDefEqProofs (maxSteps := 1000000) [bsizeL, hp1, hl1, hex, h2])
          | refine aw_ret (ret_of (.inr rfl) (by simp [Tryd.results22]; rfl) (Fin.of ?_)))
        rw [hm]; rfl
    | false =>
      rw [ea] at pa
      cases eb : hasPre ⟨⟨l⟩⟩ ⟨#[61]⟩ with
      | true =>
        rw [eb] at pb
        have h2 := len1 eb
        have hm : markN (60 :: l) = 2 := by simp [markN, eb]
        refine apure_of Tryd.func22 Tryd.ntmps22 rfl ?_
        simp only [List.length_cons, List.length_nil, List.cons_append, List.nil_append, List.replicate]
        repeat' (first
          | refine aw_seq ?_
          | (refine aw_run [2] ?_; simp -implicitDefEqProofs (maxSteps := 1000000) [bsizeL, hp1, hl1, hex, h2])
          | (refine aw_ymix [2] draws (by decide +kernel) ?_; simp -implicitDefEqProofs (maxSteps := 1000000) [bsizeL, hp1, hl1, hex, h2])
          | (refine aw_yrun draws (by kernel_rfl) ?_; simp -implicitDefEqProofs (maxSteps := 1000000) [bsizeL, hp1, hl1, hex, h2])
          | (refine awl_skip' [2] rfl ?_; simp -implicitDefEqProofs (maxSteps := 1000000) [bsizeL, hp1, hl1, hex, h2])
          | (refine awl_pure_guard [2] rfl rfl rfl (by first | assumption | kernel_rfl) rfl (fun hc => by first | exact pa | exact pb) (by simp) (by simp) (by simp) ?_; simp -implicitDefEqProofs (maxSteps := 1000000) [bsizeL, hp1, hl1, hex, h2])
          | (refine yl_pureG rfl rfl rfl (by first | assumption | kernel_rfl) rfl (fun hc => by first | exact pa | exact pb) (by simp) (by simp) (by simp) ?_; simp -implicitDefEqProofs (maxSteps := 1000000) [bsizeL, hp1, hl1, hex, h2])
          | (refine awl_pure' [2] rfl rfl rfl (by first | assumption | kernel_rfl) rfl (by first | exact pa | exact pb) (by simp) (by simp) ?_; simp -implicitDefEqProofs (maxSteps := 1000000) [bsizeL, hp1, hl1, hex, h2])
          | (refine yl_pure rfl rfl rfl (by first | assumption | kernel_rfl) rfl (by first | exact pa | exact pb) (by simp) (by simp) ?_; simp -implicitDefEqProofs (maxSteps := 1000000) [bsizeL, hp1, hl1, hex, h2])
          | (refine aw_cond rfl (fun h => ?_) (fun h => ?_) <;> try (with_reducible first | exact ff_tt h | exact tt_ff h))
          | (refine aw_skip ?_; simp -implicitDefEqProofs (maxSteps := 1000000) [bsizeL, hp1, hl1, hex, h2])
          | refine aw_block ?_
          | (refine aw_exit ?_; simp -implicitDefEqProofs (maxSteps := 1000000) [bsizeL, hp1, hl1, hex, h2])
          | refine aw_ret (ret_of (.inr rfl) (by simp [Tryd.results22]; rfl) (Fin.of ?_)))
        rw [hm]; rfl
      | false =>
        rw [eb] at pb
        have hm : markN (60 :: l) = 1 := by simp [markN, ea, eb]
        refine apure_of Tryd.func22 Tryd.ntmps22 rfl ?_
        simp only [List.length_cons, List.length_nil, List.cons_append, List.nil_append, List.replicate]
        repeat' (first
          | refine aw_seq ?_
          | (refine aw_run [2] ?_; simp -implicitDefEqProofs (maxSteps := 1000000) [bsizeL, hp1, hl1, hex])
          | (refine aw_ymix [2] draws (by decide +kernel) ?_; simp -implicitDefEqProofs (maxSteps := 1000000) [bsizeL, hp1, hl1, hex])
          | (refine aw_yrun draws (by kernel_rfl) ?_; simp -implicitDefEqProofs (maxSteps := 1000000) [bsizeL, hp1, hl1, hex])
          | (refine awl_skip' [2] rfl ?_; simp -implicitDefEqProofs (maxSteps := 1000000) [bsizeL, hp1, hl1, hex])
          | (refine awl_pure_guard [2] rfl rfl rfl (by first | assumption | kernel_rfl) rfl (fun hc => by first | exact pa | exact pb) (by simp) (by simp) (by simp) ?_; simp -implicitDefEqProofs (maxSteps := 1000000) [bsizeL, hp1, hl1, hex])
          | (refine yl_pureG rfl rfl rfl (by first | assumption | kernel_rfl) rfl (fun hc => by first | exact pa | exact pb) (by simp) (by simp) (by simp) ?_; simp -implicitDefEqProofs (maxSteps := 1000000) [bsizeL, hp1, hl1, hex])
          | (refine awl_pure' [2] rfl rfl rfl (by first | assumption | kernel_rfl) rfl (by first | exact pa | exact pb) (by simp) (by simp) ?_; simp -implicitDefEqProofs (maxSteps := 1000000) [bsizeL, hp1, hl1, hex])
          | (refine yl_pure rfl rfl rfl (by first | assumption | kernel_rfl) rfl (by first | exact pa | exact pb) (by simp) (by simp) ?_; simp -implicitDefEqProofs (maxSteps := 1000000) [bsizeL, hp1, hl1, hex])
          | (refine aw_cond rfl (fun h => ?_) (fun h => ?_) <;> try (with_reducible first | exact ff_tt h | exact tt_ff h))
          | (refine aw_skip ?_; simp -implicitDefEqProofs (maxSteps := 1000000) [bsizeL, hp1, hl1, hex])
          | refine aw_block ?_
          | (refine aw_exit ?_; simp -implicitDefEqProofs (maxSteps := 1000000) [bsizeL, hp1, hl1, hex])
          | refine aw_ret (ret_of (.inr rfl) (by simp [Tryd.results22]; rfl) (Fin.of ?_)))
        rw [hm]; rfl
  by_cases hgt : b = 62
  · subst hgt
    have pb := pre_ok ⟨⟨l⟩⟩ ⟨#[61]⟩ (by simp [bsizeL]; omega)
    cases eb : hasPre ⟨⟨l⟩⟩ ⟨#[61]⟩ with
    | true =>
      rw [eb] at pb
      have h2 := len1 eb
      have hm : markN (62 :: l) = 2 := by simp [markN, eb]
      refine apure_of Tryd.func22 Tryd.ntmps22 rfl ?_
      simp only [List.length_cons, List.length_nil, List.cons_append, List.nil_append, List.replicate]
      repeat' (first
        | refine aw_seq ?_
        | (refine aw_run [2] ?_; simp -implicitDefEqProofs (maxSteps := 1000000) [bsizeL, hp1, hl1, hex, h2])
        | (refine aw_ymix [2] draws (by decide +kernel) ?_; simp -implicitDefEqProofs (maxSteps := 1000000) [bsizeL, hp1, hl1, hex, h2])
        | (refine aw_yrun draws (by kernel_rfl) ?_; simp -implicitDefEqProofs (maxSteps := 1000000) [bsizeL, hp1, hl1, hex, h2])
        | (refine awl_skip' [2] rfl ?_; simp -implicitDefEqProofs (maxSteps := 1000000) [bsizeL, hp1, hl1, hex, h2])
        | (refine awl_pure_guard [2] rfl rfl rfl (by first | assumption | kernel_rfl) rfl (fun hc => by first | exact pb) (by simp) (by simp) (by simp) ?_; simp -implicitDefEqProofs (maxSteps := 1000000) [bsizeL, hp1, hl1, hex, h2])
        | (refine yl_pureG rfl rfl rfl (by first | assumption | kernel_rfl) rfl (fun hc => by first | exact pb) (by simp) (by simp) (by simp) ?_; simp -implicitDefEqProofs (maxSteps := 1000000) [bsizeL, hp1, hl1, hex, h2])
        | (refine awl_pure' [2] rfl rfl rfl (by first | assumption | kernel_rfl) rfl (by first | exact pb) (by simp) (by simp) ?_; simp -implicitDefEqProofs (maxSteps := 1000000) [bsizeL, hp1, hl1, hex, h2])
        | (refine yl_pure rfl rfl rfl (by first | assumption | kernel_rfl) rfl (by first | exact pb) (by simp) (by simp) ?_; simp -implicitDefEqProofs (maxSteps := 1000000) [bsizeL, hp1, hl1, hex, h2])
        | (refine aw_cond rfl (fun h => ?_) (fun h => ?_) <;> try (with_reducible first | exact ff_tt h | exact tt_ff h))
        | (refine aw_skip ?_; simp -implicitDefEqProofs (maxSteps := 1000000) [bsizeL, hp1, hl1, hex, h2])
        | refine aw_block ?_
        | (refine aw_exit ?_; simp -implicitDefEqProofs (maxSteps := 1000000) [bsizeL, hp1, hl1, hex, h2])
        | refine aw_ret (ret_of (.inr rfl) (by simp [Tryd.results22]; rfl) (Fin.of ?_)))
      rw [hm]; rfl
    | false =>
      rw [eb] at pb
      have hm : markN (62 :: l) = 1 := by simp [markN, eb]
      refine apure_of Tryd.func22 Tryd.ntmps22 rfl ?_
      simp only [List.length_cons, List.length_nil, List.cons_append, List.nil_append, List.replicate]
      repeat' (first
        | refine aw_seq ?_
        | (refine aw_run [2] ?_; simp -implicitDefEqProofs (maxSteps := 1000000) [bsizeL, hp1, hl1, hex])
        | (refine aw_ymix [2] draws (by decide +kernel) ?_; simp -implicitDefEqProofs (maxSteps := 1000000) [bsizeL, hp1, hl1, hex])
        | (refine aw_yrun draws (by kernel_rfl) ?_; simp -implicitDefEqProofs (maxSteps := 1000000) [bsizeL, hp1, hl1, hex])
        | (refine awl_skip' [2] rfl ?_; simp -implicitDefEqProofs (maxSteps := 1000000) [bsizeL, hp1, hl1, hex])
        | (refine awl_pure_guard [2] rfl rfl rfl (by first | assumption | kernel_rfl) rfl (fun hc => by first | exact pb) (by simp) (by simp) (by simp) ?_; simp -implicitDefEqProofs (maxSteps := 1000000) [bsizeL, hp1, hl1, hex])
        | (refine yl_pureG rfl rfl rfl (by first | assumption | kernel_rfl) rfl (fun hc => by first | exact pb) (by simp) (by simp) (by simp) ?_; simp -implicitDefEqProofs (maxSteps := 1000000) [bsizeL, hp1, hl1, hex])
        | (refine awl_pure' [2] rfl rfl rfl (by first | assumption | kernel_rfl) rfl (by first | exact pb) (by simp) (by simp) ?_; simp -implicitDefEqProofs (maxSteps := 1000000) [bsizeL, hp1, hl1, hex])
        | (refine yl_pure rfl rfl rfl (by first | assumption | kernel_rfl) rfl (by first | exact pb) (by simp) (by simp) ?_; simp -implicitDefEqProofs (maxSteps := 1000000) [bsizeL, hp1, hl1, hex])
        | (refine aw_cond rfl (fun h => ?_) (fun h => ?_) <;> try (with_reducible first | exact ff_tt h | exact tt_ff h))
        | (refine aw_skip ?_; simp -implicitDefEqProofs (maxSteps := 1000000) [bsizeL, hp1, hl1, hex])
        | refine aw_block ?_
        | (refine aw_exit ?_; simp -implicitDefEqProofs (maxSteps := 1000000) [bsizeL, hp1, hl1, hex])
        | refine aw_ret (ret_of (.inr rfl) (by simp [Tryd.results22]; rfl) (Fin.of ?_)))
      rw [hm]; rfl
  have q : ∀ c : UInt8, ¬ b = c → ¬ (b.toNat : Int) = (c.toNat : Int) := fun c h e => h (u8c.1 e)
  have q0 : ¬ (b.toNat : Int) = 43 := q 43 h0
  have q1 : ¬ (b.toNat : Int) = 45 := q 45 h1
  have q2 : ¬ (b.toNat : Int) = 42 := q 42 h2
  have q3 : ¬ (b.toNat : Int) = 47 := q 47 h3
  have q4 : ¬ (b.toNat : Int) = 40 := q 40 h4
  have q5 : ¬ (b.toNat : Int) = 41 := q 41 h5
  have q6 : ¬ (b.toNat : Int) = 44 := q 44 h6
  have q7 : ¬ (b.toNat : Int) = 58 := q 58 h7
  have q8 : ¬ (b.toNat : Int) = 61 := q 61 h8
  have q9 : ¬ (b.toNat : Int) = 60 := q 60 hlt
  have q10 : ¬ (b.toNat : Int) = 62 := q 62 hgt
  have hm : markN (b :: l) = 0 := by simp [markN, h0, h1, h2, h3, h4, h5, h6, h7, h8, hlt, hgt]
  refine apure_of Tryd.func22 Tryd.ntmps22 rfl ?_
  simp only [List.length_cons, List.length_nil, List.cons_append, List.nil_append, List.replicate]
  repeat' (first
    | refine aw_seq ?_
    | (refine aw_run [2] ?_; simp -implicitDefEqProofs (maxSteps := 1000000) [bsizeL, hp1, hl1, q0, q1, q2, q3, q4, q5, q6, q7, q8, q9, q10])
    | (refine aw_ymix [2] draws (by decide +kernel) ?_; simp -implicitDefEqProofs (maxSteps := 1000000) [bsizeL, hp1, hl1, q0, q1, q2, q3, q4, q5, q6, q7, q8, q9, q10])
    | (refine aw_yrun draws (by kernel_rfl) ?_; simp -implicitDefEqProofs (maxSteps := 1000000) [bsizeL, hp1, hl1, q0, q1, q2, q3, q4, q5, q6, q7, q8, q9, q10])
    | (refine awl_skip' [2] rfl ?_; simp -implicitDefEqProofs (maxSteps := 1000000) [bsizeL, hp1, hl1, q0, q1, q2, q3, q4, q5, q6, q7, q8, q9, q10])
    | (refine aw_cond rfl (fun h => ?_) (fun h => ?_) <;> try (with_reducible first | exact ff_tt h | exact tt_ff h))
    | (refine aw_skip ?_; simp -implicitDefEqProofs (maxSteps := 1000000) [bsizeL, hp1, hl1, q0, q1, q2, q3, q4, q5, q6, q7, q8, q9, q10])
    | refine aw_block ?_
    | (refine aw_exit ?_; simp -implicitDefEqProofs (maxSteps := 1000000) [bsizeL, hp1, hl1, q0, q1, q2, q3, q4, q5, q6, q7, q8, q9, q10])
    | refine aw_ret (ret_of (.inr rfl) (by simp [Tryd.results22]; rfl) (Fin.of ?_)))
  rw [hm]; rfl
end Go.AL
