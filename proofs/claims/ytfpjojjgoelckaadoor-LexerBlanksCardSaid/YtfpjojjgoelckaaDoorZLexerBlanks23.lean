/- Parts of the proof of LexerBlanks: the logic, contracts, plain laws. -/
import Derived.Test.YtfpjojjgoelckaaDoorZLexerBlanks22
import Derived.Test.YtfpjojjgoelckaaDoorYDec
/-! Contracts: gridironref04's small functions. -/
namespace Go.AL
open Go.Proofs Go.Proofs.YtfpjojjgoelckaaDoor.Dec Go.Lib
set_option linter.unusedSimpArgs false
set_option linter.unusedVariables false
set_option maxRecDepth 100000 in
theorem rfigure_ok (c : UInt8) : APure Tryd.prog 23 [vbyte c] (vb (figR c.toNat)) := by
  refine apure_of Tryd.func23 Tryd.ntmps23 rfl ?_
  simp only [List.length_cons, List.length_nil, List.cons_append, List.nil_append, List.replicate]
  repeat' (first
    | refine aw_seq ?_
    | (refine aw_run [] ?_; simp -implicitDefEqProofs (maxSteps := 1000000))
    | (refine aw_ymix [] draws (by decide +kernel) ?_; simp -implicitDefEqProofs (maxSteps := 1000000))
    | (refine aw_yrun draws (by kernel_rfl) ?_; simp -implicitDefEqProofs (maxSteps := 1000000))
    | (refine awl_skip' [] rfl ?_; simp -implicitDefEqProofs (maxSteps := 1000000))
    | (refine aw_cond rfl (fun h => ?_) (fun h => ?_) <;> try (with_reducible first | exact ff_tt h | exact tt_ff h))
    | (refine aw_skip ?_; simp -implicitDefEqProofs (maxSteps := 1000000))
    | refine aw_block ?_
    | (refine aw_exit ?_; simp -implicitDefEqProofs (maxSteps := 1000000))
    | refine aw_ret (ret_of (.inr rfl) (by simp [Tryd.results23]; rfl) (Fin.of ?_)))
  rfl
set_option maxRecDepth 100000 in
theorem rnamed_ok (c : UInt8) : APure Tryd.prog 25 [vbyte c] (vb (nameR c.toNat)) := by
  refine apure_of Tryd.func25 Tryd.ntmps25 rfl ?_
  simp only [List.length_cons, List.length_nil, List.cons_append, List.nil_append, List.replicate]
  repeat' (first
    | refine aw_seq ?_
    | (refine aw_run [] ?_; simp -implicitDefEqProofs (maxSteps := 1000000))
    | (refine aw_ymix [] draws (by decide +kernel) ?_; simp -implicitDefEqProofs (maxSteps := 1000000))
    | (refine aw_yrun draws (by kernel_rfl) ?_; simp -implicitDefEqProofs (maxSteps := 1000000))
    | (refine awl_skip' [] rfl ?_; simp -implicitDefEqProofs (maxSteps := 1000000))
    | (refine aw_cond rfl (fun h => ?_) (fun h => ?_) <;> try (with_reducible first | exact ff_tt h | exact tt_ff h))
    | (refine aw_skip ?_; simp -implicitDefEqProofs (maxSteps := 1000000))
    | refine aw_block ?_
    | (refine aw_exit ?_; simp -implicitDefEqProofs (maxSteps := 1000000))
    | refine aw_ret (ret_of (.inr rfl) (by simp [Tryd.results25]; rfl) (Fin.of ?_)))
  simp [tupOf, nameR, letR, figR]
set_option maxRecDepth 100000 in
theorem rword_ok (s : ByteArray) : APure Tryd.prog 27 [vs s] (vb (decide (isWord s))) := by
  refine apure_of Tryd.func27 Tryd.ntmps27 rfl ?_
  simp only [List.length_cons, List.length_nil, List.cons_append, List.nil_append, List.replicate]
  repeat' (first
    | refine aw_seq ?_
    | (refine aw_run [] ?_; simp -implicitDefEqProofs (maxSteps := 1000000))
    | (refine aw_ymix [] draws (by decide +kernel) ?_; simp -implicitDefEqProofs (maxSteps := 1000000))
    | (refine aw_yrun draws (by kernel_rfl) ?_; simp -implicitDefEqProofs (maxSteps := 1000000))
    | (refine awl_skip' [] rfl ?_; simp -implicitDefEqProofs (maxSteps := 1000000))
    | (refine aw_cond rfl (fun h => ?_) (fun h => ?_) <;> try (with_reducible first | exact ff_tt h | exact tt_ff h))
    | (refine aw_skip ?_; simp -implicitDefEqProofs (maxSteps := 1000000))
    | refine aw_block ?_
    | (refine aw_exit ?_; simp -implicitDefEqProofs (maxSteps := 1000000))
    | refine aw_ret (ret_of (.inr rfl) (by simp [Tryd.results27]; rfl) (Fin.of ?_)))
  simp [tupOf, isWord]
  grind
theorem fig_iff (c : UInt8) : fig c = figR c.toNat := by
  unfold fig figR
  by_cases h1 : 48 ≤ c.toNat <;> by_cases h2 : c.toNat ≤ 57 <;> simp [h1, h2] <;> omega
theorem parse_big (l : List UInt8) : ∀ acc, acc < 18446744073709551616 → l.all fig = true → 18446744073709551616 ≤ fval acc l → parseUint10 acc l = .range := by
  induction l with
  | nil => intro acc h0 _ hv; rw [fval_nil] at hv; omega
  | cons c r ih =>
    intro acc h0 ha hv
    simp only [List.all_cons, Bool.and_eq_true] at ha
    have hc : 48 ≤ c.toNat ∧ c.toNat ≤ 57 := of_fig ha.1
    rw [fval_cons] at hv
    simp only [parseUint10]
    rw [if_pos hc]
    split
    · rfl
    · split
      · rfl
      · exact ih _ (by omega) ha.2 hv
/-- Figures, read as a number. -/
theorem atoi_figs {l : List UInt8} (h0 : l ≠ []) (ha : l.all fig = true) :
    (fval 0 l ≤ 9223372036854775807 ∧ atoiAll l = .ok (fval 0 l)) ∨ (9223372036854775807 < fval 0 l ∧ ∀ v, atoiAll l ≠ .ok v) := by
  by_cases hv : fval 0 l < 18446744073709551616
  · rw [atoi_plain h0 ha hv]
    by_cases h : 9223372036854775808 ≤ fval 0 l
    · right; rw [if_pos h]; exact ⟨by omega, fun v e => by cases e⟩
    · left; rw [if_neg h]; exact ⟨by omega, rfl⟩
  · right
    refine ⟨by omega, fun v e => ?_⟩
    have hb := parse_big l 0 (by omega) ha (by omega)
    have hm : parseMag l = .range := by unfold parseMag; rw [if_neg h0, hb]
    cases l with
    | nil => exact h0 rfl
    | cons c r =>
      have hc := fig_head ha (c := c) rfl
      simp only [atoiAll] at e
      rw [if_neg (by omega), hm] at e
      cases e
theorem fval_take {l : List UInt8} {i : Nat} {c : UInt8} (h : l[i]? = some c) : fval 0 (l.take (i + 1)) = fval 0 (l.take i) * 10 + (c.toNat - 48) := by
  obtain ⟨hi, he⟩ := List.getElem?_eq_some_iff.1 h
  rw [List.take_add_one, h]
  simp [fval_append, fval_cons, fval_nil]
theorem fval_mono (l : List UInt8) (i : Nat) : fval 0 (l.take i) ≤ fval 0 l := by
  conv => rhs; rw [← List.take_append_drop i l, fval_append]
  exact fval_ge _ _
set_option maxHeartbeats 4000000 in
set_option maxRecDepth 100000 in
theorem rnumber_ok (l : List UInt8) (hl : l.length ≤ 281474976710656) (ha : l.all fig = true) :
    APure Tryd.prog 24 [vs ⟨⟨l⟩⟩] (.tup [vi (if fval 0 l ≤ 9223372036854775807 then (fval 0 l : Int) else 0), vb (decide (fval 0 l ≤ 9223372036854775807))]) := by
  refine apure_of Tryd.func24 Tryd.ntmps24 rfl ?_
  simp only [List.length_cons, List.length_nil, List.cons_append, List.nil_append, List.replicate]
  refine aw_seq (aw_run [] ?_)
  simp -implicitDefEqProofs
  refine aw_seq (aw_run [] ?_)
  simp -implicitDefEqProofs
  refine aw_seq (aw_seq (aw_run [] ?_))
  simp -implicitDefEqProofs
  refine aw_block (aw_loopK [0, 4, 5] (fun n fr σ => σ = σ0 ∧ ∃ i : Nat, i + n = l.length ∧ fval 0 (l.take i) ≤ 9223372036854775807 ∧ fr = frm 28 [(0, vs ⟨⟨l⟩⟩), (4, vi (fval 0 (l.take i) : Nat)), (5, vi (i : Nat))]) l.length ?_ ?_)
  · exact ⟨rfl, 0, by omega, by simp [fval_nil], by simp [fval_nil]⟩
  · rintro n fr σ ⟨rfl, i, hi, hb, rfl⟩
    simp
    by_cases hlt : i < l.length
    · obtain ⟨c, hcc⟩ : ∃ c, l[i] = c := ⟨_, rfl⟩
      have hc : l[i]? = some c := by rw [List.getElem?_eq_getElem hlt, hcc]
      have hf : fig c = true := List.all_eq_true.1 ha c (List.mem_of_getElem? hc)
      have h48 := of_fig hf
      have hft := fval_take hc
      have w1 : IntKind.u8.wrap ((c.toNat : Int) - 48) = ((c.toNat - 48 : Nat) : Int) := by rw [bwrap_id (by omega) (by omega)]; omega
      have w2 : IntKind.i64.wrap ((c.toNat - 48 : Nat) : Int) = ((c.toNat - 48 : Nat) : Int) := wrap_id (by omega) (by omega)
      have w3 : IntKind.i64.wrap (9223372036854775807 - ((c.toNat - 48 : Nat) : Int)) = 9223372036854775807 - ((c.toNat - 48 : Nat) : Int) := wrap_id (by omega) (by omega)
      have w4 : IntKind.i64.wrap (Int.tdiv (9223372036854775807 - ((c.toNat - 48 : Nat) : Int)) 10) = ((9223372036854775807 - (c.toNat - 48)) / 10 : Nat) := by
        rw [Int.tdiv_eq_ediv_of_nonneg (by omega), wrap_id (by omega) (by omega)]; omega
      have w7 : IntKind.i64.wrap ((i : Int) + 1) = ((i + 1 : Nat) : Int) := by rw [wrap_id (by omega) (by omega)]; omega
      by_cases hov : (9223372036854775807 - (c.toNat - 48)) / 10 < fval 0 (l.take i)
      · have hm := fval_mono l (i + 1)
        have hno : ¬ fval 0 l ≤ 9223372036854775807 := by omega
        rw [if_neg hno, decide_eq_false hno]
        repeat' (first
          | refine aw_seq ?_
          | (refine aw_run [] ?_; simp -implicitDefEqProofs (maxSteps := 1000000) [bsizeL, hlt, hcc, w1, w2, w3, w4, hov])
          | (refine aw_ymix [] draws (by decide +kernel) ?_; simp -implicitDefEqProofs (maxSteps := 1000000) [bsizeL, hlt, hcc, w1, w2, w3, w4, hov])
          | (refine aw_yrun draws (by kernel_rfl) ?_; simp -implicitDefEqProofs (maxSteps := 1000000) [bsizeL, hlt, hcc, w1, w2, w3, w4, hov])
          | (refine awl_skip' [] rfl ?_; simp -implicitDefEqProofs (maxSteps := 1000000) [bsizeL, hlt, hcc, w1, w2, w3, w4, hov])
          | (refine aw_cond rfl (fun h => ?_) (fun h => ?_) <;> try (with_reducible first | exact ff_tt h | exact tt_ff h))
          | (refine aw_skip ?_; simp -implicitDefEqProofs (maxSteps := 1000000) [bsizeL, hlt, hcc, w1, w2, w3, w4, hov])
          | refine aw_block ?_
          | (refine aw_exit ?_; simp -implicitDefEqProofs (maxSteps := 1000000) [bsizeL, hlt, hcc, w1, w2, w3, w4, hov])
          | refine aw_ret (ret_of (.inr rfl) (by simp [Tryd.results24]; rfl) (Fin.of ?_)))
        · rfl
        · rename_i h; simp at h; omega
      · have w5 : IntKind.i64.wrap (10 * (fval 0 (l.take i) : Int)) = 10 * (fval 0 (l.take i) : Int) := wrap_id (by omega) (by omega)
        have w6 : IntKind.i64.wrap (10 * (fval 0 (l.take i) : Int) + ((c.toNat - 48 : Nat) : Int)) = (fval 0 (l.take (i + 1)) : Nat) := by rw [wrap_id (by omega) (by omega)]; omega
        repeat' (first
          | refine aw_seq ?_
          | (refine aw_run [] ?_; simp -implicitDefEqProofs (maxSteps := 1000000) [bsizeL, hlt, hcc, w1, w2, w3, w4, w5, w6, w7, hov])
          | (refine aw_ymix [] draws (by decide +kernel) ?_; simp -implicitDefEqProofs (maxSteps := 1000000) [bsizeL, hlt, hcc, w1, w2, w3, w4, w5, w6, w7, hov])
          | (refine aw_yrun draws (by kernel_rfl) ?_; simp -implicitDefEqProofs (maxSteps := 1000000) [bsizeL, hlt, hcc, w1, w2, w3, w4, w5, w6, w7, hov])
          | (refine awl_skip' [] rfl ?_; simp -implicitDefEqProofs (maxSteps := 1000000) [bsizeL, hlt, hcc, w1, w2, w3, w4, w5, w6, w7, hov])
          | (refine aw_cond rfl (fun h => ?_) (fun h => ?_) <;> try (with_reducible first | exact ff_tt h | exact tt_ff h))
          | (refine aw_skip ?_; simp -implicitDefEqProofs (maxSteps := 1000000) [bsizeL, hlt, hcc, w1, w2, w3, w4, w5, w6, w7, hov])
          | refine aw_block ?_
          | (refine aw_exit ?_; simp -implicitDefEqProofs (maxSteps := 1000000) [bsizeL, hlt, hcc, w1, w2, w3, w4, w5, w6, w7, hov])
          | refine aw_ret (ret_of (.inr rfl) (by simp [Tryd.results24]; rfl) (Fin.of ?_)))
        · rename_i h; simp at h; omega
        · exact ⟨n - 1, by omega, i + 1, by omega, by omega, rfl, by omega⟩
    · have hi2 : i = l.length := by omega
      subst hi2
      simp only [List.take_length] at *
      rw [if_pos hb, decide_eq_true hb]
      repeat' (first
        | refine aw_seq ?_
        | (refine aw_run [] ?_; simp -implicitDefEqProofs (maxSteps := 1000000) [bsizeL])
        | (refine aw_ymix [] draws (by decide +kernel) ?_; simp -implicitDefEqProofs (maxSteps := 1000000) [bsizeL])
        | (refine aw_yrun draws (by kernel_rfl) ?_; simp -implicitDefEqProofs (maxSteps := 1000000) [bsizeL])
        | (refine awl_skip' [] rfl ?_; simp -implicitDefEqProofs (maxSteps := 1000000) [bsizeL])
        | (refine aw_cond rfl (fun h => ?_) (fun h => ?_) <;> try (with_reducible first | exact ff_tt h | exact tt_ff h))
        | (refine aw_skip ?_; simp -implicitDefEqProofs (maxSteps := 1000000) [bsizeL])
        | refine aw_block ?_
        | (refine aw_exit ?_; simp -implicitDefEqProofs (maxSteps := 1000000) [bsizeL])
        | refine aw_ret (ret_of (.inr rfl) (by simp [Tryd.results24]; rfl) (Fin.of ?_)))
      rfl
end Go.AL
