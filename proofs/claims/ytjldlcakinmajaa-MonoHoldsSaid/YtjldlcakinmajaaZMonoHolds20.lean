/- Parts of the proof of MonoHolds: the logic, contracts, plain laws. -/
import Derived.Test.YtjldlcakinmajaaZMonoHolds19
import Derived.Test.YtjldlcakinmajaaZMonoHolds14
import Derived.Test.YtjldlcakinmajaaZMonoHolds6
/-! Contracts: syntax.marks, strength. -/
namespace Go.AL
open Go.Proofs
set_option linter.unusedSimpArgs false
set_option linter.unusedVariables false
def mk0 : List ByteArray := [⟨#[60]⟩, ⟨#[60, 61]⟩, ⟨#[61]⟩, ⟨#[60, 62]⟩, ⟨#[62, 61]⟩, ⟨#[62]⟩]
def mk1 : List ByteArray := [⟨#[43]⟩, ⟨#[45]⟩]
def mk2 : List ByteArray := [⟨#[42]⟩, ⟨#[47]⟩]
set_option maxHeartbeats 8000000 in
set_option maxRecDepth 100000 in
theorem marks_ok : APure Try.prog 152 [] (.agg [.vsl (mk0.map vs), .vsl (mk1.map vs), .vsl (mk2.map vs)]) := by
  refine apure_in Try.func152 Try.ntmps152 rfl ?_
  repeat' first | refine aw_M [0] trivial trivial ?_ | refine aw_cond rfl (fun h => ?_) (fun h => ?_)
  all_goals first | rfl | (simp [tupOf, mk0, mk1, mk2]; done) | trace_state
def strT (w : ByteArray) : Int := if 0 ≤ idxS w mk0 0 then 0 else if 0 ≤ idxS w mk1 0 then 1 else if 0 ≤ idxS w mk2 0 then 2 else 3
set_option maxHeartbeats 8000000 in
set_option maxRecDepth 100000 in
theorem strength_ok (w : ByteArray) : APure Try.prog 111 [vs w] (vi (strT w)) := by
  have hm := marks_ok
  have c0 := scontains_ok mk0 w (by simp [mk0])
  have c1 := scontains_ok mk1 w (by simp [mk1])
  have c2 := scontains_ok mk2 w (by simp [mk2])
  unfold strT
  generalize idxS w mk0 0 = x0 at *
  generalize idxS w mk1 0 = x1 at *
  generalize idxS w mk2 0 = x2 at *
  refine apure_in Try.func111 Try.ntmps111 rfl ?_
  repeat' first | refine aw_N [3] trivial (And.intro @hm trivial) ?_ | refine aw_cond rfl (fun h => ?_) (fun h => ?_)
  refine aw_loopW [0, 3, 6] (fun q fr σ => ∃ i M : Nat, i + q = 3 ∧ (1 ≤ i → ¬ 0 ≤ x0) ∧ (2 ≤ i → ¬ 0 ≤ x1) ∧ (3 ≤ i → ¬ 0 ≤ x2) ∧ 1 ≤ M ∧ σ = mkSt [(0, [.vsl (mk0.map vs), .vsl (mk1.map vs), .vsl (mk2.map vs)])] [] M ∧ fr = frm 16 [(0, vs w), (3, .ptr 0 0), (6, vi (i : Nat))]) 3 ?_ ?_
  · exact ⟨mkSt [(0, [.vsl (mk0.map vs), .vsl (mk1.map vs), .vsl (mk2.map vs)])] [] 1, le_mkSt (by simp) (by simp) (by simp), 0, 1, by omega, by omega, by omega, by omega, by omega, rfl, by simp⟩
  · rintro q fr σ ⟨i, M, hi, h0, h1, h2, hM, rfl, rfl⟩
    have hc : i = 0 ∨ i = 1 ∨ i = 2 ∨ i = 3 := by omega
    have ee : ¬ 0 = M := by omega
    rcases hc with rfl | rfl | rfl | rfl
    · by_cases hx : 0 ≤ x0
      · rw [if_pos hx]
        simp -implicitDefEqProofs
        repeat' (first
          | refine aw_seq ?_
          | (refine aw_run [3] ?_; try simp -implicitDefEqProofs (maxSteps := 1000000) [List.lookup, hx, ee])
          | ((first | refine awl_skip' [3] rfl ?_ | refine awl_pure_guard [3] rfl rfl rfl (by first | assumption | kernel_rfl) rfl (fun hc => by first | exact c0) (by simp) (by simp) (by simp) ?_ | refine awl_pure' [3] rfl rfl rfl (by first | assumption | kernel_rfl) rfl (by first | exact c0) (by simp) (by simp) ?_ | refine aw_skip ?_ | refine aw_exit ?_); try simp -implicitDefEqProofs (maxSteps := 1000000) [List.lookup, hx, ee])
          | (refine aw_cond rfl (fun h => ?_) (fun h => ?_) <;> try (with_reducible first | exact ff_tt h | exact tt_ff h))
          | refine aw_block ?_
          | refine aw_ret (ret_of (.inr rfl) (by simp [Try.results111]; rfl) (Fin.of ?_))
          | refine ret_of (.inl rfl) (by simp [Try.results111]; rfl) (Fin.of ?_))
        all_goals first | rfl | (simp [tupOf]; done) | trace_state
      · skip
        simp -implicitDefEqProofs
        repeat' (first
          | refine aw_seq ?_
          | (refine aw_run [3] ?_; try simp -implicitDefEqProofs (maxSteps := 1000000) [List.lookup, hx, ee])
          | ((first | refine awl_skip' [3] rfl ?_ | refine awl_pure_guard [3] rfl rfl rfl (by first | assumption | kernel_rfl) rfl (fun hc => by first | exact c0) (by simp) (by simp) (by simp) ?_ | refine awl_pure' [3] rfl rfl rfl (by first | assumption | kernel_rfl) rfl (by first | exact c0) (by simp) (by simp) ?_ | refine aw_skip ?_ | refine aw_exit ?_); try simp -implicitDefEqProofs (maxSteps := 1000000) [List.lookup, hx, ee])
          | (refine aw_cond rfl (fun h => ?_) (fun h => ?_) <;> try (with_reducible first | exact ff_tt h | exact tt_ff h))
          | refine aw_block ?_
          | refine aw_ret (ret_of (.inr rfl) (by simp [Try.results111]; rfl) (Fin.of ?_))
          | refine ret_of (.inl rfl) (by simp [Try.results111]; rfl) (Fin.of ?_))
        all_goals first | exact ⟨q - 1, by omega, mkSt [(0, [.vsl (mk0.map vs), .vsl (mk1.map vs), .vsl (mk2.map vs)])] [] M, le_mkSt (by simp) (by simp) (by simp), 1, by omega, by omega, by omega, by omega, M, hM, rfl, by decide⟩ | trace_state
    · by_cases hx : 0 ≤ x1
      · rw [if_neg (h0 (by omega)), if_pos hx]
        simp -implicitDefEqProofs
        repeat' (first
          | refine aw_seq ?_
          | (refine aw_run [3] ?_; try simp -implicitDefEqProofs (maxSteps := 1000000) [List.lookup, hx, ee])
          | ((first | refine awl_skip' [3] rfl ?_ | refine awl_pure_guard [3] rfl rfl rfl (by first | assumption | kernel_rfl) rfl (fun hc => by first | exact c1) (by simp) (by simp) (by simp) ?_ | refine awl_pure' [3] rfl rfl rfl (by first | assumption | kernel_rfl) rfl (by first | exact c1) (by simp) (by simp) ?_ | refine aw_skip ?_ | refine aw_exit ?_); try simp -implicitDefEqProofs (maxSteps := 1000000) [List.lookup, hx, ee])
          | (refine aw_cond rfl (fun h => ?_) (fun h => ?_) <;> try (with_reducible first | exact ff_tt h | exact tt_ff h))
          | refine aw_block ?_
          | refine aw_ret (ret_of (.inr rfl) (by simp [Try.results111]; rfl) (Fin.of ?_))
          | refine ret_of (.inl rfl) (by simp [Try.results111]; rfl) (Fin.of ?_))
        all_goals first | rfl | (simp [tupOf]; done) | trace_state
      · skip
        simp -implicitDefEqProofs
        repeat' (first
          | refine aw_seq ?_
          | (refine aw_run [3] ?_; try simp -implicitDefEqProofs (maxSteps := 1000000) [List.lookup, hx, ee])
          | ((first | refine awl_skip' [3] rfl ?_ | refine awl_pure_guard [3] rfl rfl rfl (by first | assumption | kernel_rfl) rfl (fun hc => by first | exact c1) (by simp) (by simp) (by simp) ?_ | refine awl_pure' [3] rfl rfl rfl (by first | assumption | kernel_rfl) rfl (by first | exact c1) (by simp) (by simp) ?_ | refine aw_skip ?_ | refine aw_exit ?_); try simp -implicitDefEqProofs (maxSteps := 1000000) [List.lookup, hx, ee])
          | (refine aw_cond rfl (fun h => ?_) (fun h => ?_) <;> try (with_reducible first | exact ff_tt h | exact tt_ff h))
          | refine aw_block ?_
          | refine aw_ret (ret_of (.inr rfl) (by simp [Try.results111]; rfl) (Fin.of ?_))
          | refine ret_of (.inl rfl) (by simp [Try.results111]; rfl) (Fin.of ?_))
        all_goals first | exact ⟨q - 1, by omega, mkSt [(0, [.vsl (mk0.map vs), .vsl (mk1.map vs), .vsl (mk2.map vs)])] [] M, le_mkSt (by simp) (by simp) (by simp), 2, by omega, by omega, by omega, by omega, M, hM, rfl, by decide⟩ | trace_state
    · by_cases hx : 0 ≤ x2
      · rw [if_neg (h0 (by omega)), if_neg (h1 (by omega)), if_pos hx]
        simp -implicitDefEqProofs
        repeat' (first
          | refine aw_seq ?_
          | (refine aw_run [3] ?_; try simp -implicitDefEqProofs (maxSteps := 1000000) [List.lookup, hx, ee])
          | ((first | refine awl_skip' [3] rfl ?_ | refine awl_pure_guard [3] rfl rfl rfl (by first | assumption | kernel_rfl) rfl (fun hc => by first | exact c2) (by simp) (by simp) (by simp) ?_ | refine awl_pure' [3] rfl rfl rfl (by first | assumption | kernel_rfl) rfl (by first | exact c2) (by simp) (by simp) ?_ | refine aw_skip ?_ | refine aw_exit ?_); try simp -implicitDefEqProofs (maxSteps := 1000000) [List.lookup, hx, ee])
          | (refine aw_cond rfl (fun h => ?_) (fun h => ?_) <;> try (with_reducible first | exact ff_tt h | exact tt_ff h))
          | refine aw_block ?_
          | refine aw_ret (ret_of (.inr rfl) (by simp [Try.results111]; rfl) (Fin.of ?_))
          | refine ret_of (.inl rfl) (by simp [Try.results111]; rfl) (Fin.of ?_))
        all_goals first | rfl | (simp [tupOf]; done) | trace_state
      · skip
        simp -implicitDefEqProofs
        repeat' (first
          | refine aw_seq ?_
          | (refine aw_run [3] ?_; try simp -implicitDefEqProofs (maxSteps := 1000000) [List.lookup, hx, ee])
          | ((first | refine awl_skip' [3] rfl ?_ | refine awl_pure_guard [3] rfl rfl rfl (by first | assumption | kernel_rfl) rfl (fun hc => by first | exact c2) (by simp) (by simp) (by simp) ?_ | refine awl_pure' [3] rfl rfl rfl (by first | assumption | kernel_rfl) rfl (by first | exact c2) (by simp) (by simp) ?_ | refine aw_skip ?_ | refine aw_exit ?_); try simp -implicitDefEqProofs (maxSteps := 1000000) [List.lookup, hx, ee])
          | (refine aw_cond rfl (fun h => ?_) (fun h => ?_) <;> try (with_reducible first | exact ff_tt h | exact tt_ff h))
          | refine aw_block ?_
          | refine aw_ret (ret_of (.inr rfl) (by simp [Try.results111]; rfl) (Fin.of ?_))
          | refine ret_of (.inl rfl) (by simp [Try.results111]; rfl) (Fin.of ?_))
        all_goals first | exact ⟨q - 1, by omega, mkSt [(0, [.vsl (mk0.map vs), .vsl (mk1.map vs), .vsl (mk2.map vs)])] [] M, le_mkSt (by simp) (by simp) (by simp), 3, by omega, by omega, by omega, by omega, M, hM, rfl, by decide⟩ | trace_state
    · rw [if_neg (h0 (by omega)), if_neg (h1 (by omega)), if_neg (h2 (by omega))]
      simp -implicitDefEqProofs
      repeat' (first
        | refine aw_seq ?_
        | (refine aw_run [3] ?_; try simp -implicitDefEqProofs (maxSteps := 1000000) [List.lookup, hM, ee])
        | ((first | refine awl_skip' [3] rfl ?_ | refine awl_pure_guard [3] rfl rfl rfl (by first | assumption | kernel_rfl) rfl (fun hc => by first | exact c2) (by simp) (by simp) (by simp) ?_ | refine awl_pure' [3] rfl rfl rfl (by first | assumption | kernel_rfl) rfl (by first | exact c2) (by simp) (by simp) ?_ | refine aw_skip ?_ | refine aw_exit ?_); try simp -implicitDefEqProofs (maxSteps := 1000000) [List.lookup, hM, ee])
        | (refine aw_cond rfl (fun h => ?_) (fun h => ?_) <;> try (with_reducible first | exact ff_tt h | exact tt_ff h))
        | refine aw_block ?_
        | refine aw_ret (ret_of (.inr rfl) (by simp [Try.results111]; rfl) (Fin.of ?_))
        | refine ret_of (.inl rfl) (by simp [Try.results111]; rfl) (Fin.of ?_))
      all_goals first | rfl | (simp [tupOf]; done) | trace_state
end Go.AL
/-! Contracts: syntax.own. -/
namespace Go.AL
open Go.Proofs
set_option linter.unusedSimpArgs false
set_option linter.unusedVariables false
def Tree.words : Tree → Int × (Int × Int × Int × Int) × ByteArray
  | .mk _ n a b c d w _ => (n, (a, b, c, d), w)
/-- With its own kind's fields alone, and as many kids as it wants. -/
def ownK (t : Tree) : Bool := match t with
  | .mk k n a b c d w ks =>
    if (bareT (.mk k n a b c d w ks)).words ≠ (n, (a, b, c, d), w) then false
    else if k = 0 then decide (ks.length = 0) && decide (0 ≤ n)
    else if k = 1 then decide (ks.length = 0) && rightP a b && (decide (a = c) && decide (b = d))
    else if k = 2 then decide (ks.length = 0)
    else if k = 6 then decide (ks.length = 0) && wholeP a b c d
    else if k = 3 then decide (ks.length = 1)
    else if k = 4 then decide (ks.length = 2) && decide (strT w < 3)
    else if w = bIF then decide (k = 5) && decide (ks.length = 3)
    else if isFn w = true then decide (k = 5) && decide (0 < ks.length)
    else false
set_option maxHeartbeats 8000000 in
set_option maxRecDepth 100000 in
theorem own_ok (t : Tree) : APure Try.prog 78 [t.av] (vb (ownK t)) := by
  have hb := bare_ok t
  obtain ⟨k, n, a, b, c, d, w, ks⟩ := t
  have hl := avs_len ks
  have hr := right_ok a b
  rw [bareT] at hb
  rw [Tree.av] at hb ⊢
  rw [Tree.av] at hb
  rw [ownK, bareT, Tree.words]
  by_cases h0 : k = 0
  · subst h0
    refine apure_in Try.func78 Try.ntmps78 rfl ?_
    repeat' (first
      | refine aw_seq ?_
      | (refine aw_run [3] ?_; try simp -implicitDefEqProofs (maxSteps := 1000000) [hl, List.lookup])
      | ((first | refine awl_skip' [3] rfl ?_ | refine awl_pure_guard [3] rfl rfl rfl (by first | assumption | kernel_rfl) rfl (fun hc => by first | exact hb | exact hr) (by simp) (by simp) (by simp) ?_ | refine awl_pure' [3] rfl rfl rfl (by first | assumption | kernel_rfl) rfl (by first | exact hb | exact hr) (by simp) (by simp) ?_ | refine aw_skip ?_ | refine aw_exit ?_); try simp -implicitDefEqProofs (maxSteps := 1000000) [hl, List.lookup])
      | (refine aw_cond rfl (fun h => ?_) (fun h => ?_) <;> try (with_reducible first | exact ff_tt h | exact tt_ff h))
      | refine aw_block ?_
      | refine aw_ret (ret_of (.inr rfl) (by simp [Try.results78]; rfl) (Fin.of ?_))
      | refine ret_of (.inl rfl) (by simp [Try.results78]; rfl) (Fin.of ?_))
    all_goals first | rfl | (simp [tupOf, List.lookup]; done) | (simp_all [tupOf]; done) | (simp [tupOf] at *; grind) | trace_state
  by_cases h1 : k = 1
  · subst h1
    refine apure_in Try.func78 Try.ntmps78 rfl ?_
    repeat' (first
      | refine aw_seq ?_
      | (refine aw_run [3] ?_; try simp -implicitDefEqProofs (maxSteps := 1000000) [hl, List.lookup])
      | ((first | refine awl_skip' [3] rfl ?_ | refine awl_pure_guard [3] rfl rfl rfl (by first | assumption | kernel_rfl) rfl (fun hc => by first | exact hb | exact hr) (by simp) (by simp) (by simp) ?_ | refine awl_pure' [3] rfl rfl rfl (by first | assumption | kernel_rfl) rfl (by first | exact hb | exact hr) (by simp) (by simp) ?_ | refine aw_skip ?_ | refine aw_exit ?_); try simp -implicitDefEqProofs (maxSteps := 1000000) [hl, List.lookup])
      | (refine aw_cond rfl (fun h => ?_) (fun h => ?_) <;> try (with_reducible first | exact ff_tt h | exact tt_ff h))
      | refine aw_block ?_
      | refine aw_ret (ret_of (.inr rfl) (by simp [Try.results78]; rfl) (Fin.of ?_))
      | refine ret_of (.inl rfl) (by simp [Try.results78]; rfl) (Fin.of ?_))
    all_goals first | rfl | (simp [tupOf, List.lookup]; done) | (simp_all [tupOf]; done) | (simp [tupOf] at *; grind) | trace_state
  by_cases h2 : k = 2
  · subst h2
    refine apure_in Try.func78 Try.ntmps78 rfl ?_
    repeat' (first
      | refine aw_seq ?_
      | (refine aw_run [3] ?_; try simp -implicitDefEqProofs (maxSteps := 1000000) [hl, List.lookup])
      | ((first | refine awl_skip' [3] rfl ?_ | refine awl_pure_guard [3] rfl rfl rfl (by first | assumption | kernel_rfl) rfl (fun hc => by first | exact hb | exact hr) (by simp) (by simp) (by simp) ?_ | refine awl_pure' [3] rfl rfl rfl (by first | assumption | kernel_rfl) rfl (by first | exact hb | exact hr) (by simp) (by simp) ?_ | refine aw_skip ?_ | refine aw_exit ?_); try simp -implicitDefEqProofs (maxSteps := 1000000) [hl, List.lookup])
      | (refine aw_cond rfl (fun h => ?_) (fun h => ?_) <;> try (with_reducible first | exact ff_tt h | exact tt_ff h))
      | refine aw_block ?_
      | refine aw_ret (ret_of (.inr rfl) (by simp [Try.results78]; rfl) (Fin.of ?_))
      | refine ret_of (.inl rfl) (by simp [Try.results78]; rfl) (Fin.of ?_))
    all_goals first | rfl | (simp [tupOf, List.lookup]; done) | (simp_all [tupOf]; done) | (simp [tupOf] at *; grind) | trace_state
  by_cases h6 : k = 6
  · subst h6
    refine apure_in Try.func78 Try.ntmps78 rfl ?_
    repeat' (first
      | refine aw_seq ?_
      | (refine aw_run [3] ?_; try simp -implicitDefEqProofs (maxSteps := 1000000) [hl, List.lookup])
      | ((first | refine awl_skip' [3] rfl ?_ | refine awl_pure_guard [3] rfl rfl rfl (by first | assumption | kernel_rfl) rfl (fun hc => by first | exact hb | exact whole_ok a b c d) (by simp) (by simp) (by simp) ?_ | refine awl_pure' [3] rfl rfl rfl (by first | assumption | kernel_rfl) rfl (by first | exact hb | exact whole_ok a b c d) (by simp) (by simp) ?_ | refine aw_skip ?_ | refine aw_exit ?_); try simp -implicitDefEqProofs (maxSteps := 1000000) [hl, List.lookup])
      | (refine aw_cond rfl (fun h => ?_) (fun h => ?_) <;> try (with_reducible first | exact ff_tt h | exact tt_ff h))
      | refine aw_block ?_
      | refine aw_ret (ret_of (.inr rfl) (by simp [Try.results78]; rfl) (Fin.of ?_))
      | refine ret_of (.inl rfl) (by simp [Try.results78]; rfl) (Fin.of ?_))
    all_goals first | rfl | (simp [tupOf, List.lookup]; done) | (simp_all [tupOf]; done) | (simp [tupOf] at *; grind) | trace_state
  by_cases h3 : k = 3
  · subst h3
    refine apure_in Try.func78 Try.ntmps78 rfl ?_
    repeat' (first
      | refine aw_seq ?_
      | (refine aw_run [3] ?_; try simp -implicitDefEqProofs (maxSteps := 1000000) [hl, List.lookup])
      | ((first | refine awl_skip' [3] rfl ?_ | refine awl_pure_guard [3] rfl rfl rfl (by first | assumption | kernel_rfl) rfl (fun hc => by first | exact hb | exact hr) (by simp) (by simp) (by simp) ?_ | refine awl_pure' [3] rfl rfl rfl (by first | assumption | kernel_rfl) rfl (by first | exact hb | exact hr) (by simp) (by simp) ?_ | refine aw_skip ?_ | refine aw_exit ?_); try simp -implicitDefEqProofs (maxSteps := 1000000) [hl, List.lookup])
      | (refine aw_cond rfl (fun h => ?_) (fun h => ?_) <;> try (with_reducible first | exact ff_tt h | exact tt_ff h))
      | refine aw_block ?_
      | refine aw_ret (ret_of (.inr rfl) (by simp [Try.results78]; rfl) (Fin.of ?_))
      | refine ret_of (.inl rfl) (by simp [Try.results78]; rfl) (Fin.of ?_))
    all_goals first | rfl | (simp [tupOf, List.lookup]; done) | (simp_all [tupOf]; done) | (simp [tupOf] at *; grind) | trace_state
  by_cases h4 : k = 4
  · subst h4
    refine apure_in Try.func78 Try.ntmps78 rfl ?_
    repeat' (first
      | refine aw_seq ?_
      | (refine aw_run [3] ?_; try simp -implicitDefEqProofs (maxSteps := 1000000) [hl, List.lookup])
      | ((first | refine awl_skip' [3] rfl ?_ | refine awl_pure_guard [3] rfl rfl rfl (by first | assumption | kernel_rfl) rfl (fun hc => by first | exact hb | exact strength_ok w) (by simp) (by simp) (by simp) ?_ | refine awl_pure' [3] rfl rfl rfl (by first | assumption | kernel_rfl) rfl (by first | exact hb | exact strength_ok w) (by simp) (by simp) ?_ | refine aw_skip ?_ | refine aw_exit ?_); try simp -implicitDefEqProofs (maxSteps := 1000000) [hl, List.lookup])
      | (refine aw_cond rfl (fun h => ?_) (fun h => ?_) <;> try (with_reducible first | exact ff_tt h | exact tt_ff h))
      | refine aw_block ?_
      | refine aw_ret (ret_of (.inr rfl) (by simp [Try.results78]; rfl) (Fin.of ?_))
      | refine ret_of (.inl rfl) (by simp [Try.results78]; rfl) (Fin.of ?_))
    all_goals first | rfl | (simp [tupOf, List.lookup]; done) | (simp_all [tupOf]; done) | (simp [tupOf] at *; grind) | trace_state
  have hk : ∀ x : Int, x = 0 ∨ x = 1 → True := fun _ _ => trivial
  by_cases h5 : k = 5
  · subst h5
    by_cases w1 : w = bIF
    · subst w1
      refine apure_in Try.func78 Try.ntmps78 rfl ?_
      repeat' (first
        | refine aw_seq ?_
        | (refine aw_run [3] ?_; try simp -implicitDefEqProofs (maxSteps := 1000000) [hl, List.lookup, isFn])
        | ((first | refine awl_skip' [3] rfl ?_ | refine awl_pure_guard [3] rfl rfl rfl (by first | assumption | kernel_rfl) rfl (fun hc => by first | exact hb | exact hr) (by simp) (by simp) (by simp) ?_ | refine awl_pure' [3] rfl rfl rfl (by first | assumption | kernel_rfl) rfl (by first | exact hb | exact hr) (by simp) (by simp) ?_ | refine aw_skip ?_ | refine aw_exit ?_); try simp -implicitDefEqProofs (maxSteps := 1000000) [hl, List.lookup, isFn])
        | (refine aw_cond rfl (fun h => ?_) (fun h => ?_) <;> try (with_reducible first | exact ff_tt h | exact tt_ff h))
        | refine aw_block ?_
        | refine aw_ret (ret_of (.inr rfl) (by simp [Try.results78]; rfl) (Fin.of ?_))
        | refine ret_of (.inl rfl) (by simp [Try.results78]; rfl) (Fin.of ?_))
      all_goals first | rfl | (simp [tupOf, List.lookup, isFn]; done) | (simp_all [tupOf]; done) | (simp [tupOf] at *; grind) | trace_state
    by_cases w2 : w = ⟨#[83, 85, 77]⟩
    · subst w2
      refine apure_in Try.func78 Try.ntmps78 rfl ?_
      repeat' (first
        | refine aw_seq ?_
        | (refine aw_run [3] ?_; try simp -implicitDefEqProofs (maxSteps := 1000000) [hl, List.lookup, isFn])
        | ((first | refine awl_skip' [3] rfl ?_ | refine awl_pure_guard [3] rfl rfl rfl (by first | assumption | kernel_rfl) rfl (fun hc => by first | exact hb | exact hr) (by simp) (by simp) (by simp) ?_ | refine awl_pure' [3] rfl rfl rfl (by first | assumption | kernel_rfl) rfl (by first | exact hb | exact hr) (by simp) (by simp) ?_ | refine aw_skip ?_ | refine aw_exit ?_); try simp -implicitDefEqProofs (maxSteps := 1000000) [hl, List.lookup, isFn])
        | (refine aw_cond rfl (fun h => ?_) (fun h => ?_) <;> try (with_reducible first | exact ff_tt h | exact tt_ff h))
        | refine aw_block ?_
        | refine aw_ret (ret_of (.inr rfl) (by simp [Try.results78]; rfl) (Fin.of ?_))
        | refine ret_of (.inl rfl) (by simp [Try.results78]; rfl) (Fin.of ?_))
      all_goals first | rfl | (simp [tupOf, List.lookup, isFn]; done) | (simp_all [tupOf]; done) | (simp [tupOf] at *; grind) | trace_state
    by_cases w3 : w = ⟨#[77, 73, 78]⟩
    · subst w3
      refine apure_in Try.func78 Try.ntmps78 rfl ?_
      repeat' (first
        | refine aw_seq ?_
        | (refine aw_run [3] ?_; try simp -implicitDefEqProofs (maxSteps := 1000000) [hl, List.lookup, isFn])
        | ((first | refine awl_skip' [3] rfl ?_ | refine awl_pure_guard [3] rfl rfl rfl (by first | assumption | kernel_rfl) rfl (fun hc => by first | exact hb | exact hr) (by simp) (by simp) (by simp) ?_ | refine awl_pure' [3] rfl rfl rfl (by first | assumption | kernel_rfl) rfl (by first | exact hb | exact hr) (by simp) (by simp) ?_ | refine aw_skip ?_ | refine aw_exit ?_); try simp -implicitDefEqProofs (maxSteps := 1000000) [hl, List.lookup, isFn])
        | (refine aw_cond rfl (fun h => ?_) (fun h => ?_) <;> try (with_reducible first | exact ff_tt h | exact tt_ff h))
        | refine aw_block ?_
        | refine aw_ret (ret_of (.inr rfl) (by simp [Try.results78]; rfl) (Fin.of ?_))
        | refine ret_of (.inl rfl) (by simp [Try.results78]; rfl) (Fin.of ?_))
      all_goals first | rfl | (simp [tupOf, List.lookup, isFn]; done) | (simp_all [tupOf]; done) | (simp [tupOf] at *; grind) | trace_state
    by_cases w4 : w = ⟨#[77, 65, 88]⟩
    · subst w4
      refine apure_in Try.func78 Try.ntmps78 rfl ?_
      repeat' (first
        | refine aw_seq ?_
        | (refine aw_run [3] ?_; try simp -implicitDefEqProofs (maxSteps := 1000000) [hl, List.lookup, isFn])
        | ((first | refine awl_skip' [3] rfl ?_ | refine awl_pure_guard [3] rfl rfl rfl (by first | assumption | kernel_rfl) rfl (fun hc => by first | exact hb | exact hr) (by simp) (by simp) (by simp) ?_ | refine awl_pure' [3] rfl rfl rfl (by first | assumption | kernel_rfl) rfl (by first | exact hb | exact hr) (by simp) (by simp) ?_ | refine aw_skip ?_ | refine aw_exit ?_); try simp -implicitDefEqProofs (maxSteps := 1000000) [hl, List.lookup, isFn])
        | (refine aw_cond rfl (fun h => ?_) (fun h => ?_) <;> try (with_reducible first | exact ff_tt h | exact tt_ff h))
        | refine aw_block ?_
        | refine aw_ret (ret_of (.inr rfl) (by simp [Try.results78]; rfl) (Fin.of ?_))
        | refine ret_of (.inl rfl) (by simp [Try.results78]; rfl) (Fin.of ?_))
      all_goals first | rfl | (simp [tupOf, List.lookup, isFn]; done) | (simp_all [tupOf]; done) | (simp [tupOf] at *; grind) | trace_state
    by_cases w5 : w = bCOUNT
    · subst w5
      refine apure_in Try.func78 Try.ntmps78 rfl ?_
      repeat' (first
        | refine aw_seq ?_
        | (refine aw_run [3] ?_; try simp -implicitDefEqProofs (maxSteps := 1000000) [hl, List.lookup, isFn])
        | ((first | refine awl_skip' [3] rfl ?_ | refine awl_pure_guard [3] rfl rfl rfl (by first | assumption | kernel_rfl) rfl (fun hc => by first | exact hb | exact hr) (by simp) (by simp) (by simp) ?_ | refine awl_pure' [3] rfl rfl rfl (by first | assumption | kernel_rfl) rfl (by first | exact hb | exact hr) (by simp) (by simp) ?_ | refine aw_skip ?_ | refine aw_exit ?_); try simp -implicitDefEqProofs (maxSteps := 1000000) [hl, List.lookup, isFn])
        | (refine aw_cond rfl (fun h => ?_) (fun h => ?_) <;> try (with_reducible first | exact ff_tt h | exact tt_ff h))
        | refine aw_block ?_
        | refine aw_ret (ret_of (.inr rfl) (by simp [Try.results78]; rfl) (Fin.of ?_))
        | refine ret_of (.inl rfl) (by simp [Try.results78]; rfl) (Fin.of ?_))
      all_goals first | rfl | (simp [tupOf, List.lookup, isFn]; done) | (simp_all [tupOf]; done) | (simp [tupOf] at *; grind) | trace_state
    refine apure_in Try.func78 Try.ntmps78 rfl ?_
    repeat' (first
      | refine aw_seq ?_
      | (refine aw_run [3] ?_; try simp -implicitDefEqProofs (maxSteps := 1000000) [hl, w1, w2, w3, w4, w5, isFn])
      | ((first | refine awl_skip' [3] rfl ?_ | refine awl_pure_guard [3] rfl rfl rfl (by first | assumption | kernel_rfl) rfl (fun hc => by first | exact hb | exact hr) (by simp) (by simp) (by simp) ?_ | refine awl_pure' [3] rfl rfl rfl (by first | assumption | kernel_rfl) rfl (by first | exact hb | exact hr) (by simp) (by simp) ?_ | refine aw_skip ?_ | refine aw_exit ?_); try simp -implicitDefEqProofs (maxSteps := 1000000) [hl, w1, w2, w3, w4, w5, isFn])
      | (refine aw_cond rfl (fun h => ?_) (fun h => ?_) <;> try (with_reducible first | exact ff_tt h | exact tt_ff h))
      | refine aw_block ?_
      | refine aw_ret (ret_of (.inr rfl) (by simp [Try.results78]; rfl) (Fin.of ?_))
      | refine ret_of (.inl rfl) (by simp [Try.results78]; rfl) (Fin.of ?_))
    all_goals first | rfl | (simp [tupOf, w1, w2, w3, w4, w5, isFn]; done) | (simp_all [tupOf]; done) | (simp [tupOf] at *; grind) | trace_state
  by_cases w1 : w = bIF
  · subst w1
    refine apure_in Try.func78 Try.ntmps78 rfl ?_
    repeat' (first
      | refine aw_seq ?_
      | (refine aw_run [3] ?_; try simp -implicitDefEqProofs (maxSteps := 1000000) [hl, h0, h1, h2, h6, h3, h4, h5, isFn])
      | ((first | refine awl_skip' [3] rfl ?_ | refine awl_pure_guard [3] rfl rfl rfl (by first | assumption | kernel_rfl) rfl (fun hc => by first | exact hb | exact hr) (by simp) (by simp) (by simp) ?_ | refine awl_pure' [3] rfl rfl rfl (by first | assumption | kernel_rfl) rfl (by first | exact hb | exact hr) (by simp) (by simp) ?_ | refine aw_skip ?_ | refine aw_exit ?_); try simp -implicitDefEqProofs (maxSteps := 1000000) [hl, h0, h1, h2, h6, h3, h4, h5, isFn])
      | (refine aw_cond rfl (fun h => ?_) (fun h => ?_) <;> try (with_reducible first | exact ff_tt h | exact tt_ff h))
      | refine aw_block ?_
      | refine aw_ret (ret_of (.inr rfl) (by simp [Try.results78]; rfl) (Fin.of ?_))
      | refine ret_of (.inl rfl) (by simp [Try.results78]; rfl) (Fin.of ?_))
    all_goals first | rfl | (simp [tupOf, h0, h1, h2, h6, h3, h4, h5, isFn]; done) | (simp_all [tupOf]; done) | (simp [tupOf] at *; grind) | trace_state
  by_cases w2 : w = ⟨#[83, 85, 77]⟩
  · subst w2
    refine apure_in Try.func78 Try.ntmps78 rfl ?_
    repeat' (first
      | refine aw_seq ?_
      | (refine aw_run [3] ?_; try simp -implicitDefEqProofs (maxSteps := 1000000) [hl, h0, h1, h2, h6, h3, h4, h5, isFn])
      | ((first | refine awl_skip' [3] rfl ?_ | refine awl_pure_guard [3] rfl rfl rfl (by first | assumption | kernel_rfl) rfl (fun hc => by first | exact hb | exact hr) (by simp) (by simp) (by simp) ?_ | refine awl_pure' [3] rfl rfl rfl (by first | assumption | kernel_rfl) rfl (by first | exact hb | exact hr) (by simp) (by simp) ?_ | refine aw_skip ?_ | refine aw_exit ?_); try simp -implicitDefEqProofs (maxSteps := 1000000) [hl, h0, h1, h2, h6, h3, h4, h5, isFn])
      | (refine aw_cond rfl (fun h => ?_) (fun h => ?_) <;> try (with_reducible first | exact ff_tt h | exact tt_ff h))
      | refine aw_block ?_
      | refine aw_ret (ret_of (.inr rfl) (by simp [Try.results78]; rfl) (Fin.of ?_))
      | refine ret_of (.inl rfl) (by simp [Try.results78]; rfl) (Fin.of ?_))
    all_goals first | rfl | (simp [tupOf, h0, h1, h2, h6, h3, h4, h5, isFn]; done) | (simp_all [tupOf]; done) | (simp [tupOf] at *; grind) | trace_state
  by_cases w3 : w = ⟨#[77, 73, 78]⟩
  · subst w3
    refine apure_in Try.func78 Try.ntmps78 rfl ?_
    repeat' (first
      | refine aw_seq ?_
      | (refine aw_run [3] ?_; try simp -implicitDefEqProofs (maxSteps := 1000000) [hl, h0, h1, h2, h6, h3, h4, h5, isFn])
      | ((first | refine awl_skip' [3] rfl ?_ | refine awl_pure_guard [3] rfl rfl rfl (by first | assumption | kernel_rfl) rfl (fun hc => by first | exact hb | exact hr) (by simp) (by simp) (by simp) ?_ | refine awl_pure' [3] rfl rfl rfl (by first | assumption | kernel_rfl) rfl (by first | exact hb | exact hr) (by simp) (by simp) ?_ | refine aw_skip ?_ | refine aw_exit ?_); try simp -implicitDefEqProofs (maxSteps := 1000000) [hl, h0, h1, h2, h6, h3, h4, h5, isFn])
      | (refine aw_cond rfl (fun h => ?_) (fun h => ?_) <;> try (with_reducible first | exact ff_tt h | exact tt_ff h))
      | refine aw_block ?_
      | refine aw_ret (ret_of (.inr rfl) (by simp [Try.results78]; rfl) (Fin.of ?_))
      | refine ret_of (.inl rfl) (by simp [Try.results78]; rfl) (Fin.of ?_))
    all_goals first | rfl | (simp [tupOf, h0, h1, h2, h6, h3, h4, h5, isFn]; done) | (simp_all [tupOf]; done) | (simp [tupOf] at *; grind) | trace_state
  by_cases w4 : w = ⟨#[77, 65, 88]⟩
  · subst w4
    refine apure_in Try.func78 Try.ntmps78 rfl ?_
    repeat' (first
      | refine aw_seq ?_
      | (refine aw_run [3] ?_; try simp -implicitDefEqProofs (maxSteps := 1000000) [hl, h0, h1, h2, h6, h3, h4, h5, isFn])
      | ((first | refine awl_skip' [3] rfl ?_ | refine awl_pure_guard [3] rfl rfl rfl (by first | assumption | kernel_rfl) rfl (fun hc => by first | exact hb | exact hr) (by simp) (by simp) (by simp) ?_ | refine awl_pure' [3] rfl rfl rfl (by first | assumption | kernel_rfl) rfl (by first | exact hb | exact hr) (by simp) (by simp) ?_ | refine aw_skip ?_ | refine aw_exit ?_); try simp -implicitDefEqProofs (maxSteps := 1000000) [hl, h0, h1, h2, h6, h3, h4, h5, isFn])
      | (refine aw_cond rfl (fun h => ?_) (fun h => ?_) <;> try (with_reducible first | exact ff_tt h | exact tt_ff h))
      | refine aw_block ?_
      | refine aw_ret (ret_of (.inr rfl) (by simp [Try.results78]; rfl) (Fin.of ?_))
      | refine ret_of (.inl rfl) (by simp [Try.results78]; rfl) (Fin.of ?_))
    all_goals first | rfl | (simp [tupOf, h0, h1, h2, h6, h3, h4, h5, isFn]; done) | (simp_all [tupOf]; done) | (simp [tupOf] at *; grind) | trace_state
  by_cases w5 : w = bCOUNT
  · subst w5
    refine apure_in Try.func78 Try.ntmps78 rfl ?_
    repeat' (first
      | refine aw_seq ?_
      | (refine aw_run [3] ?_; try simp -implicitDefEqProofs (maxSteps := 1000000) [hl, h0, h1, h2, h6, h3, h4, h5, isFn])
      | ((first | refine awl_skip' [3] rfl ?_ | refine awl_pure_guard [3] rfl rfl rfl (by first | assumption | kernel_rfl) rfl (fun hc => by first | exact hb | exact hr) (by simp) (by simp) (by simp) ?_ | refine awl_pure' [3] rfl rfl rfl (by first | assumption | kernel_rfl) rfl (by first | exact hb | exact hr) (by simp) (by simp) ?_ | refine aw_skip ?_ | refine aw_exit ?_); try simp -implicitDefEqProofs (maxSteps := 1000000) [hl, h0, h1, h2, h6, h3, h4, h5, isFn])
      | (refine aw_cond rfl (fun h => ?_) (fun h => ?_) <;> try (with_reducible first | exact ff_tt h | exact tt_ff h))
      | refine aw_block ?_
      | refine aw_ret (ret_of (.inr rfl) (by simp [Try.results78]; rfl) (Fin.of ?_))
      | refine ret_of (.inl rfl) (by simp [Try.results78]; rfl) (Fin.of ?_))
    all_goals first | rfl | (simp [tupOf, h0, h1, h2, h6, h3, h4, h5, isFn]; done) | (simp_all [tupOf]; done) | (simp [tupOf] at *; grind) | trace_state
  refine apure_in Try.func78 Try.ntmps78 rfl ?_
  repeat' (first
    | refine aw_seq ?_
    | (refine aw_run [3] ?_; try simp -implicitDefEqProofs (maxSteps := 1000000) [hl, h0, h1, h2, h6, h3, h4, h5, w1, w2, w3, w4, w5, isFn])
    | ((first | refine awl_skip' [3] rfl ?_ | refine awl_pure_guard [3] rfl rfl rfl (by first | assumption | kernel_rfl) rfl (fun hc => by first | exact hb | exact hr) (by simp) (by simp) (by simp) ?_ | refine awl_pure' [3] rfl rfl rfl (by first | assumption | kernel_rfl) rfl (by first | exact hb | exact hr) (by simp) (by simp) ?_ | refine aw_skip ?_ | refine aw_exit ?_); try simp -implicitDefEqProofs (maxSteps := 1000000) [hl, h0, h1, h2, h6, h3, h4, h5, w1, w2, w3, w4, w5, isFn])
    | (refine aw_cond rfl (fun h => ?_) (fun h => ?_) <;> try (with_reducible first | exact ff_tt h | exact tt_ff h))
    | refine aw_block ?_
    | refine aw_ret (ret_of (.inr rfl) (by simp [Try.results78]; rfl) (Fin.of ?_))
    | refine ret_of (.inl rfl) (by simp [Try.results78]; rfl) (Fin.of ?_))
  all_goals first | rfl | (simp [tupOf, h0, h1, h2, h6, h3, h4, h5, w1, w2, w3, w4, w5, isFn]; done) | (simp_all [tupOf]; done) | (simp [tupOf] at *; grind) | trace_state
end Go.AL
/-! Contracts: syntax.right, Right. -/
namespace Go.AL
open Go.Proofs
set_option linter.unusedSimpArgs false
set_option linter.unusedVariables false
@[simp] def Tree.kids : Tree → List Tree
  | .mk _ _ _ _ _ _ _ ks => ks
def rightK : Nat → Tree → Bool
  | 0, _ => false
  | d + 1, t => ownK t && t.kids.all fun u => fitsK t u && rightK d u
set_option maxHeartbeats 8000000 in
set_option maxRecDepth 100000 in
theorem sright_ok : ∀ (d : Nat) (t : Tree), d ≤ 16 → t.sh → APure Try.prog 55 [t.av, vi d] (vb (rightK d t)) := by
  intro d
  induction d with
  | zero =>
    intro t _ _
    obtain ⟨k, n, a, b, c, d, w, ks⟩ := t
    rw [Tree.av, rightK]
    refine apure_in Try.func55 Try.ntmps55 rfl ?_
    repeat' first | refine aw_N [6] trivial trivial ?_ | refine aw_cond rfl (fun h => ?_) (fun h => ?_)
    all_goals first | rfl | (simp [tupOf]; done) | trace_state
  | succ e ihd =>
    intro t hd hsh
    have ho := own_ok t
    have hfits := fun u => fits_ok t u
    rw [rightK]
    generalize hob : ownK t = ob at *
    generalize hfk : fitsK t = fk at *
    obtain ⟨k, n, a, b, c, d, w, ks⟩ := t
    rw [Tree.sh, shs_all] at hsh
    obtain ⟨hlk, hsh⟩ := hsh
    have hl := avs_len ks
    rw [Tree.av] at ho hfits ⊢
    simp only [Tree.kids]
    have he0 : ¬ ((e : Int) + 1 = 0) := by omega
    have we : IntKind.i64.wrap (e : Int) = (e : Int) := wrap_id (by omega) (by omega)
    have we1 : IntKind.i64.wrap ((e : Int) + 1 - 1) = (e : Int) := by rw [Int.add_sub_cancel]; exact we
    rw [show ((e + 1 : Nat) : Int) = (e : Int) + 1 by omega]
    cases ob with
    | false =>
      refine apure_in Try.func55 Try.ntmps55 rfl ?_
      repeat' first | refine aw_N [6] @he0 (And.intro @ho trivial) ?_ | refine aw_cond rfl (fun h => ?_) (fun h => ?_)
      all_goals first | rfl | (simp [tupOf]; done) | trace_state
    | true =>
      refine apure_in Try.func55 Try.ntmps55 rfl ?_
      repeat' first | refine aw_N [6] (And.intro @he0 @hl) (And.intro @ho trivial) ?_ | refine aw_cond rfl (fun h => ?_) (fun h => ?_)
      refine aw_loopW [1, 2, 15, 16, 17] (fun q fr σ => ∃ i M : Nat, i + q = ks.length ∧ (ks.take i).all (fun u => fk u && rightK e u) = true ∧ σ = mkSt [] [] M ∧ fr = frm 33 [(1, vi ((e : Int) + 1)), (2, .vel [.agg [vi k, vi n, vi a, vi b, vi c, vi d, vs w, .vsl (avs ks)]] 0 0), (15, .vsl (avs ks)), (16, vi ks.length), (17, vi (i : Nat))]) ks.length ?_ ?_
      · exact ⟨mkSt [] [] 0, le_mkSt (by simp) (by simp) (by simp [σ0]), 0, 0, by omega, by simp, rfl, by simp [hl]⟩
      · rintro q fr σ ⟨i, M, hi, hal, rfl, rfl⟩
        simp -implicitDefEqProofs
        by_cases hlt : i < ks.length
        · have hlti : (i : Int) < ks.length := by omega
          obtain ⟨t, ht⟩ : ∃ t, ks[i] = t := ⟨_, rfl⟩
          have hmem : t ∈ ks := ht ▸ List.getElem_mem hlt
          have hr := ihd t (by omega) (hsh t hmem)
          have hf := hfits t
          have hg := avs_get hlt
          rw [ht] at hg
          have hla : i < (avs ks).length := by omega
          have wi : IntKind.i64.wrap ((i : Int) + 1) = (i : Int) + 1 := wrap_id (by omega) (by omega)
          have hyes : (fk t && rightK e t) = true → (ks.take (i + 1)).all (fun u => fk u && rightK e u) = true := fun h => all_take (p := fun u => fk u && rightK e u) hlt hal (by rw [ht]; exact h)
          have hno : (fk t && rightK e t) = false → ks.all (fun u => fk u && rightK e u) = false := fun h => all_not (p := fun u => fk u && rightK e u) hmem h
          generalize fk t = fb at *
          generalize rightK e t = rb at *
          obtain ⟨tk, tn, ta, tb, tc, td, tw, tks⟩ := t
          rw [Tree.av] at hr hg hf
          repeat' first | refine aw_N [6] (And.intro @hl (And.intro @hlti (And.intro @hla (And.intro @hg (And.intro @wi (And.intro @we @we1)))))) (And.intro @hf (And.intro @hr trivial)) ?_ | refine aw_cond rfl (fun h => ?_) (fun h => ?_)
          · rw [hno (by revert h; cases fb <;> cases rb <;> simp)]; simp [tupOf]
          · have hy := hyes (by revert h; cases fb <;> cases rb <;> simp)
            exact ⟨q - 1, by omega, mkSt [] [] (M + 1), le_mkSt (by simp) (by simp) (by simp), i + 1, by omega, fun x hx => by have := List.all_eq_true.1 hy x hx; simpa using this, ⟨_, rfl⟩, by omega⟩
        · have hlti : ¬ (i : Int) < ks.length := by omega
          rw [List.take_of_length_le (by omega)] at hal
          rw [hal]
          repeat' first | refine aw_N [6] (And.intro @hl @hlti) trivial ?_ | refine aw_cond rfl (fun h => ?_) (fun h => ?_)
          simp [tupOf]
set_option maxHeartbeats 8000000 in
set_option maxRecDepth 100000 in
theorem sRight_ok (t : Tree) (h : t.sh) : APure Try.prog 38 [t.av] (vb (!decide (t.kind = 6) && rightK 16 t)) := by
  have hr := sright_ok 16 t (by omega) h
  generalize rightK 16 t = rb at *
  obtain ⟨k, n, a, b, c, d, w, ks⟩ := t
  rw [Tree.av] at hr ⊢
  simp only [Tree.kind]
  refine apure_in Try.func38 Try.ntmps38 rfl ?_
  repeat' first | refine aw_N [] trivial (And.intro @hr trivial) ?_ | refine aw_cond rfl (fun h => ?_) (fun h => ?_)
  first | rfl | (by_cases h6 : k = 6 <;> simp [tupOf, h6])
end Go.AL
/-! The program's 'right' is the document's. -/
namespace Go.AL
open Go.Proofs
set_option linter.unusedSimpArgs false
set_option linter.unusedVariables false
theorem str_lvl (w : ByteArray) : strT w < 3 ↔ 0 < lvl w := by
  have e0 : 0 ≤ idxS w mk0 0 ↔ w = ⟨#[60]⟩ ∨ w = ⟨#[60, 61]⟩ ∨ w = ⟨#[61]⟩ ∨ w = ⟨#[60, 62]⟩ ∨ w = ⟨#[62, 61]⟩ ∨ w = ⟨#[62]⟩ := by rw [idxS_iff]; simp [mk0]
  have e1 : 0 ≤ idxS w mk1 0 ↔ w = ⟨#[43]⟩ ∨ w = ⟨#[45]⟩ := by rw [idxS_iff]; simp [mk1]
  have e2 : 0 ≤ idxS w mk2 0 ↔ w = ⟨#[42]⟩ ∨ w = ⟨#[47]⟩ := by rw [idxS_iff]; simp [mk2]
  unfold strT lvl
  by_cases h0 : 0 ≤ idxS w mk0 0
  · rw [if_pos h0, if_pos (e0.1 h0)]; decide
  rw [if_neg h0, if_neg (fun h => h0 (e0.2 h))]
  by_cases h1 : 0 ≤ idxS w mk1 0
  · rw [if_pos h1, if_pos (e1.1 h1)]; decide
  rw [if_neg h1, if_neg (fun h => h1 (e1.2 h))]
  by_cases h2 : 0 ≤ idxS w mk2 0
  · rw [if_pos h2, if_pos (e2.1 h2)]; decide
  · rw [if_neg h2, if_neg (fun h => h2 (e2.2 h))]; decide
def Base (k n a b c d : Int) (w : ByteArray) : Prop := (k = 0 ∨ n = 0) ∧ (k = 1 ∨ k = 6 ∨ (a = 0 ∧ b = 0 ∧ c = 0 ∧ d = 0)) ∧ (k = 4 ∨ k = 5 ∨ w = ⟨#[]⟩)
theorem only_iff (k n a b c d : Int) (w : ByteArray) (ks : List Tree) (m : Int) : onlyB (.mk k n a b c d w ks) m = true ↔ Base k n a b c d w ∧ (ks.length : Int) = m := by
  simp only [onlyB, Base, Bool.and_eq_true, Bool.or_eq_true, decide_eq_true_eq]
  constructor
  · rintro ⟨⟨⟨h1, h2⟩, h3⟩, h4⟩
    refine ⟨⟨h1, ?_, ?_⟩, h4⟩
    · rcases h2 with (h | h) | h
      · exact .inl h
      · exact .inr (.inl h)
      · exact .inr (.inr ⟨h.1.1.1, h.1.1.2, h.1.2, h.2⟩)
    · rcases h3 with (h | h) | h
      · exact .inl h
      · exact .inr (.inl h)
      · exact .inr (.inr h)
  · rintro ⟨⟨h1, h2, h3⟩, h4⟩
    refine ⟨⟨⟨h1, ?_⟩, ?_⟩, h4⟩
    · rcases h2 with h | h | h
      · exact .inl (.inl h)
      · exact .inl (.inr h)
      · exact .inr ⟨⟨⟨h.1, h.2.1⟩, h.2.2.1⟩, h.2.2.2⟩
    · rcases h3 with h | h | h
      · exact .inl (.inl h)
      · exact .inl (.inr h)
      · exact .inr h
theorem bare_iff (k n a b c d : Int) (w : ByteArray) (ks : List Tree) : (bareT (.mk k n a b c d w ks)).words = (n, (a, b, c, d), w) ↔ Base k n a b c d w := by
  simp only [bareT, Tree.words, Prod.mk.injEq, Base]
  by_cases h0 : k = 0 <;> by_cases h1 : k = 1 <;> by_cases h6 : k = 6 <;> by_cases h4 : k = 4 <;> by_cases h5 : k = 5 <;> simp [h0, h1, h6, h4, h5, eq_comm] <;> (try omega) <;> (try (constructor <;> (intro h; simp_all)))
theorem own_iff (k n a b c d : Int) (w : ByteArray) (ks : List Tree) : ownK (.mk k n a b c d w ks) = true ↔ Base k n a b c d w ∧
    (if k = 0 then ks.length = 0 ∧ 0 ≤ n
    else if k = 1 then ks.length = 0 ∧ rightP a b = true ∧ a = c ∧ b = d
    else if k = 2 then ks.length = 0
    else if k = 6 then ks.length = 0 ∧ wholeP a b c d = true
    else if k = 3 then ks.length = 1
    else if k = 4 then ks.length = 2 ∧ 0 < lvl w
    else k = 5 ∧ (if w = bIF then ks.length = 3 else isFn w = true ∧ 0 < ks.length)) := by
  rw [ownK]
  by_cases hb : (bareT (.mk k n a b c d w ks)).words = (n, (a, b, c, d), w)
  · rw [if_neg (by simpa using hb)]
    have hB := (bare_iff k n a b c d w ks).1 hb
    simp only [hB, true_and]
    by_cases h0 : k = 0
    · simp [h0]
    rw [if_neg h0, if_neg h0]
    by_cases h1 : k = 1
    · simp [h1, and_assoc]
    rw [if_neg h1, if_neg h1]
    by_cases h2 : k = 2
    · simp [h2]
    rw [if_neg h2, if_neg h2]
    by_cases h6 : k = 6
    · simp [h6]
    rw [if_neg h6, if_neg h6]
    by_cases h3 : k = 3
    · simp [h3]
    rw [if_neg h3, if_neg h3]
    by_cases h4 : k = 4
    · simp [h4, str_lvl]
    rw [if_neg h4, if_neg h4]
    by_cases hw : w = bIF
    · simp [hw]
    rw [if_neg hw, if_neg hw]
    by_cases hf : isFn w = true
    · simp [hf]
    · simp [hf]
  · rw [if_pos (by simpa using hb)]
    exact ⟨fun h => (by cases h), fun h => absurd ((bare_iff k n a b c d w ks).2 h.1) hb⟩
theorem pass_iff (sp co m : Bool) (k : Int) : passB sp co m k = true ↔ m = true ∧ (sp = true ∨ k ≠ 6) ∧ (co = false ∨ k = 6 ∨ k = 2) := by
  unfold passB
  cases sp <;> cases co <;> cases m <;> by_cases h6 : k = 6 <;> by_cases h2 : k = 2 <;> simp [h6, h2]
theorem may_own (k n a b c d : Int) (w : ByteArray) (ks : List Tree) : mayB (.mk k n a b c d w ks) = true ↔ ownK (.mk k n a b c d w ks) = true ∧ ∀ u ∈ ks, fitsK (.mk k n a b c d w ks) u = true ∧ mayB u = true := by
  have hall : ∀ sp co, allB sp co ks = true ↔ ∀ u ∈ ks, mayB u = true ∧ (sp = true ∨ u.kind ≠ 6) ∧ (co = false ∨ u.kind = 6 ∨ u.kind = 2) := fun sp co => by
    rw [allB_all, List.all_eq_true]
    exact forall_congr' fun u => imp_congr_right fun _ => pass_iff _ _ _ _
  have hnil : ks.length = 0 → ∀ u ∈ ks, fitsK (.mk k n a b c d w ks) u = true ∧ mayB u = true := fun h u hu => by
    rw [List.length_eq_zero_iff.1 h] at hu; cases hu
  have hlen : ∀ m : Nat, ((ks.length : Int) = m) ↔ ks.length = m := fun m => by omega
  rw [own_iff, mayB]
  by_cases h0 : k = 0
  · rw [if_pos h0, if_pos h0, Bool.and_eq_true, only_iff, decide_eq_true_eq]
    exact ⟨fun h => ⟨⟨h.1.1, by have := h.1.2; omega, h.2⟩, hnil (by have := h.1.2; omega)⟩, fun h => ⟨⟨h.1.1, by have := h.1.2.1; omega⟩, h.1.2.2⟩⟩
  rw [if_neg h0, if_neg h0]
  by_cases h1 : k = 1
  · rw [if_pos h1, if_pos h1]
    simp only [Bool.and_eq_true, only_iff, decide_eq_true_eq]
    exact ⟨fun h => ⟨⟨h.1.1.1, by have := h.1.1.2; omega, h.1.2, h.2⟩, hnil (by have := h.1.1.2; omega)⟩, fun h => ⟨⟨⟨h.1.1, by have := h.1.2.1; omega⟩, h.1.2.2.1⟩, h.1.2.2.2⟩⟩
  rw [if_neg h1, if_neg h1]
  by_cases h2 : k = 2
  · rw [if_pos h2, if_pos h2, only_iff]
    exact ⟨fun h => ⟨⟨h.1, by have := h.2; omega⟩, hnil (by have := h.2; omega)⟩, fun h => ⟨h.1.1, by have := h.1.2; omega⟩⟩
  rw [if_neg h2, if_neg h2]
  by_cases h6 : k = 6
  · rw [if_pos h6, if_pos h6]
    simp only [Bool.and_eq_true, only_iff]
    exact ⟨fun h => ⟨⟨h.1.1, by have := h.1.2; omega, h.2⟩, hnil (by have := h.1.2; omega)⟩, fun h => ⟨⟨h.1.1, by have := h.1.2.1; omega⟩, h.1.2.2⟩⟩
  rw [if_neg h6, if_neg h6]
  have hfit : k ≠ 5 → ∀ u, fitsK (.mk k n a b c d w ks) u = true ↔ u.kind ≠ 6 := fun h5 u => by
    rw [fitsK, if_neg (fun h => h5 h.1), if_neg (fun h => h5 h.1)]; simp only [Bool.not_eq_true', decide_eq_false_iff_not, ne_eq]
  by_cases h3 : k = 3
  · rw [if_pos h3, if_pos h3]
    simp only [Bool.and_eq_true, only_iff, hall, hfit (by omega)]
    exact ⟨fun h => ⟨⟨h.1.1, by have := h.1.2; omega⟩, fun u hu => ⟨((h.2 u hu).2.1).resolve_left (by decide), (h.2 u hu).1⟩⟩, fun h => ⟨⟨h.1.1, by have := h.1.2; omega⟩, fun u hu => ⟨(h.2 u hu).2, .inr (h.2 u hu).1, Or.inl (by trivial)⟩⟩⟩
  rw [if_neg h3, if_neg h3]
  by_cases h4 : k = 4
  · rw [if_pos h4, if_pos h4]
    simp only [Bool.and_eq_true, only_iff, hall, hfit (by omega), decide_eq_true_eq]
    exact ⟨fun h => ⟨⟨h.1.1.1, by have := h.1.1.2; omega, h.2⟩, fun u hu => ⟨((h.1.2 u hu).2.1).resolve_left (by decide), (h.1.2 u hu).1⟩⟩, fun h => ⟨⟨⟨h.1.1, by have := h.1.2.1; omega⟩, fun u hu => ⟨(h.2 u hu).2, .inr (h.2 u hu).1, Or.inl (by trivial)⟩⟩, h.1.2.2⟩⟩
  rw [if_neg h4, if_neg h4]
  by_cases h5 : k = 5
  · rw [if_pos h5]
    simp only [h5, true_and]
    by_cases hw : w = bIF
    · have hc : ¬ w = bCOUNT := by rw [hw]; decide
      rw [if_pos hw, if_pos hw]
      have hf : ∀ u, fitsK (.mk 5 n a b c d w ks) u = true ↔ u.kind ≠ 6 := fun u => by
        rw [fitsK, if_neg (fun h => hc h.2), if_neg (fun h => h.2 hw)]; simp only [Bool.not_eq_true', decide_eq_false_iff_not, ne_eq]
      simp only [Bool.and_eq_true, only_iff, hall, hf, decide_eq_true_eq, h5]
      have e1 : (!decide (w = bIF)) = false := by simp [hw]
      have e2 : decide (w = bCOUNT) = false := by simp [hc]
      rw [e1, e2]
      exact ⟨fun h => ⟨⟨h.1.1.1, by have := h.2; omega⟩, fun u hu => ⟨((h.1.2 u hu).2.1).resolve_left (by decide), (h.1.2 u hu).1⟩⟩, fun h => ⟨⟨⟨h.1.1, trivial⟩, fun u hu => ⟨(h.2 u hu).2, .inr (h.2 u hu).1, Or.inl (by trivial)⟩⟩, by have := h.1.2; omega⟩⟩
    · rw [if_neg hw, if_neg hw]
      by_cases hfn : isFn w = true
      · rw [if_pos hfn]
        have e1 : (!decide (w = bIF)) = true := by simp [hw]
        simp only [Bool.and_eq_true, only_iff, hall, decide_eq_true_eq, h5, hfn, true_and]
        rw [e1]
        by_cases hc : w = bCOUNT
        · have e2 : decide (w = bCOUNT) = true := by simp [hc]
          have hf : ∀ u, fitsK (.mk 5 n a b c d w ks) u = true ↔ u.kind = 6 ∨ u.kind = 2 := fun u => by
            rw [fitsK, if_pos ⟨rfl, hc⟩]; simp only [Bool.or_eq_true, decide_eq_true_eq]
          rw [e2]
          simp only [hf]
          exact ⟨fun h => ⟨⟨h.1.1.1, by have := h.2; omega⟩, fun u hu => ⟨((h.1.2 u hu).2.2).resolve_left (by decide), (h.1.2 u hu).1⟩⟩, fun h => ⟨⟨⟨h.1.1, trivial⟩, fun u hu => ⟨(h.2 u hu).2, Or.inl (by trivial), .inr (h.2 u hu).1⟩⟩, by have := h.1.2; omega⟩⟩
        · have e2 : decide (w = bCOUNT) = false := by simp [hc]
          have hf : ∀ u, fitsK (.mk 5 n a b c d w ks) u = true := fun u => by
            rw [fitsK, if_neg (fun h => hc h.2), if_pos ⟨rfl, hw⟩]
          rw [e2]
          simp only [hf]
          exact ⟨fun h => ⟨⟨h.1.1.1, by have := h.2; omega⟩, fun u hu => ⟨trivial, (h.1.2 u hu).1⟩⟩, fun h => ⟨⟨⟨h.1.1, trivial⟩, fun u hu => ⟨(h.2 u hu).2, Or.inl (by trivial), Or.inl (by trivial)⟩⟩, by have := h.1.2; omega⟩⟩
      · rw [if_neg hfn]
        simp [hfn]
  · rw [if_neg h5]
    simp [h5]
theorem deeps_le {l : List Tree} {d : Nat} : deeps l ≤ d ↔ ∀ u ∈ l, deepT u ≤ d := by
  induction l with
  | nil => simp [deeps]
  | cons t l ih => rw [deeps]; simp only [List.mem_cons, forall_eq_or_imp, ← ih]; omega
theorem right_may : ∀ (d : Nat) (t : Tree), rightK d t = true ↔ deepT t ≤ d ∧ mayB t = true := by
  intro d
  induction d with
  | zero =>
    intro t
    obtain ⟨k, n, a, b, c, e, w, ks⟩ := t
    rw [rightK, deepT]; simp
  | succ d ih =>
    intro t
    obtain ⟨k, n, a, b, c, e, w, ks⟩ := t
    rw [rightK, Bool.and_eq_true, List.all_eq_true, may_own, deepT]
    simp only [Bool.and_eq_true, ih, Tree.kids]
    have : deeps ks + 1 ≤ d + 1 ↔ ∀ u ∈ ks, deepT u ≤ d := by rw [← deeps_le]; omega
    rw [this]
    exact ⟨fun h => ⟨fun u hu => (h.2 u hu).2.1, h.1, fun u hu => ⟨(h.2 u hu).1, (h.2 u hu).2.2⟩⟩, fun h => ⟨h.2.1, fun u hu => ⟨(h.2.2 u hu).1, h.1 u hu, (h.2.2 u hu).2⟩⟩⟩
/-- The program's answer is the document's. -/
theorem rightK_B (t : Tree) : (!decide (t.kind = 6) && rightK 16 t) = rightB t := by
  apply Bool.eq_iff_iff.2
  unfold rightB
  simp only [Bool.and_eq_true, decide_eq_true_eq, right_may]
  constructor
  · rintro ⟨h1, h2, h3⟩; exact ⟨⟨h2, h1⟩, h3⟩
  · rintro ⟨⟨h2, h1⟩, h3⟩; exact ⟨h1, h2, h3⟩
end Go.AL
/-! Contracts: gridironref02's lists. -/
namespace Go.AL
open Go.Proofs
set_option linter.unusedSimpArgs false
set_option linter.unusedVariables false
def pl (p : Int × Int) : AV := place p.1 p.2
/-- The places of the first n indexes that a range has. -/
def cellsN (a b c d : Int) (n : Nat) : List (Int × Int) := ((List.range n).filter fun i : Nat => hasP a b c d (atC (i : Int)) (atR (i : Int))).map fun i : Nat => (atC (i : Int), atR (i : Int))
theorem cellsN_succ (a b c d : Int) (n : Nat) : cellsN a b c d (n + 1) = cellsN a b c d n ++ (if hasP a b c d (atC n) (atR n) = true then [(atC n, atR n)] else []) := by
  unfold cellsN
  rw [List.range_succ, List.filter_append, List.map_append]
  congr 1
  by_cases h : hasP a b c d (atC n) (atR n) = true <;> simp [h]
theorem cellsN_len (a b c d : Int) (n : Nat) : (cellsN a b c d n).length ≤ n := by
  unfold cellsN
  rw [List.length_map]
  exact Nat.le_trans (List.length_filter_le _ _) (by simp)
def cellsL (a b c d : Int) : List (Int × Int) := cellsN a b c d 1024
set_option maxRecDepth 100000 in
theorem rcells_ok (a b c d : Int) : APure Try.prog 119 [range a b c d] (.vsl ((cellsL a b c d).map pl)) := by
  refine apure_in Try.func119 Try.ntmps119 rfl ?_
  refine aw_seq (aw_run [5] ?_)
  simp -implicitDefEqProofs
  refine aw_seq (aw_run [5] ?_)
  simp -implicitDefEqProofs
  refine aw_seq (aw_seq (aw_run [5] ?_))
  simp -implicitDefEqProofs
  refine aw_block (aw_open (i := 3) rfl ?_)
  refine aw_loopW [1, 3, 4] (fun n fr σ => ∃ k m i, i + n = 1024 ∧ k < m ∧ σ = oneSl k ((cellsN a b c d i).map pl) m ∧ fr = frm 26 [(1, .vel [range a b c d] 0 0), (3, .hsl k 0 (cellsN a b c d i).length), (4, vi (i : Nat))]) 1024 ?_ ?_
  · refine ⟨oneSl 0 [] 1, le_oneSl rfl (by decide), 0, 1, 0, rfl, by decide, by simp [cellsN], ?_⟩
    simp [cellsN, σ0]
  · rintro n fr σ ⟨k, m, i, hi, hkm, rfl, rfl⟩
    simp
    refine aw_seq (aw_seq (aw_run [5] ?_))
    simp -implicitDefEqProofs
    have hlen := cellsN_len a b c d i
    refine aw_cond rfl (fun h => aw_skip ?_) (fun h => aw_exit ?_)
    · have hlt : i < 1024 := by simp at h; omega
      have hnx : IntKind.i64.wrap ((i : Int) + 1) = ((i + 1 : Nat) : Int) := by rw [wrap_id (by omega) (by omega)]; simp
      simp -implicitDefEqProofs
      repeat' first | refine aw_N [5] trivial (And.intro @rat_ok (And.intro @rhas_ok trivial)) ?_ | refine aw_cond rfl (fun h => ?_) (fun h => ?_)
      · refine awl_append [5] rfl rfl rfl (xs := (cellsN a b c d i).map pl) (by simp) (by simp) rfl (by simp) te44 tet44 tz24 rfl ?_ (by simp) (by simp; omega) (by simp; omega) ?_
        · intro y hy
          simp at hy
          obtain ⟨_, _, _, rfl⟩ := hy
          rfl
        simp -implicitDefEqProofs
        repeat' first | refine aw_N [5] trivial trivial ?_ | refine aw_cond rfl (fun h => ?_) (fun h => ?_)
        refine ⟨n - 1, by omega, _, le_oneSl (k := m + 1) (xs := (((cellsN a b c d i).map pl).take (cellsN a b c d i).length) ++ [pl (atC i, atR i)]) (n := m + 2) (by simp [pl]) (Nat.le_refl _), m + 1, m + 2, i + 1, by omega, by omega, ?_, ?_⟩
        · rw [cellsN_succ, if_pos h, List.map_append, List.take_of_length_le (by simp)]; rfl
        · rw [cellsN_succ, if_pos h]
          simp [hnx]
      · refine ⟨n - 1, by omega, _, le_oneSl (k := k) (xs := (cellsN a b c d i).map pl) (n := m + 1) (by simp) (Nat.le_refl _), k, m + 1, i + 1, by omega, by omega, ?_, ?_⟩
        · rw [cellsN_succ, if_neg (by simp [h]), List.append_nil]
        · rw [cellsN_succ, if_neg (by simp [h]), List.append_nil]
          simp [hnx]
    · have : i = 1024 := by simp at h; omega
      subst this
      simp -implicitDefEqProofs
      refine aw_freeze (b := k) (xs := (cellsN a b c d 1024).map pl) (by simp) ?_
      simp [frz, frz1, frz0]
      repeat' first | refine aw_N [5] trivial trivial ?_ | refine aw_cond rfl (fun h => ?_) (fun h => ?_)
      simp [tupOf, cellsL, List.take_of_length_le]
end Go.AL
