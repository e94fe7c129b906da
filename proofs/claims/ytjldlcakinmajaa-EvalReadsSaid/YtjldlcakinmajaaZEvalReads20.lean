/- Parts of the proof of EvalReads: the logic, contracts, plain laws. -/
import Derived.Test.YtjldlcakinmajaaZEvalReads19
/-! Contracts: syntax.bare, fits. -/
namespace Go.AL
open Go.Proofs
set_option linter.unusedSimpArgs false
set_option linter.unusedVariables false
def bareT : Tree → Tree
  | .mk k n a b c d w ks => .mk k (if k = 0 then n else 0) (if k = 1 ∨ k = 6 then a else 0) (if k = 1 ∨ k = 6 then b else 0) (if k = 1 ∨ k = 6 then c else 0) (if k = 1 ∨ k = 6 then d else 0) (if k = 4 ∨ k = 5 then w else ⟨#[]⟩) ks
set_option maxHeartbeats 8000000 in
set_option maxRecDepth 100000 in
theorem bare_ok (t : Tree) : APure Try.prog 109 [t.av] (bareT t).av := by
  obtain ⟨k, n, a, b, c, d, w, ks⟩ := t
  rw [bareT, Tree.av, Tree.av]
  by_cases h0 : k = 0
  · subst h0
    refine apure_in Try.func109 Try.ntmps109 rfl ?_
    repeat' (first
      | refine aw_seq ?_
      | (refine aw_run [2, 3] ?_; try simp -implicitDefEqProofs (maxSteps := 1000000) [List.lookup])
      | ((first | refine awl_skip' [2, 3] rfl ?_ | refine aw_skip ?_ | refine aw_exit ?_); try simp -implicitDefEqProofs (maxSteps := 1000000) [List.lookup])
      | (refine aw_cond rfl (fun h => ?_) (fun h => ?_) <;> try (with_reducible first | exact ff_tt h | exact tt_ff h))
      | refine aw_block ?_
      | refine aw_ret (ret_of (.inr rfl) (by simp [Try.results109]; rfl) (Fin.close (Fin.of ?_)))
      | refine ret_of (.inl rfl) (by simp [Try.results109]; rfl) (Fin.close (Fin.of ?_)))
    all_goals first | (simp [tupOf, List.lookup]; done) | (simp at *; done) | trace_state
  by_cases h1 : k = 1
  · subst h1
    refine apure_in Try.func109 Try.ntmps109 rfl ?_
    repeat' (first
      | refine aw_seq ?_
      | (refine aw_run [2, 3] ?_; try simp -implicitDefEqProofs (maxSteps := 1000000) [List.lookup])
      | ((first | refine awl_skip' [2, 3] rfl ?_ | refine aw_skip ?_ | refine aw_exit ?_); try simp -implicitDefEqProofs (maxSteps := 1000000) [List.lookup])
      | (refine aw_cond rfl (fun h => ?_) (fun h => ?_) <;> try (with_reducible first | exact ff_tt h | exact tt_ff h))
      | refine aw_block ?_
      | refine aw_ret (ret_of (.inr rfl) (by simp [Try.results109]; rfl) (Fin.close (Fin.of ?_)))
      | refine ret_of (.inl rfl) (by simp [Try.results109]; rfl) (Fin.close (Fin.of ?_)))
    all_goals first | (simp [tupOf, List.lookup]; done) | (simp at *; done) | trace_state
  by_cases h6 : k = 6
  · subst h6
    refine apure_in Try.func109 Try.ntmps109 rfl ?_
    repeat' (first
      | refine aw_seq ?_
      | (refine aw_run [2, 3] ?_; try simp -implicitDefEqProofs (maxSteps := 1000000) [List.lookup])
      | ((first | refine awl_skip' [2, 3] rfl ?_ | refine aw_skip ?_ | refine aw_exit ?_); try simp -implicitDefEqProofs (maxSteps := 1000000) [List.lookup])
      | (refine aw_cond rfl (fun h => ?_) (fun h => ?_) <;> try (with_reducible first | exact ff_tt h | exact tt_ff h))
      | refine aw_block ?_
      | refine aw_ret (ret_of (.inr rfl) (by simp [Try.results109]; rfl) (Fin.close (Fin.of ?_)))
      | refine ret_of (.inl rfl) (by simp [Try.results109]; rfl) (Fin.close (Fin.of ?_)))
    all_goals first | (simp [tupOf, List.lookup]; done) | (simp at *; done) | trace_state
  by_cases h4 : k = 4
  · subst h4
    refine apure_in Try.func109 Try.ntmps109 rfl ?_
    repeat' (first
      | refine aw_seq ?_
      | (refine aw_run [2, 3] ?_; try simp -implicitDefEqProofs (maxSteps := 1000000) [List.lookup])
      | ((first | refine awl_skip' [2, 3] rfl ?_ | refine aw_skip ?_ | refine aw_exit ?_); try simp -implicitDefEqProofs (maxSteps := 1000000) [List.lookup])
      | (refine aw_cond rfl (fun h => ?_) (fun h => ?_) <;> try (with_reducible first | exact ff_tt h | exact tt_ff h))
      | refine aw_block ?_
      | refine aw_ret (ret_of (.inr rfl) (by simp [Try.results109]; rfl) (Fin.close (Fin.of ?_)))
      | refine ret_of (.inl rfl) (by simp [Try.results109]; rfl) (Fin.close (Fin.of ?_)))
    all_goals first | (simp [tupOf, List.lookup]; done) | (simp at *; done) | trace_state
  by_cases h5 : k = 5
  · subst h5
    refine apure_in Try.func109 Try.ntmps109 rfl ?_
    repeat' (first
      | refine aw_seq ?_
      | (refine aw_run [2, 3] ?_; try simp -implicitDefEqProofs (maxSteps := 1000000) [List.lookup])
      | ((first | refine awl_skip' [2, 3] rfl ?_ | refine aw_skip ?_ | refine aw_exit ?_); try simp -implicitDefEqProofs (maxSteps := 1000000) [List.lookup])
      | (refine aw_cond rfl (fun h => ?_) (fun h => ?_) <;> try (with_reducible first | exact ff_tt h | exact tt_ff h))
      | refine aw_block ?_
      | refine aw_ret (ret_of (.inr rfl) (by simp [Try.results109]; rfl) (Fin.close (Fin.of ?_)))
      | refine ret_of (.inl rfl) (by simp [Try.results109]; rfl) (Fin.close (Fin.of ?_)))
    all_goals first | (simp [tupOf, List.lookup]; done) | (simp at *; done) | trace_state
  refine apure_in Try.func109 Try.ntmps109 rfl ?_
  repeat' first | refine aw_M [2, 3] (And.intro @h0 (And.intro @h1 (And.intro @h6 (And.intro @h4 @h5)))) trivial ?_ | refine aw_cond rfl (fun h => ?_) (fun h => ?_)
  all_goals first | (simp [tupOf, h0, h1, h6, h4, h5]; done) | (simp at *; done) | trace_state
def fitsK (t u : Tree) : Bool := match t with
  | .mk k _ _ _ _ _ w _ => if k = 5 ∧ w = bCOUNT then decide (u.kind = 6) || decide (u.kind = 2) else if k = 5 ∧ w ≠ bIF then true else !decide (u.kind = 6)
set_option maxHeartbeats 8000000 in
set_option maxRecDepth 100000 in
theorem fits_ok (t u : Tree) : APure Try.prog 79 [t.av, u.av] (vb (fitsK t u)) := by
  obtain ⟨k, n, a, b, c, d, w, ks⟩ := t
  obtain ⟨uk, un, ua, ub, uc, ud, uw, uks⟩ := u
  rw [fitsK, Tree.av, Tree.av]
  simp only [Tree.kind]
  by_cases h5 : k = 5
  · subst h5
    by_cases hc : w = bCOUNT
    · subst hc
      rw [if_pos ⟨rfl, rfl⟩]
      refine apure_in Try.func79 Try.ntmps79 rfl ?_
      repeat' (first
        | refine aw_seq ?_
        | (refine aw_run [] ?_; try simp -implicitDefEqProofs (maxSteps := 1000000) [List.lookup])
        | ((first | refine awl_skip' [] rfl ?_ | refine aw_skip ?_ | refine aw_exit ?_); try simp -implicitDefEqProofs (maxSteps := 1000000) [List.lookup])
        | (refine aw_cond rfl (fun h => ?_) (fun h => ?_) <;> try (with_reducible first | exact ff_tt h | exact tt_ff h))
        | refine aw_block ?_
        | refine aw_ret (ret_of (.inr rfl) (by simp [Try.results79]; rfl) (Fin.of ?_))
        | refine ret_of (.inl rfl) (by simp [Try.results79]; rfl) (Fin.of ?_))
      all_goals first | rfl | (simp [tupOf, List.lookup]; done) | (simp at *; done) | trace_state
    · rw [if_neg (fun h => hc h.2)]
      by_cases hi : w = bIF
      · subst hi
        rw [if_neg (fun h => h.2 rfl)]
        refine apure_in Try.func79 Try.ntmps79 rfl ?_
        repeat' (first
          | refine aw_seq ?_
          | (refine aw_run [] ?_; try simp -implicitDefEqProofs (maxSteps := 1000000) [List.lookup])
          | ((first | refine awl_skip' [] rfl ?_ | refine aw_skip ?_ | refine aw_exit ?_); try simp -implicitDefEqProofs (maxSteps := 1000000) [List.lookup])
          | (refine aw_cond rfl (fun h => ?_) (fun h => ?_) <;> try (with_reducible first | exact ff_tt h | exact tt_ff h))
          | refine aw_block ?_
          | refine aw_ret (ret_of (.inr rfl) (by simp [Try.results79]; rfl) (Fin.of ?_))
          | refine ret_of (.inl rfl) (by simp [Try.results79]; rfl) (Fin.of ?_))
        all_goals first | rfl | (simp [tupOf, List.lookup]; done) | (simp at *; done) | trace_state
      · rw [if_pos ⟨rfl, hi⟩]
        refine apure_in Try.func79 Try.ntmps79 rfl ?_
        repeat' first | refine aw_N [] (And.intro @hc @hi) trivial ?_ | refine aw_cond rfl (fun h => ?_) (fun h => ?_)
        all_goals first | rfl | (simp [tupOf, hc, hi]; done) | (simp at *; done) | trace_state
  · rw [if_neg (fun h => h5 h.1), if_neg (fun h => h5 h.1)]
    refine apure_in Try.func79 Try.ntmps79 rfl ?_
    repeat' first | refine aw_N [] @h5 trivial ?_ | refine aw_cond rfl (fun h => ?_) (fun h => ?_)
    all_goals first | rfl | (simp [tupOf, h5]; done) | (simp at *; done) | trace_state
end Go.AL
/-! Contracts: slices.Index, slices.Contains of texts. -/
namespace Go.AL
open Go.Proofs
set_option linter.unusedSimpArgs false
set_option linter.unusedVariables false
def idxS (v : ByteArray) : List ByteArray → Nat → Int
  | [], _ => -1
  | x :: l, i => if v = x then (i : Int) else idxS v l (i + 1)
theorem idxS_iff (v : ByteArray) : ∀ (l : List ByteArray) (i : Nat), 0 ≤ idxS v l i ↔ v ∈ l
  | [], i => by simp [idxS]
  | x :: l, i => by
    rw [idxS]
    split
    · rename_i h; subst h; simp
    · rename_i h; rw [idxS_iff v l (i + 1)]; simp [h]
set_option maxHeartbeats 8000000 in
set_option maxRecDepth 100000 in
theorem sindex_ok (l : List ByteArray) (v : ByteArray) (hl : l.length ≤ 1000000000) : APure Try.prog 171 [.vsl (l.map vs), vs v] (vi (idxS v l 0)) := by
  refine apure_in Try.func171 Try.ntmps171 rfl ?_
  repeat' first | refine aw_N [] trivial trivial ?_ | refine aw_cond rfl (fun h => ?_) (fun h => ?_)
  refine aw_loopW [0, 1, 7, 8] (fun q fr σ => ∃ i M : Nat, i + q = l.length ∧ idxS v (l.drop i) i = idxS v l 0 ∧ σ = mkSt [] [] M ∧ fr = frm 19 [(0, .vsl (l.map vs)), (1, vs v), (7, vi (l.length : Nat)), (8, vi (i : Nat))]) l.length ?_ ?_
  · exact ⟨mkSt [] [] 0, le_mkSt (by simp) (by simp) (by simp [σ0]), 0, 0, by omega, by simp, rfl, by simp⟩
  · rintro q fr σ ⟨i, M, hi, hx, rfl, rfl⟩
    simp -implicitDefEqProofs
    by_cases hlt : i < l.length
    · have hlti : (i : Int) < l.length := by omega
      obtain ⟨t, ht⟩ : ∃ t, l[i] = t := ⟨_, rfl⟩
      have wi : IntKind.i64.wrap ((i : Int) + 1) = (i : Int) + 1 := wrap_id (by omega) (by omega)
      rw [List.drop_eq_getElem_cons hlt, ht, idxS] at hx
      by_cases hv : v = t
      · rw [if_pos hv] at hx
        rw [← hx]
        subst hv
        repeat' first | refine aw_N [] (And.intro @hlt (And.intro @hlti (And.intro @ht @wi))) trivial ?_ | refine aw_cond rfl (fun h => ?_) (fun h => ?_)
        all_goals first | rfl | (simp [tupOf]; done) | trace_state
      · rw [if_neg hv] at hx
        repeat' first | refine aw_N [] (And.intro @hlt (And.intro @hlti (And.intro @ht (And.intro @wi @hv)))) trivial ?_ | refine aw_cond rfl (fun h => ?_) (fun h => ?_)
        all_goals first | exact ⟨q - 1, by omega, mkSt [] [] M, le_mkSt (by simp) (by simp) (by simp), i + 1, by omega, hx, ⟨M, rfl⟩, by omega⟩ | trace_state
    · have hlti : ¬ (i : Int) < l.length := by omega
      rw [List.drop_eq_nil_of_le (by omega), idxS] at hx
      rw [← hx]
      repeat' first | refine aw_N [] (And.intro @hlt @hlti) trivial ?_ | refine aw_cond rfl (fun h => ?_) (fun h => ?_)
      all_goals first | rfl | (simp [tupOf]; done) | trace_state
set_option maxHeartbeats 8000000 in
set_option maxRecDepth 100000 in
theorem scontains_ok (l : List ByteArray) (v : ByteArray) (hl : l.length ≤ 1000000000) : APure Try.prog 153 [.vsl (l.map vs), vs v] (vb (decide (0 ≤ idxS v l 0))) := by
  have hi := sindex_ok l v hl
  generalize idxS v l 0 = x at *
  refine apure_in Try.func153 Try.ntmps153 rfl ?_
  repeat' first | refine aw_N [] trivial (And.intro @hi trivial) ?_ | refine aw_cond rfl (fun h => ?_) (fun h => ?_)
  all_goals first | rfl | (simp [tupOf]; done) | trace_state
end Go.AL
/-! Contracts: syntax.marks, strength. -/
namespace Go.AL
open Go.Proofs
set_option linter.unusedSimpArgs false
set_option linter.unusedVariables false
def mk0 : List ByteArray := [⟨#[60]⟩, ⟨#[60, 61]⟩, ⟨#[61]⟩, ⟨#[60, 62]⟩, ⟨#[62, 61]⟩, ⟨#[62]⟩]
def mk1 : List ByteArray := [⟨#[43]⟩, ⟨#[45]⟩]
def mk2 : List ByteArray := [⟨#[42]⟩, ⟨#[47]⟩]
set_option maxHeartbeats 8000000 in
set_option maxRecDepth 100000 in
theorem marks_ok : APure Try.prog 152 [] (.agg [.vsl (mk0.map vs), .vsl (mk1.map vs), .vsl (mk2.map vs)]) := by
  refine apure_in Try.func152 Try.ntmps152 rfl ?_
  repeat' first | refine aw_M [0] trivial trivial ?_ | refine aw_cond rfl (fun h => ?_) (fun h => ?_)
  all_goals first | rfl | (simp [tupOf, mk0, mk1, mk2]; done) | trace_state
def strT (w : ByteArray) : Int := if 0 ≤ idxS w mk0 0 then 0 else if 0 ≤ idxS w mk1 0 then 1 else if 0 ≤ idxS w mk2 0 then 2 else 3
set_option maxHeartbeats 8000000 in
set_option maxRecDepth 100000 in
theorem strength_ok (w : ByteArray) : APure Try.prog 111 [vs w] (vi (strT w)) := by
  have hm := marks_ok
  have c0 := scontains_ok mk0 w (by simp [mk0])
  have c1 := scontains_ok mk1 w (by simp [mk1])
  have c2 := scontains_ok mk2 w (by simp [mk2])
  unfold strT
  generalize idxS w mk0 0 = x0 at *
  generalize idxS w mk1 0 = x1 at *
  generalize idxS w mk2 0 = x2 at *
  refine apure_in Try.func111 Try.ntmps111 rfl ?_
  repeat' first | refine aw_N [3] trivial (And.intro @hm trivial) ?_ | refine aw_cond rfl (fun h => ?_) (fun h => ?_)
  refine aw_loopW [0, 3, 6] (fun q fr σ => ∃ i M : Nat, i + q = 3 ∧ (1 ≤ i → ¬ 0 ≤ x0) ∧ (2 ≤ i → ¬ 0 ≤ x1) ∧ (3 ≤ i → ¬ 0 ≤ x2) ∧ 1 ≤ M ∧ σ = mkSt [(0, [.vsl (mk0.map vs), .vsl (mk1.map vs), .vsl (mk2.map vs)])] [] M ∧ fr = frm 16 [(0, vs w), (3, .ptr 0 0), (6, vi (i : Nat))]) 3 ?_ ?_
  · exact ⟨mkSt [(0, [.vsl (mk0.map vs), .vsl (mk1.map vs), .vsl (mk2.map vs)])] [] 1, le_mkSt (by simp) (by simp) (by simp), 0, 1, by omega, by omega, by omega, by omega, by omega, rfl, by simp⟩
  · rintro q fr σ ⟨i, M, hi, h0, h1, h2, hM, rfl, rfl⟩
    have hc : i = 0 ∨ i = 1 ∨ i = 2 ∨ i = 3 := by omega
    have ee : ¬ 0 = M := by omega
    rcases hc with rfl | rfl | rfl | rfl
    · by_cases hx : 0 ≤ x0
      · rw [if_pos hx]
        simp -implicitDefEqProofs
        repeat' (first
          | refine aw_seq ?_
          | (refine aw_run [3] ?_; try simp -implicitDefEqProofs (maxSteps := 1000000) [List.lookup, hx, ee])
          | ((first | refine awl_skip' [3] rfl ?_ | refine awl_pure_guard [3] rfl rfl rfl (by first | assumption | kernel_rfl) rfl (fun hc => by first | exact c0) (by simp) (by simp) (by simp) ?_ | refine awl_pure' [3] rfl rfl rfl (by first | assumption | kernel_rfl) rfl (by first | exact c0) (by simp) (by simp) ?_ | refine aw_skip ?_ | refine aw_exit ?_); try simp -implicitDefEqProofs (maxSteps := 1000000) [List.lookup, hx, ee])
          | (refine aw_cond rfl (fun h => ?_) (fun h => ?_) <;> try (with_reducible first | exact ff_tt h | exact tt_ff h))
          | refine aw_block ?_
          | refine aw_ret (ret_of (.inr rfl) (by simp [Try.results111]; rfl) (Fin.of ?_))
          | refine ret_of (.inl rfl) (by simp [Try.results111]; rfl) (Fin.of ?_))
        all_goals first | rfl | (simp [tupOf]; done) | trace_state
      · skip
        simp -implicitDefEqProofs
        repeat' (first
          | refine aw_seq ?_
          | (refine aw_run [3] ?_; try simp -implicitDefEqProofs (maxSteps := 1000000) [List.lookup, hx, ee])
          | ((first | refine awl_skip' [3] rfl ?_ | refine awl_pure_guard [3] rfl rfl rfl (by first | assumption | kernel_rfl) rfl (fun hc => by first | exact c0) (by simp) (by simp) (by simp) ?_ | refine awl_pure' [3] rfl rfl rfl (by first | assumption | kernel_rfl) rfl (by first | exact c0) (by simp) (by simp) ?_ | refine aw_skip ?_ | refine aw_exit ?_); try simp -implicitDefEqProofs (maxSteps := 1000000) [List.lookup, hx, ee])
          | (refine aw_cond rfl (fun h => ?_) (fun h => ?_) <;> try (with_reducible first | exact ff_tt h | exact tt_ff h))
          | refine aw_block ?_
          | refine aw_ret (ret_of (.inr rfl) (by simp [Try.results111]; rfl) (Fin.of ?_))
          | refine ret_of (.inl rfl) (by simp [Try.results111]; rfl) (Fin.of ?_))
        all_goals first | exact ⟨q - 1, by omega, mkSt [(0, [.vsl (mk0.map vs), .vsl (mk1.map vs), .vsl (mk2.map vs)])] [] M, le_mkSt (by simp) (by simp) (by simp), 1, by omega, by omega, by omega, by omega, M, hM, rfl, by decide⟩ | trace_state
    · by_cases hx : 0 ≤ x1
      · rw [if_neg (h0 (by omega)), if_pos hx]
        simp -implicitDefEqProofs
        repeat' (first
          | refine aw_seq ?_
          | (refine aw_run [3] ?_; try simp -implicitDefEqProofs (maxSteps := 1000000) [List.lookup, hx, ee])
          | ((first | refine awl_skip' [3] rfl ?_ | refine awl_pure_guard [3] rfl rfl rfl (by first | assumption | kernel_rfl) rfl (fun hc => by first | exact c1) (by simp) (by simp) (by simp) ?_ | refine awl_pure' [3] rfl rfl rfl (by first | assumption | kernel_rfl) rfl (by first | exact c1) (by simp) (by simp) ?_ | refine aw_skip ?_ | refine aw_exit ?_); try simp -implicitDefEqProofs (maxSteps := 1000000) [List.lookup, hx, ee])
          | (refine aw_cond rfl (fun h => ?_) (fun h => ?_) <;> try (with_reducible first | exact ff_tt h | exact tt_ff h))
          | refine aw_block ?_
          | refine aw_ret (ret_of (.inr rfl) (by simp [Try.results111]; rfl) (Fin.of ?_))
          | refine ret_of (.inl rfl) (by simp [Try.results111]; rfl) (Fin.of ?_))
        all_goals first | rfl | (simp [tupOf]; done) | trace_state
      · skip
        simp -implicitDefEqProofs
        repeat' (first
          | refine aw_seq ?_
          | (refine aw_run [3] ?_; try simp -implicitDefEqProofs (maxSteps := 1000000) [List.lookup, hx, ee])
          | ((first | refine awl_skip' [3] rfl ?_ | refine awl_pure_guard [3] rfl rfl rfl (by first | assumption | kernel_rfl) rfl (fun hc => by first | exact c1) (by simp) (by simp) (by simp) ?_ | refine awl_pure' [3] rfl rfl rfl (by first | assumption | kernel_rfl) rfl (by first | exact c1) (by simp) (by simp) ?_ | refine aw_skip ?_ | refine aw_exit ?_); try simp -implicitDefEqProofs (maxSteps := 1000000) [List.lookup, hx, ee])
          | (refine aw_cond rfl (fun h => ?_) (fun h => ?_) <;> try (with_reducible first | exact ff_tt h | exact tt_ff h))
          | refine aw_block ?_
          | refine aw_ret (ret_of (.inr rfl) (by simp [Try.results111]; rfl) (Fin.of ?_))
          | refine ret_of (.inl rfl) (by simp [Try.results111]; rfl) (Fin.of ?_))
        all_goals first | exact ⟨q - 1, by omega, mkSt [(0, [.vsl (mk0.map vs), .vsl (mk1.map vs), .vsl (mk2.map vs)])] [] M, le_mkSt (by simp) (by simp) (by simp), 2, by omega, by omega, by omega, by omega, M, hM, rfl, by decide⟩ | trace_state
    · by_cases hx : 0 ≤ x2
      · rw [if_neg (h0 (by omega)), if_neg (h1 (by omega)), if_pos hx]
        simp -implicitDefEqProofs
        repeat' (first
          | refine aw_seq ?_
          | (refine aw_run [3] ?_; try simp -implicitDefEqProofs (maxSteps := 1000000) [List.lookup, hx, ee])
          | ((first | refine awl_skip' [3] rfl ?_ | refine awl_pure_guard [3] rfl rfl rfl (by first | assumption | kernel_rfl) rfl (fun hc => by first | exact c2) (by simp) (by simp) (by simp) ?_ | refine awl_pure' [3] rfl rfl rfl (by first | assumption | kernel_rfl) rfl (by first | exact c2) (by simp) (by simp) ?_ | refine aw_skip ?_ | refine aw_exit ?_); try simp -implicitDefEqProofs (maxSteps := 1000000) [List.lookup, hx, ee])
          | (refine aw_cond rfl (fun h => ?_) (fun h => ?_) <;> try (with_reducible first | exact ff_tt h | exact tt_ff h))
          | refine aw_block ?_
          | refine aw_ret (ret_of (.inr rfl) (by simp [Try.results111]; rfl) (Fin.of ?_))
          | refine ret_of (.inl rfl) (by simp [Try.results111]; rfl) (Fin.of ?_))
        all_goals first | rfl | (simp [tupOf]; done) | trace_state
      · skip
        simp -implicitDefEqProofs
        repeat' (first
          | refine aw_seq ?_
          | (refine aw_run [3] ?_; try simp -implicitDefEqProofs (maxSteps := 1000000) [List.lookup, hx, ee])
          | ((first | refine awl_skip' [3] rfl ?_ | refine awl_pure_guard [3] rfl rfl rfl (by first | assumption | kernel_rfl) rfl (fun hc => by first | exact c2) (by simp) (by simp) (by simp) ?_ | refine awl_pure' [3] rfl rfl rfl (by first | assumption | kernel_rfl) rfl (by first | exact c2) (by simp) (by simp) ?_ | refine aw_skip ?_ | refine aw_exit ?_); try simp -implicitDefEqProofs (maxSteps := 1000000) [List.lookup, hx, ee])
          | (refine aw_cond rfl (fun h => ?_) (fun h => ?_) <;> try (with_reducible first | exact ff_tt h | exact tt_ff h))
          | refine aw_block ?_
          | refine aw_ret (ret_of (.inr rfl) (by simp [Try.results111]; rfl) (Fin.of ?_))
          | refine ret_of (.inl rfl) (by simp [Try.results111]; rfl) (Fin.of ?_))
        all_goals first | exact ⟨q - 1, by omega, mkSt [(0, [.vsl (mk0.map vs), .vsl (mk1.map vs), .vsl (mk2.map vs)])] [] M, le_mkSt (by simp) (by simp) (by simp), 3, by omega, by omega, by omega, by omega, M, hM, rfl, by decide⟩ | trace_state
    · rw [if_neg (h0 (by omega)), if_neg (h1 (by omega)), if_neg (h2 (by omega))]
      simp -implicitDefEqProofs
      repeat' (first
        | refine aw_seq ?_
        | (refine aw_run [3] ?_; try simp -implicitDefEqProofs (maxSteps := 1000000) [List.lookup, hM, ee])
        | ((first | refine awl_skip' [3] rfl ?_ | refine awl_pure_guard [3] rfl rfl rfl (by first | assumption | kernel_rfl) rfl (fun hc => by first | exact c2) (by simp) (by simp) (by simp) ?_ | refine awl_pure' [3] rfl rfl rfl (by first | assumption | kernel_rfl) rfl (by first | exact c2) (by simp) (by simp) ?_ | refine aw_skip ?_ | refine aw_exit ?_); try simp -implicitDefEqProofs (maxSteps := 1000000) [List.lookup, hM, ee])
        | (refine aw_cond rfl (fun h => ?_) (fun h => ?_) <;> try (with_reducible first | exact ff_tt h | exact tt_ff h))
        | refine aw_block ?_
        | refine aw_ret (ret_of (.inr rfl) (by simp [Try.results111]; rfl) (Fin.of ?_))
        | refine ret_of (.inl rfl) (by simp [Try.results111]; rfl) (Fin.of ?_))
      all_goals first | rfl | (simp [tupOf]; done) | trace_state
end Go.AL
/-! Contracts: syntax.own. -/
namespace Go.AL
open Go.Proofs
set_option linter.unusedSimpArgs false
set_option linter.unusedVariables false
def Tree.words : Tree → Int × (Int × Int × Int × Int) × ByteArray
  | .mk _ n a b c d w _ => (n, (a, b, c, d), w)
/-- With its own kind's fields alone, and as many kids as it wants. -/
def ownK (t : Tree) : Bool := match t with
  | .mk k n a b c d w ks =>
    if (bareT (.mk k n a b c d w ks)).words ≠ (n, (a, b, c, d), w) then false
    else if k = 0 then decide (ks.length = 0) && decide (0 ≤ n)
    else if k = 1 then decide (ks.length = 0) && rightP a b && (decide (a = c) && decide (b = d))
    else if k = 2 then decide (ks.length = 0)
    else if k = 6 then decide (ks.length = 0) && wholeP a b c d
    else if k = 3 then decide (ks.length = 1)
    else if k = 4 then decide (ks.length = 2) && decide (strT w < 3)
    else if w = bIF then decide (k = 5) && decide (ks.length = 3)
    else if isFn w = true then decide (k = 5) && decide (0 < ks.length)
    else false
set_option maxHeartbeats 8000000 in
set_option maxRecDepth 100000 in
theorem own_ok (t : Tree) : APure Try.prog 78 [t.av] (vb (ownK t)) := by
  have hb := bare_ok t
  obtain ⟨k, n, a, b, c, d, w, ks⟩ := t
  have hl := avs_len ks
  have hr := right_ok a b
  rw [bareT] at hb
  rw [Tree.av] at hb ⊢
  rw [Tree.av] at hb
  rw [ownK, bareT, Tree.words]
  by_cases h0 : k = 0
  · subst h0
    refine apure_in Try.func78 Try.ntmps78 rfl ?_
    repeat' (first
      | refine aw_seq ?_
      | (refine aw_run [3] ?_; try simp -implicitDefEqProofs (maxSteps := 1000000) [hl, List.lookup])
      | ((first | refine awl_skip' [3] rfl ?_ | refine awl_pure_guard [3] rfl rfl rfl (by first | assumption | kernel_rfl) rfl (fun hc => by first | exact hb | exact hr) (by simp) (by simp) (by simp) ?_ | refine awl_pure' [3] rfl rfl rfl (by first | assumption | kernel_rfl) rfl (by first | exact hb | exact hr) (by simp) (by simp) ?_ | refine aw_skip ?_ | refine aw_exit ?_); try simp -implicitDefEqProofs (maxSteps := 1000000) [hl, List.lookup])
      | (refine aw_cond rfl (fun h => ?_) (fun h => ?_) <;> try (with_reducible first | exact ff_tt h | exact tt_ff h))
      | refine aw_block ?_
      | refine aw_ret (ret_of (.inr rfl) (by simp [Try.results78]; rfl) (Fin.of ?_))
      | refine ret_of (.inl rfl) (by simp [Try.results78]; rfl) (Fin.of ?_))
    all_goals first | rfl | (simp [tupOf, List.lookup]; done) | (simp_all [tupOf]; done) | (simp [tupOf] at *; grind) | trace_state
  by_cases h1 : k = 1
  · subst h1
    refine apure_in Try.func78 Try.ntmps78 rfl ?_
    repeat' (first
      | refine aw_seq ?_
      | (refine aw_run [3] ?_; try simp -implicitDefEqProofs (maxSteps := 1000000) [hl, List.lookup])
      | ((first | refine awl_skip' [3] rfl ?_ | refine awl_pure_guard [3] rfl rfl rfl (by first | assumption | kernel_rfl) rfl (fun hc => by first | exact hb | exact hr) (by simp) (by simp) (by simp) ?_ | refine awl_pure' [3] rfl rfl rfl (by first | assumption | kernel_rfl) rfl (by first | exact hb | exact hr) (by simp) (by simp) ?_ | refine aw_skip ?_ | refine aw_exit ?_); try simp -implicitDefEqProofs (maxSteps := 1000000) [hl, List.lookup])
      | (refine aw_cond rfl (fun h => ?_) (fun h => ?_) <;> try (with_reducible first | exact ff_tt h | exact tt_ff h))
      | refine aw_block ?_
      | refine aw_ret (ret_of (.inr rfl) (by simp [Try.results78]; rfl) (Fin.of ?_))
      | refine ret_of (.inl rfl) (by simp [Try.results78]; rfl) (Fin.of ?_))
    all_goals first | rfl | (simp [tupOf, List.lookup]; done) | (simp_all [tupOf]; done) | (simp [tupOf] at *; grind) | trace_state
  by_cases h2 : k = 2
  · subst h2
    refine apure_in Try.func78 Try.ntmps78 rfl ?_
    repeat' (first
      | refine aw_seq ?_
      | (refine aw_run [3] ?_; try simp -implicitDefEqProofs (maxSteps := 1000000) [hl, List.lookup])
      | ((first | refine awl_skip' [3] rfl ?_ | refine awl_pure_guard [3] rfl rfl rfl (by first | assumption | kernel_rfl) rfl (fun hc => by first | exact hb | exact hr) (by simp) (by simp) (by simp) ?_ | refine awl_pure' [3] rfl rfl rfl (by first | assumption | kernel_rfl) rfl (by first | exact hb | exact hr) (by simp) (by simp) ?_ | refine aw_skip ?_ | refine aw_exit ?_); try simp -implicitDefEqProofs (maxSteps := 1000000) [hl, List.lookup])
      | (refine aw_cond rfl (fun h => ?_) (fun h => ?_) <;> try (with_reducible first | exact ff_tt h | exact tt_ff h))
      | refine aw_block ?_
      | refine aw_ret (ret_of (.inr rfl) (by simp [Try.results78]; rfl) (Fin.of ?_))
      | refine ret_of (.inl rfl) (by simp [Try.results78]; rfl) (Fin.of ?_))
    all_goals first | rfl | (simp [tupOf, List.lookup]; done) | (simp_all [tupOf]; done) | (simp [tupOf] at *; grind) | trace_state
  by_cases h6 : k = 6
  · subst h6
    refine apure_in Try.func78 Try.ntmps78 rfl ?_
    repeat' (first
      | refine aw_seq ?_
      | (refine aw_run [3] ?_; try simp -implicitDefEqProofs (maxSteps := 1000000) [hl, List.lookup])
      | ((first | refine awl_skip' [3] rfl ?_ | refine awl_pure_guard [3] rfl rfl rfl (by first | assumption | kernel_rfl) rfl (fun hc => by first | exact hb | exact whole_ok a b c d) (by simp) (by simp) (by simp) ?_ | refine awl_pure' [3] rfl rfl rfl (by first | assumption | kernel_rfl) rfl (by first | exact hb | exact whole_ok a b c d) (by simp) (by simp) ?_ | refine aw_skip ?_ | refine aw_exit ?_); try simp -implicitDefEqProofs (maxSteps := 1000000) [hl, List.lookup])
      | (refine aw_cond rfl (fun h => ?_) (fun h => ?_) <;> try (with_reducible first | exact ff_tt h | exact tt_ff h))
      | refine aw_block ?_
      | refine aw_ret (ret_of (.inr rfl) (by simp [Try.results78]; rfl) (Fin.of ?_))
      | refine ret_of (.inl rfl) (by simp [Try.results78]; rfl) (Fin.of ?_))
    all_goals first | rfl | (simp [tupOf, List.lookup]; done) | (simp_all [tupOf]; done) | (simp [tupOf] at *; grind) | trace_state
  by_cases h3 : k = 3
  · subst h3
    refine apure_in Try.func78 Try.ntmps78 rfl ?_
    repeat' (first
      | refine aw_seq ?_
      | (refine aw_run [3] ?_; try simp -implicitDefEqProofs (maxSteps := 1000000) [hl, List.lookup])
      | ((first | refine awl_skip' [3] rfl ?_ | refine awl_pure_guard [3] rfl rfl rfl (by first | assumption | kernel_rfl) rfl (fun hc => by first | exact hb | exact hr) (by simp) (by simp) (by simp) ?_ | refine awl_pure' [3] rfl rfl rfl (by first | assumption | kernel_rfl) rfl (by first | exact hb | exact hr) (by simp) (by simp) ?_ | refine aw_skip ?_ | refine aw_exit ?_); try simp -implicitDefEqProofs (maxSteps := 1000000) [hl, List.lookup])
      | (refine aw_cond rfl (fun h => ?_) (fun h => ?_) <;> try (with_reducible first | exact ff_tt h | exact tt_ff h))
      | refine aw_block ?_
      | refine aw_ret (ret_of (.inr rfl) (by simp [Try.results78]; rfl) (Fin.of ?_))
      | refine ret_of (.inl rfl) (by simp [Try.results78]; rfl) (Fin.of ?_))
    all_goals first | rfl | (simp [tupOf, List.lookup]; done) | (simp_all [tupOf]; done) | (simp [tupOf] at *; grind) | trace_state
  by_cases h4 : k = 4
  · subst h4
    refine apure_in Try.func78 Try.ntmps78 rfl ?_
    repeat' (first
      | refine aw_seq ?_
      | (refine aw_run [3] ?_; try simp -implicitDefEqProofs (maxSteps := 1000000) [hl, List.lookup])
      | ((first | refine awl_skip' [3] rfl ?_ | refine awl_pure_guard [3] rfl rfl rfl (by first | assumption | kernel_rfl) rfl (fun hc => by first | exact hb | exact strength_ok w) (by simp) (by simp) (by simp) ?_ | refine awl_pure' [3] rfl rfl rfl (by first | assumption | kernel_rfl) rfl (by first | exact hb | exact strength_ok w) (by simp) (by simp) ?_ | refine aw_skip ?_ | refine aw_exit ?_); try simp -implicitDefEqProofs (maxSteps := 1000000) [hl, List.lookup])
      | (refine aw_cond rfl (fun h => ?_) (fun h => ?_) <;> try (with_reducible first | exact ff_tt h | exact tt_ff h))
      | refine aw_block ?_
      | refine aw_ret (ret_of (.inr rfl) (by simp [Try.results78]; rfl) (Fin.of ?_))
      | refine ret_of (.inl rfl) (by simp [Try.results78]; rfl) (Fin.of ?_))
    all_goals first | rfl | (simp [tupOf, List.lookup]; done) | (simp_all [tupOf]; done) | (simp [tupOf] at *; grind) | trace_state
  have hk : ∀ x : Int, x = 0 ∨ x = 1 → True := fun _ _ => trivial
  by_cases h5 : k = 5
  · subst h5
    by_cases w1 : w = bIF
    · subst w1
      refine apure_in Try.func78 Try.ntmps78 rfl ?_
      repeat' (first
        | refine aw_seq ?_
        | (refine aw_run [3] ?_; try simp -implicitDefEqProofs (maxSteps := 1000000) [hl, List.lookup, isFn])
        | ((first | refine awl_skip' [3] rfl ?_ | refine awl_pure_guard [3] rfl rfl rfl (by first | assumption | kernel_rfl) rfl (fun hc => by first | exact hb | exact hr) (by simp) (by simp) (by simp) ?_ | refine awl_pure' [3] rfl rfl rfl (by first | assumption | kernel_rfl) rfl (by first | exact hb | exact hr) (by simp) (by simp) ?_ | refine aw_skip ?_ | refine aw_exit ?_); try simp -implicitDefEqProofs (maxSteps := 1000000) [hl, List.lookup, isFn])
        | (refine aw_cond rfl (fun h => ?_) (fun h => ?_) <;> try (with_reducible first | exact ff_tt h | exact tt_ff h))
        | refine aw_block ?_
        | refine aw_ret (ret_of (.inr rfl) (by simp [Try.results78]; rfl) (Fin.of ?_))
        | refine ret_of (.inl rfl) (by simp [Try.results78]; rfl) (Fin.of ?_))
      all_goals first | rfl | (simp [tupOf, List.lookup, isFn]; done) | (simp_all [tupOf]; done) | (simp [tupOf] at *; grind) | trace_state
    by_cases w2 : w = ⟨#[83, 85, 77]⟩
    · subst w2
      refine apure_in Try.func78 Try.ntmps78 rfl ?_
      repeat' (first
        | refine aw_seq ?_
        | (refine aw_run [3] ?_; try simp -implicitDefEqProofs (maxSteps := 1000000) [hl, List.lookup, isFn])
        | ((first | refine awl_skip' [3] rfl ?_ | refine awl_pure_guard [3] rfl rfl rfl (by first | assumption | kernel_rfl) rfl (fun hc => by first | exact hb | exact hr) (by simp) (by simp) (by simp) ?_ | refine awl_pure' [3] rfl rfl rfl (by first | assumption | kernel_rfl) rfl (by first | exact hb | exact hr) (by simp) (by simp) ?_ | refine aw_skip ?_ | refine aw_exit ?_); try simp -implicitDefEqProofs (maxSteps := 1000000) [hl, List.lookup, isFn])
        | (refine aw_cond rfl (fun h => ?_) (fun h => ?_) <;> try (with_reducible first | exact ff_tt h | exact tt_ff h))
        | refine aw_block ?_
        | refine aw_ret (ret_of (.inr rfl) (by simp [Try.results78]; rfl) (Fin.of ?_))
        | refine ret_of (.inl rfl) (by simp [Try.results78]; rfl) (Fin.of ?_))
      all_goals first | rfl | (simp [tupOf, List.lookup, isFn]; done) | (simp_all [tupOf]; done) | (simp [tupOf] at *; grind) | trace_state
    by_cases w3 : w = ⟨#[77, 73, 78]⟩
    · subst w3
      refine apure_in Try.func78 Try.ntmps78 rfl ?_
      repeat' (first
        | refine aw_seq ?_
        | (refine aw_run [3] ?_; try simp -implicitDefEqProofs (maxSteps := 1000000) [hl, List.lookup, isFn])
        | ((first | refine awl_skip' [3] rfl ?_ | refine awl_pure_guard [3] rfl rfl rfl (by first | assumption | kernel_rfl) rfl (fun hc => by first | exact hb | exact hr) (by simp) (by simp) (by simp) ?_ | refine awl_pure' [3] rfl rfl rfl (by first | assumption | kernel_rfl) rfl (by first | exact hb | exact hr) (by simp) (by simp) ?_ | refine aw_skip ?_ | refine aw_exit ?_); try simp -implicitDefEqProofs (maxSteps := 1000000) [hl, List.lookup, isFn])
        | (refine aw_cond rfl (fun h => ?_) (fun h => ?_) <;> try (with_reducible first | exact ff_tt h | exact tt_ff h))
        | refine aw_block ?_
        | refine aw_ret (ret_of (.inr rfl) (by simp [Try.results78]; rfl) (Fin.of ?_))
        | refine ret_of (.inl rfl) (by simp [Try.results78]; rfl) (Fin.of ?_))
      all_goals first | rfl | (simp [tupOf, List.lookup, isFn]; done) | (simp_all [tupOf]; done) | (simp [tupOf] at *; grind) | trace_state
    by_cases w4 : w = ⟨#[77, 65, 88]⟩
    · subst w4
      refine apure_in Try.func78 Try.ntmps78 rfl ?_
      repeat' (first
        | refine aw_seq ?_
        | (refine aw_run [3] ?_; try simp -implicitDefEqProofs (maxSteps := 1000000) [hl, List.lookup, isFn])
        | ((first | refine awl_skip' [3] rfl ?_ | refine awl_pure_guard [3] rfl rfl rfl (by first | assumption | kernel_rfl) rfl (fun hc => by first | exact hb | exact hr) (by simp) (by simp) (by simp) ?_ | refine awl_pure' [3] rfl rfl rfl (by first | assumption | kernel_rfl) rfl (by first | exact hb | exact hr) (by simp) (by simp) ?_ | refine aw_skip ?_ | refine aw_exit ?_); try simp -implicitDefEqProofs (maxSteps := 1000000) [hl, List.lookup, isFn])
        | (refine aw_cond rfl (fun h => ?_) (fun h => ?_) <;> try (with_reducible first | exact ff_tt h | exact tt_ff h))
        | refine aw_block ?_
        | refine aw_ret (ret_of (.inr rfl) (by simp [Try.results78]; rfl) (Fin.of ?_))
        | refine ret_of (.inl rfl) (by simp [Try.results78]; rfl) (Fin.of ?_))
      all_goals first | rfl | (simp [tupOf, List.lookup, isFn]; done) | (simp_all [tupOf]; done) | (simp [tupOf] at *; grind) | trace_state
    by_cases w5 : w = bCOUNT
    · subst w5
      refine apure_in Try.func78 Try.ntmps78 rfl ?_
      repeat' (first
        | refine aw_seq ?_
        | (refine aw_run [3] ?_; try simp -implicitDefEqProofs (maxSteps := 1000000) [hl, List.lookup, isFn])
        | ((first | refine awl_skip' [3] rfl ?_ | refine awl_pure_guard [3] rfl rfl rfl (by first | assumption | kernel_rfl) rfl (fun hc => by first | exact hb | exact hr) (by simp) (by simp) (by simp) ?_ | refine awl_pure' [3] rfl rfl rfl (by first | assumption | kernel_rfl) rfl (by first | exact hb | exact hr) (by simp) (by simp) ?_ | refine aw_skip ?_ | refine aw_exit ?_); try simp -implicitDefEqProofs (maxSteps := 1000000) [hl, List.lookup, isFn])
        | (refine aw_cond rfl (fun h => ?_) (fun h => ?_) <;> try (with_reducible first | exact ff_tt h | exact tt_ff h))
        | refine aw_block ?_
        | refine aw_ret (ret_of (.inr rfl) (by simp [Try.results78]; rfl) (Fin.of ?_))
        | refine ret_of (.inl rfl) (by simp [Try.results78]; rfl) (Fin.of ?_))
      all_goals first | rfl | (simp [tupOf, List.lookup, isFn]; done) | (simp_all [tupOf]; done) | (simp [tupOf] at *; grind) | trace_state
    refine apure_in Try.func78 Try.ntmps78 rfl ?_
    repeat' (first
      | refine aw_seq ?_
      | (refine aw_run [3] ?_; try simp -implicitDefEqProofs (maxSteps := 1000000) [hl, w1, w2, w3, w4, w5, isFn])
      | ((first | refine awl_skip' [3] rfl ?_ | refine awl_pure_guard [3] rfl rfl rfl (by first | assumption | kernel_rfl) rfl (fun hc => by first | exact hb | exact hr) (by simp) (by simp) (by simp) ?_ | refine awl_pure' [3] rfl rfl rfl (by first | assumption | kernel_rfl) rfl (by first | exact hb | exact hr) (by simp) (by simp) ?_ | refine aw_skip ?_ | refine aw_exit ?_); try simp -implicitDefEqProofs (maxSteps := 1000000) [hl, w1, w2, w3, w4, w5, isFn])
      | (refine aw_cond rfl (fun h => ?_) (fun h => ?_) <;> try (with_reducible first | exact ff_tt h | exact tt_ff h))
      | refine aw_block ?_
      | refine aw_ret (ret_of (.inr rfl) (by simp [Try.results78]; rfl) (Fin.of ?_))
      | refine ret_of (.inl rfl) (by simp [Try.results78]; rfl) (Fin.of ?_))
    all_goals first | rfl | (simp [tupOf, w1, w2, w3, w4, w5, isFn]; done) | (simp_all [tupOf]; done) | (simp [tupOf] at *; grind) | trace_state
  by_cases w1 : w = bIF
  · subst w1
    refine apure_in Try.func78 Try.ntmps78 rfl ?_
    repeat' (first
      | refine aw_seq ?_
      | (refine aw_run [3] ?_; try simp -implicitDefEqProofs (maxSteps := 1000000) [hl, h0, h1, h2, h6, h3, h4, h5, isFn])
      | ((first | refine awl_skip' [3] rfl ?_ | refine awl_pure_guard [3] rfl rfl rfl (by first | assumption | kernel_rfl) rfl (fun hc => by first | exact hb | exact hr) (by simp) (by simp) (by simp) ?_ | refine awl_pure' [3] rfl rfl rfl (by first | assumption | kernel_rfl) rfl (by first | exact hb | exact hr) (by simp) (by simp) ?_ | refine aw_skip ?_ | refine aw_exit ?_); try simp -implicitDefEqProofs (maxSteps := 1000000) [hl, h0, h1, h2, h6, h3, h4, h5, isFn])
      | (refine aw_cond rfl (fun h => ?_) (fun h => ?_) <;> try (with_reducible first | exact ff_tt h | exact tt_ff h))
      | refine aw_block ?_
      | refine aw_ret (ret_of (.inr rfl) (by simp [Try.results78]; rfl) (Fin.of ?_))
      | refine ret_of (.inl rfl) (by simp [Try.results78]; rfl) (Fin.of ?_))
    all_goals first | rfl | (simp [tupOf, h0, h1, h2, h6, h3, h4, h5, isFn]; done) | (simp_all [tupOf]; done) | (simp [tupOf] at *; grind) | trace_state
  by_cases w2 : w = ⟨#[83, 85, 77]⟩
  · subst w2
    refine apure_in Try.func78 Try.ntmps78 rfl ?_
    repeat' (first
      | refine aw_seq ?_
      | (refine aw_run [3] ?_; try simp -implicitDefEqProofs (maxSteps := 1000000) [hl, h0, h1, h2, h6, h3, h4, h5, isFn])
      | ((first | refine awl_skip' [3] rfl ?_ | refine awl_pure_guard [3] rfl rfl rfl (by first | assumption | kernel_rfl) rfl (fun hc => by first | exact hb | exact hr) (by simp) (by simp) (by simp) ?_ | refine awl_pure' [3] rfl rfl rfl (by first | assumption | kernel_rfl) rfl (by first | exact hb | exact hr) (by simp) (by simp) ?_ | refine aw_skip ?_ | refine aw_exit ?_); try simp -implicitDefEqProofs (maxSteps := 1000000) [hl, h0, h1, h2, h6, h3, h4, h5, isFn])
      | (refine aw_cond rfl (fun h => ?_) (fun h => ?_) <;> try (with_reducible first | exact ff_tt h | exact tt_ff h))
      | refine aw_block ?_
      | refine aw_ret (ret_of (.inr rfl) (by simp [Try.results78]; rfl) (Fin.of ?_))
      | refine ret_of (.inl rfl) (by simp [Try.results78]; rfl) (Fin.of ?_))
    all_goals first | rfl | (simp [tupOf, h0, h1, h2, h6, h3, h4, h5, isFn]; done) | (simp_all [tupOf]; done) | (simp [tupOf] at *; grind) | trace_state
  by_cases w3 : w = ⟨#[77, 73, 78]⟩
  · subst w3
    refine apure_in Try.func78 Try.ntmps78 rfl ?_
    repeat' (first
      | refine aw_seq ?_
      | (refine aw_run [3] ?_; try simp -implicitDefEqProofs (maxSteps := 1000000) [hl, h0, h1, h2, h6, h3, h4, h5, isFn])
      | ((first | refine awl_skip' [3] rfl ?_ | refine awl_pure_guard [3] rfl rfl rfl (by first | assumption | kernel_rfl) rfl (fun hc => by first | exact hb | exact hr) (by simp) (by simp) (by simp) ?_ | refine awl_pure' [3] rfl rfl rfl (by first | assumption | kernel_rfl) rfl (by first | exact hb | exact hr) (by simp) (by simp) ?_ | refine aw_skip ?_ | refine aw_exit ?_); try simp -implicitDefEqProofs (maxSteps := 1000000) [hl, h0, h1, h2, h6, h3, h4, h5, isFn])
      | (refine aw_cond rfl (fun h => ?_) (fun h => ?_) <;> try (with_reducible first | exact ff_tt h | exact tt_ff h))
      | refine aw_block ?_
      | refine aw_ret (ret_of (.inr rfl) (by simp [Try.results78]; rfl) (Fin.of ?_))
      | refine ret_of (.inl rfl) (by simp [Try.results78]; rfl) (Fin.of ?_))
    all_goals first | rfl | (simp [tupOf, h0, h1, h2, h6, h3, h4, h5, isFn]; done) | (simp_all [tupOf]; done) | (simp [tupOf] at *; grind) | trace_state
  by_cases w4 : w = ⟨#[77, 65, 88]⟩
  · subst w4
    refine apure_in Try.func78 Try.ntmps78 rfl ?_
    repeat' (first
      | refine aw_seq ?_
      | (refine aw_run [3] ?_; try simp -implicitDefEqProofs (maxSteps := 1000000) [hl, h0, h1, h2, h6, h3, h4, h5, isFn])
      | ((first | refine awl_skip' [3] rfl ?_ | refine awl_pure_guard [3] rfl rfl rfl (by first | assumption | kernel_rfl) rfl (fun hc => by first | exact hb | exact hr) (by simp) (by simp) (by simp) ?_ | refine awl_pure' [3] rfl rfl rfl (by first | assumption | kernel_rfl) rfl (by first | exact hb | exact hr) (by simp) (by simp) ?_ | refine aw_skip ?_ | refine aw_exit ?_); try simp -implicitDefEqProofs (maxSteps := 1000000) [hl, h0, h1, h2, h6, h3, h4, h5, isFn])
      | (refine aw_cond rfl (fun h => ?_) (fun h => ?_) <;> try (with_reducible first | exact ff_tt h | exact tt_ff h))
      | refine aw_block ?_
      | refine aw_ret (ret_of (.inr rfl) (by simp [Try.results78]; rfl) (Fin.of ?_))
      | refine ret_of (.inl rfl) (by simp [Try.results78]; rfl) (Fin.of ?_))
    all_goals first | rfl | (simp [tupOf, h0, h1, h2, h6, h3, h4, h5, isFn]; done) | (simp_all [tupOf]; done) | (simp [tupOf] at *; grind) | trace_state
  by_cases w5 : w = bCOUNT
  · subst w5
    refine apure_in Try.func78 Try.ntmps78 rfl ?_
    repeat' (first
      | refine aw_seq ?_
      | (refine aw_run [3] ?_; try simp -implicitDefEqProofs (maxSteps := 1000000) [hl, h0, h1, h2, h6, h3, h4, h5, isFn])
      | ((first | refine awl_skip' [3] rfl ?_ | refine awl_pure_guard [3] rfl rfl rfl (by first | assumption | kernel_rfl) rfl (fun hc => by first | exact hb | exact hr) (by simp) (by simp) (by simp) ?_ | refine awl_pure' [3] rfl rfl rfl (by first | assumption | kernel_rfl) rfl (by first | exact hb | exact hr) (by simp) (by simp) ?_ | refine aw_skip ?_ | refine aw_exit ?_); try simp -implicitDefEqProofs (maxSteps := 1000000) [hl, h0, h1, h2, h6, h3, h4, h5, isFn])
      | (refine aw_cond rfl (fun h => ?_) (fun h => ?_) <;> try (with_reducible first | exact ff_tt h | exact tt_ff h))
      | refine aw_block ?_
      | refine aw_ret (ret_of (.inr rfl) (by simp [Try.results78]; rfl) (Fin.of ?_))
      | refine ret_of (.inl rfl) (by simp [Try.results78]; rfl) (Fin.of ?_))
    all_goals first | rfl | (simp [tupOf, h0, h1, h2, h6, h3, h4, h5, isFn]; done) | (simp_all [tupOf]; done) | (simp [tupOf] at *; grind) | trace_state
  refine apure_in Try.func78 Try.ntmps78 rfl ?_
  repeat' (first
    | refine aw_seq ?_
    | (refine aw_run [3] ?_; try simp -implicitDefEqProofs (maxSteps := 1000000) [hl, h0, h1, h2, h6, h3, h4, h5, w1, w2, w3, w4, w5, isFn])
    | ((first | refine awl_skip' [3] rfl ?_ | refine awl_pure_guard [3] rfl rfl rfl (by first | assumption | kernel_rfl) rfl (fun hc => by first | exact hb | exact hr) (by simp) (by simp) (by simp) ?_ | refine awl_pure' [3] rfl rfl rfl (by first | assumption | kernel_rfl) rfl (by first | exact hb | exact hr) (by simp) (by simp) ?_ | refine aw_skip ?_ | refine aw_exit ?_); try simp -implicitDefEqProofs (maxSteps := 1000000) [hl, h0, h1, h2, h6, h3, h4, h5, w1, w2, w3, w4, w5, isFn])
    | (refine aw_cond rfl (fun h => ?_) (fun h => ?_) <;> try (with_reducible first | exact ff_tt h | exact tt_ff h))
    | refine aw_block ?_
    | refine aw_ret (ret_of (.inr rfl) (by simp [Try.results78]; rfl) (Fin.of ?_))
    | refine ret_of (.inl rfl) (by simp [Try.results78]; rfl) (Fin.of ?_))
  all_goals first | rfl | (simp [tupOf, h0, h1, h2, h6, h3, h4, h5, w1, w2, w3, w4, w5, isFn]; done) | (simp_all [tupOf]; done) | (simp [tupOf] at *; grind) | trace_state
end Go.AL
/-! Contracts: syntax.right, Right. -/
namespace Go.AL
open Go.Proofs
set_option linter.unusedSimpArgs false
set_option linter.unusedVariables false
@[simp] def Tree.kids : Tree → List Tree
  | .mk _ _ _ _ _ _ _ ks => ks
def rightK : Nat → Tree → Bool
  | 0, _ => false
  | d + 1, t => ownK t && t.kids.all fun u => fitsK t u && rightK d u
set_option maxHeartbeats 8000000 in
set_option maxRecDepth 100000 in
theorem sright_ok : ∀ (d : Nat) (t : Tree), d ≤ 16 → t.sh → APure Try.prog 55 [t.av, vi d] (vb (rightK d t)) := by
  intro d
  induction d with
  | zero =>
    intro t _ _
    obtain ⟨k, n, a, b, c, d, w, ks⟩ := t
    rw [Tree.av, rightK]
    refine apure_in Try.func55 Try.ntmps55 rfl ?_
    repeat' first | refine aw_N [6] trivial trivial ?_ | refine aw_cond rfl (fun h => ?_) (fun h => ?_)
    all_goals first | rfl | (simp [tupOf]; done) | trace_state
  | succ e ihd =>
    intro t hd hsh
    have ho := own_ok t
    have hfits := fun u => fits_ok t u
    rw [rightK]
    generalize hob : ownK t = ob at *
    generalize hfk : fitsK t = fk at *
    obtain ⟨k, n, a, b, c, d, w, ks⟩ := t
    rw [Tree.sh, shs_all] at hsh
    obtain ⟨hlk, hsh⟩ := hsh
    have hl := avs_len ks
    rw [Tree.av] at ho hfits ⊢
    simp only [Tree.kids]
    have he0 : ¬ ((e : Int) + 1 = 0) := by omega
    have we : IntKind.i64.wrap (e : Int) = (e : Int) := wrap_id (by omega) (by omega)
    have we1 : IntKind.i64.wrap ((e : Int) + 1 - 1) = (e : Int) := by rw [Int.add_sub_cancel]; exact we
    rw [show ((e + 1 : Nat) : Int) = (e : Int) + 1 by omega]
    cases ob with
    | false =>
      refine apure_in Try.func55 Try.ntmps55 rfl ?_
      repeat' first | refine aw_N [6] @he0 (And.intro @ho trivial) ?_ | refine aw_cond rfl (fun h => ?_) (fun h => ?_)
      all_goals first | rfl | (simp [tupOf]; done) | trace_state
    | true =>
      refine apure_in Try.func55 Try.ntmps55 rfl ?_
      repeat' first | refine aw_N [6] (And.intro @he0 @hl) (And.intro @ho trivial) ?_ | refine aw_cond rfl (fun h => ?_) (fun h => ?_)
      refine aw_loopW [1, 2, 15, 16, 17] (fun q fr σ => ∃ i M : Nat, i + q = ks.length ∧ (ks.take i).all (fun u => fk u && rightK e u) = true ∧ σ = mkSt [] [] M ∧ fr = frm 33 [(1, vi ((e : Int) + 1)), (2, .vel [.agg [vi k, vi n, vi a, vi b, vi c, vi d, vs w, .vsl (avs ks)]] 0 0), (15, .vsl (avs ks)), (16, vi ks.length), (17, vi (i : Nat))]) ks.length ?_ ?_
      · exact ⟨mkSt [] [] 0, le_mkSt (by simp) (by simp) (by simp [σ0]), 0, 0, by omega, by simp, rfl, by simp [hl]⟩
      · rintro q fr σ ⟨i, M, hi, hal, rfl, rfl⟩
        simp -implicitDefEqProofs
        by_cases hlt : i < ks.length
        · have hlti : (i : Int) < ks.length := by omega
          obtain ⟨t, ht⟩ : ∃ t, ks[i] = t := ⟨_, rfl⟩
          have hmem : t ∈ ks := ht ▸ List.getElem_mem hlt
          have hr := ihd t (by omega) (hsh t hmem)
          have hf := hfits t
          have hg := avs_get hlt
          rw [ht] at hg
          have hla : i < (avs ks).length := by omega
          have wi : IntKind.i64.wrap ((i : Int) + 1) = (i : Int) + 1 := wrap_id (by omega) (by omega)
          have hyes : (fk t && rightK e t) = true → (ks.take (i + 1)).all (fun u => fk u && rightK e u) = true := fun h => all_take (p := fun u => fk u && rightK e u) hlt hal (by rw [ht]; exact h)
          have hno : (fk t && rightK e t) = false → ks.all (fun u => fk u && rightK e u) = false := fun h => all_not (p := fun u => fk u && rightK e u) hmem h
          generalize fk t = fb at *
          generalize rightK e t = rb at *
          obtain ⟨tk, tn, ta, tb, tc, td, tw, tks⟩ := t
          rw [Tree.av] at hr hg hf
          repeat' first | refine aw_N [6] (And.intro @hl (And.intro @hlti (And.intro @hla (And.intro @hg (And.intro @wi (And.intro @we @we1)))))) (And.intro @hf (And.intro @hr trivial)) ?_ | refine aw_cond rfl (fun h => ?_) (fun h => ?_)
          · rw [hno (by revert h; cases fb <;> cases rb <;> simp)]; simp [tupOf]
          · have hy := hyes (by revert h; cases fb <;> cases rb <;> simp)
            exact ⟨q - 1, by omega, mkSt [] [] (M + 1), le_mkSt (by simp) (by simp) (by simp), i + 1, by omega, fun x hx => by have := List.all_eq_true.1 hy x hx; simpa using this, ⟨_, rfl⟩, by omega⟩
        · have hlti : ¬ (i : Int) < ks.length := by omega
          rw [List.take_of_length_le (by omega)] at hal
          rw [hal]
          repeat' first | refine aw_N [6] (And.intro @hl @hlti) trivial ?_ | refine aw_cond rfl (fun h => ?_) (fun h => ?_)
          simp [tupOf]
set_option maxHeartbeats 8000000 in
set_option maxRecDepth 100000 in
theorem sRight_ok (t : Tree) (h : t.sh) : APure Try.prog 38 [t.av] (vb (!decide (t.kind = 6) && rightK 16 t)) := by
  have hr := sright_ok 16 t (by omega) h
  generalize rightK 16 t = rb at *
  obtain ⟨k, n, a, b, c, d, w, ks⟩ := t
  rw [Tree.av] at hr ⊢
  simp only [Tree.kind]
  refine apure_in Try.func38 Try.ntmps38 rfl ?_
  repeat' first | refine aw_N [] trivial (And.intro @hr trivial) ?_ | refine aw_cond rfl (fun h => ?_) (fun h => ?_)
  first | rfl | (by_cases h6 : k = 6 <;> simp [tupOf, h6])
end Go.AL
