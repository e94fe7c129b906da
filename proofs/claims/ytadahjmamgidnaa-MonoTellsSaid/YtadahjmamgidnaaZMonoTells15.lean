/- Parts of the proof of MonoTells: the logic, contracts, plain laws. -/
import Derived.Test.YtadahjmamgidnaaZMonoTells10
import Derived.Test.YtadahjmamgidnaaZMonoTells14
import Derived.Test.YtadahjmamgidnaaZMonoTells9
import Derived.Laws.RangeAny
import Derived.Laws.RangeString
import Derived.Lib.ItoaLen
import Derived.Sort.Grow
import Derived.Laws.BytesArg
import Derived.Lib.ConvBytes
import Derived.Lib.AtoiAll
import Derived.Shelf.Strconv.Itoa3
import Derived.Lib.AtoiAllCases
/-! Contracts: mono's and gridironref08's ways. -/
namespace Go.AL
open Go.Proofs
set_option linter.unusedSimpArgs false
set_option linter.unusedVariables false
def cleanW (w : Int) : Int := if w < 0 ∨ 3 < w then 3 else w
/-- Two ways joined. -/
def twoW (a b : Int) : Int := if (a < 0 ∨ 3 < a) ∨ (b < 0 ∨ 3 < b) then 3 else if a = 0 ∨ a = b then b else if b = 0 then a else 3
def flipW (w : Int) : Int := if w = 1 then 2 else if w = 2 then 1 else cleanW w
def joinW (l : List Int) : Int := l.foldl twoW 0
theorem joinW_snoc (l : List Int) (w : Int) : joinW (l ++ [w]) = twoW (joinW l) w := by simp [joinW]
theorem two_ref (a b : Int) : (if cleanW a = 0 ∨ cleanW a = cleanW b then cleanW b else if cleanW b = 0 then cleanW a else 3) = twoW a b := by
  unfold cleanW twoW
  repeat' split
  all_goals omega
def vis (l : List Int) : List AV := l.map fun w => vi w
@[simp] theorem cl_vis (l : List Int) : (∀ c ∈ vis l, Cl c) = True := eq_true fun c hc => by
  obtain ⟨p, _, rfl⟩ := List.mem_map.1 hc
  exact .p _
theorem vis_len (l : List Int) : (vis l).length = l.length := List.length_map _
theorem vis_get {l : List Int} {i : Nat} {w : Int} (h : l[i]? = some w) : (vis l)[i]? = some (vi w) := by rw [vis, List.getElem?_map, h]; rfl
set_option maxHeartbeats 4000000 in
set_option maxRecDepth 100000 in
theorem two_ok (a b : Int) : APure Try.prog 58 [vi a, vi b] (vi (twoW a b)) := by
  refine apure_of Try.func58 Try.ntmps58 rfl ?_
  simp only [List.length_cons, List.length_nil, List.cons_append, List.nil_append, List.replicate]
  repeat' (first
    | refine aw_seq ?_
    | (refine aw_run [] ?_; try simp -implicitDefEqProofs (maxSteps := 1000000))
    | ((first | refine awl_skip' [] rfl ?_ | refine aw_skip ?_ | refine aw_exit ?_); try simp -implicitDefEqProofs (maxSteps := 1000000))
    | (refine aw_cond rfl (fun h => ?_) (fun h => ?_) <;> try (with_reducible first | exact ff_tt h | exact tt_ff h))
    | refine aw_block ?_
    | refine aw_ret (ret_of (.inr rfl) (by simp [Try.results58]; rfl) (Fin.of ?_))
    | refine ret_of (.inl rfl) (by simp [Try.results58]; rfl) (Fin.of ?_))
  all_goals (try simp at *)
  all_goals (try simp [tupOf])
  all_goals (unfold twoW; repeat' split)
  all_goals omega
set_option maxHeartbeats 4000000 in
set_option maxRecDepth 100000 in
theorem flip_ok (w : Int) : APure Try.prog 30 [vi w] (vi (flipW w)) := by
  refine apure_of Try.func30 Try.ntmps30 rfl ?_
  simp only [List.length_cons, List.length_nil, List.cons_append, List.nil_append, List.replicate]
  repeat' (first
    | refine aw_seq ?_
    | (refine aw_run [] ?_; try simp -implicitDefEqProofs (maxSteps := 1000000))
    | ((first | refine awl_skip' [] rfl ?_ | refine aw_skip ?_ | refine aw_exit ?_); try simp -implicitDefEqProofs (maxSteps := 1000000))
    | (refine aw_cond rfl (fun h => ?_) (fun h => ?_) <;> try (with_reducible first | exact ff_tt h | exact tt_ff h))
    | refine aw_block ?_
    | refine aw_ret (ret_of (.inr rfl) (by simp [Try.results30]; rfl) (Fin.of ?_))
    | refine ret_of (.inl rfl) (by simp [Try.results30]; rfl) (Fin.of ?_))
  all_goals (try simp at *)
  all_goals (try simp [tupOf])
  all_goals (unfold flipW cleanW; repeat' split)
  all_goals omega
set_option maxHeartbeats 4000000 in
set_option maxRecDepth 100000 in
theorem rclean8_ok (w : Int) : APure Try.prog 60 [vi w] (vi (cleanW w)) := by
  refine apure_of Try.func60 Try.ntmps60 rfl ?_
  simp only [List.length_cons, List.length_nil, List.cons_append, List.nil_append, List.replicate]
  repeat' (first
    | refine aw_seq ?_
    | (refine aw_run [] ?_; try simp -implicitDefEqProofs (maxSteps := 1000000))
    | ((first | refine awl_skip' [] rfl ?_ | refine aw_skip ?_ | refine aw_exit ?_); try simp -implicitDefEqProofs (maxSteps := 1000000))
    | (refine aw_cond rfl (fun h => ?_) (fun h => ?_) <;> try (with_reducible first | exact ff_tt h | exact tt_ff h))
    | refine aw_block ?_
    | refine aw_ret (ret_of (.inr rfl) (by simp [Try.results60]; rfl) (Fin.of ?_))
    | refine ret_of (.inl rfl) (by simp [Try.results60]; rfl) (Fin.of ?_))
  all_goals (try simp at *)
  all_goals (try simp [tupOf])
  all_goals (unfold cleanW; repeat' split)
  all_goals omega
set_option maxHeartbeats 4000000 in
set_option maxRecDepth 100000 in
theorem rtwo8_ok (a b : Int) : APure Try.prog 59 [vi a, vi b] (vi (twoW a b)) := by
  rw [← two_ref]
  refine apure_of Try.func59 Try.ntmps59 rfl ?_
  simp only [List.length_cons, List.length_nil, List.cons_append, List.nil_append, List.replicate]
  repeat' (first
    | refine aw_seq ?_
    | (refine aw_run [] ?_; try simp -implicitDefEqProofs (maxSteps := 1000000))
    | ((first | refine awl_skip' [] rfl ?_ | refine awl_pure_guard [] rfl rfl rfl (by first | assumption | kernel_rfl) rfl (fun hc => by first | exact rclean8_ok _) (by simp) (by simp) (by simp) ?_ | refine awl_pure' [] rfl rfl rfl (by first | assumption | kernel_rfl) rfl (by first | exact rclean8_ok _) (by simp) (by simp) ?_ | refine aw_skip ?_ | refine aw_exit ?_); try simp -implicitDefEqProofs (maxSteps := 1000000))
    | (refine aw_cond rfl (fun h => ?_) (fun h => ?_) <;> try (with_reducible first | exact ff_tt h | exact tt_ff h))
    | refine aw_block ?_
    | refine aw_ret (ret_of (.inr rfl) (by simp [Try.results59]; rfl) (Fin.of ?_))
    | refine ret_of (.inl rfl) (by simp [Try.results59]; rfl) (Fin.of ?_))
  all_goals (try simp at *)
  all_goals (try simp [tupOf])
  all_goals (repeat' split)
  all_goals omega
set_option maxHeartbeats 4000000 in
set_option maxRecDepth 100000 in
theorem rflip8_ok (w : Int) : APure Try.prog 31 [vi w] (vi (flipW w)) := by
  refine apure_of Try.func31 Try.ntmps31 rfl ?_
  simp only [List.length_cons, List.length_nil, List.cons_append, List.nil_append, List.replicate]
  repeat' (first
    | refine aw_seq ?_
    | (refine aw_run [] ?_; try simp -implicitDefEqProofs (maxSteps := 1000000))
    | ((first | refine awl_skip' [] rfl ?_ | refine awl_pure_guard [] rfl rfl rfl (by first | assumption | kernel_rfl) rfl (fun hc => by first | exact rclean8_ok _) (by simp) (by simp) (by simp) ?_ | refine awl_pure' [] rfl rfl rfl (by first | assumption | kernel_rfl) rfl (by first | exact rclean8_ok _) (by simp) (by simp) ?_ | refine aw_skip ?_ | refine aw_exit ?_); try simp -implicitDefEqProofs (maxSteps := 1000000))
    | (refine aw_cond rfl (fun h => ?_) (fun h => ?_) <;> try (with_reducible first | exact ff_tt h | exact tt_ff h))
    | refine aw_block ?_
    | refine aw_ret (ret_of (.inr rfl) (by simp [Try.results31]; rfl) (Fin.of ?_))
    | refine ret_of (.inl rfl) (by simp [Try.results31]; rfl) (Fin.of ?_))
  all_goals (try simp at *)
  all_goals (try simp [tupOf])
  all_goals (unfold flipW; repeat' split)
  all_goals omega
set_option maxHeartbeats 4000000 in
set_option maxRecDepth 100000 in
theorem rby8_ok (w n : Int) : APure Try.prog 109 [vi w, vi n] (vi (if n < 0 then flipW w else w)) := by
  refine apure_of Try.func109 Try.ntmps109 rfl ?_
  simp only [List.length_cons, List.length_nil, List.cons_append, List.nil_append, List.replicate]
  repeat' (first
    | refine aw_seq ?_
    | (refine aw_run [] ?_; try simp -implicitDefEqProofs (maxSteps := 1000000))
    | ((first | refine awl_skip' [] rfl ?_ | refine awl_pure_guard [] rfl rfl rfl (by first | assumption | kernel_rfl) rfl (fun hc => by first | exact rflip8_ok _) (by simp) (by simp) (by simp) ?_ | refine awl_pure' [] rfl rfl rfl (by first | assumption | kernel_rfl) rfl (by first | exact rflip8_ok _) (by simp) (by simp) ?_ | refine aw_skip ?_ | refine aw_exit ?_); try simp -implicitDefEqProofs (maxSteps := 1000000))
    | (refine aw_cond rfl (fun h => ?_) (fun h => ?_) <;> try (with_reducible first | exact ff_tt h | exact tt_ff h))
    | refine aw_block ?_
    | refine aw_ret (ret_of (.inr rfl) (by simp [Try.results109]; rfl) (Fin.of ?_))
    | refine ret_of (.inl rfl) (by simp [Try.results109]; rfl) (Fin.of ?_))
  all_goals (try simp at *)
  all_goals (try simp [tupOf])
  all_goals (repeat' split)
  all_goals omega
set_option maxHeartbeats 4000000 in
set_option maxRecDepth 100000 in
theorem times_ok (w n : Int) : APure Try.prog 106 [vi w, vi n] (vi (if n < 0 then flipW w else w)) := by
  refine apure_of Try.func106 Try.ntmps106 rfl ?_
  simp only [List.length_cons, List.length_nil, List.cons_append, List.nil_append, List.replicate]
  repeat' (first
    | refine aw_seq ?_
    | (refine aw_run [] ?_; try simp -implicitDefEqProofs (maxSteps := 1000000))
    | ((first | refine awl_skip' [] rfl ?_ | refine awl_pure_guard [] rfl rfl rfl (by first | assumption | kernel_rfl) rfl (fun hc => by first | exact flip_ok _) (by simp) (by simp) (by simp) ?_ | refine awl_pure' [] rfl rfl rfl (by first | assumption | kernel_rfl) rfl (by first | exact flip_ok _) (by simp) (by simp) ?_ | refine aw_skip ?_ | refine aw_exit ?_); try simp -implicitDefEqProofs (maxSteps := 1000000))
    | (refine aw_cond rfl (fun h => ?_) (fun h => ?_) <;> try (with_reducible first | exact ff_tt h | exact tt_ff h))
    | refine aw_block ?_
    | refine aw_ret (ret_of (.inr rfl) (by simp [Try.results106]; rfl) (Fin.of ?_))
    | refine ret_of (.inl rfl) (by simp [Try.results106]; rfl) (Fin.of ?_))
  all_goals (try simp at *)
  all_goals (try simp [tupOf])
  all_goals (repeat' split)
  all_goals omega
set_option maxHeartbeats 4000000 in
set_option maxRecDepth 100000 in
theorem join_ok (l : List Int) (hl : (l.length : Int) ≤ 9223372036854775807) : APure Try.prog 28 [.vsl (vis l)] (vi (joinW l)) := by
  have hvl := vis_len l
  refine apure_of Try.func28 Try.ntmps28 rfl ?_
  simp only [List.length_cons, List.length_nil, List.cons_append, List.nil_append, List.replicate]
  repeat' (first
    | refine aw_seq ?_
    | (refine aw_run [] ?_; try simp -implicitDefEqProofs (maxSteps := 1000000) [hvl])
    | ((first | refine awl_skip' [] rfl ?_ | refine aw_skip ?_ | refine aw_exit ?_); try simp -implicitDefEqProofs (maxSteps := 1000000) [hvl])
    | (refine aw_cond rfl (fun h => ?_) (fun h => ?_) <;> try (with_reducible first | exact ff_tt h | exact tt_ff h))
    | refine aw_block ?_
    | refine aw_ret (ret_of (.inr rfl) (by simp [Try.results28]; rfl) (Fin.of ?_))
    | refine ret_of (.inl rfl) (by simp [Try.results28]; rfl) (Fin.of ?_))
  refine aw_loopW [3, 6, 7, 8] (fun q fr σ => ∃ i N : Nat, i + q = l.length ∧ σ = mkSt [] [] N ∧ fr = frm 17 [(3, vi (joinW (l.take i))), (6, .vsl (vis l)), (7, vi l.length), (8, vi (i : Nat))]) l.length ?_ ?_
  · exact ⟨_, le_mkSt (bs := []) (ss := []) (n := 0) (by simp) (by simp) (by simp [σ0]), 0, 0, by omega, rfl, by simp [joinW, hvl]⟩
  · rintro q fr σ ⟨i, N, hi, rfl, rfl⟩
    simp -implicitDefEqProofs
    by_cases hlt : i < l.length
    · have hlti : (i : Int) < l.length := by omega
      obtain ⟨w, hw⟩ : ∃ w, l[i]? = some w := ⟨_, List.getElem?_eq_getElem hlt⟩
      have hg := vis_get hw
      have wi : IntKind.i64.wrap ((i : Int) + 1) = (i : Int) + 1 := wrap_id (by omega) (by omega)
      have hjn : joinW (l.take (i + 1)) = twoW (joinW (l.take i)) w := by rw [List.take_add_one, hw]; exact joinW_snoc _ _
      generalize joinW (l.take i) = jw at *
      repeat' (first
        | refine aw_seq ?_
        | (refine aw_run [] ?_; try simp -implicitDefEqProofs (maxSteps := 1000000) [hlti, hvl, hg, wi])
        | ((first | refine awl_skip' [] rfl ?_ | refine awl_pure_guard [] rfl rfl rfl (by first | assumption | kernel_rfl) rfl (fun hc => by first | exact two_ok _ _) (by simp) (by simp) (by simp) ?_ | refine awl_pure' [] rfl rfl rfl (by first | assumption | kernel_rfl) rfl (by first | exact two_ok _ _) (by simp) (by simp) ?_ | refine aw_skip ?_ | refine aw_exit ?_); try simp -implicitDefEqProofs (maxSteps := 1000000) [hlti, hvl, hg, wi])
        | (refine aw_cond rfl (fun h => ?_) (fun h => ?_) <;> try (with_reducible first | exact ff_tt h | exact tt_ff h))
        | refine aw_block ?_
        | refine aw_ret (ret_of (.inr rfl) (by simp [Try.results28]; rfl) (Fin.of ?_))
        | refine ret_of (.inl rfl) (by simp [Try.results28]; rfl) (Fin.of ?_))
      exact ⟨q - 1, by omega, mkSt [] [] N, le_mkSt (by simp) (by simp) (Nat.le_refl _), i + 1, by omega, ⟨_, rfl⟩, hjn.symm, by omega⟩
    · have hlti : ¬ (i : Int) < l.length := by omega
      rw [List.take_of_length_le (by omega)]
      repeat' (first
        | refine aw_seq ?_
        | (refine aw_run [] ?_; try simp -implicitDefEqProofs (maxSteps := 1000000) [hlti])
        | ((first | refine awl_skip' [] rfl ?_ | refine aw_skip ?_ | refine aw_exit ?_); try simp -implicitDefEqProofs (maxSteps := 1000000) [hlti])
        | (refine aw_cond rfl (fun h => ?_) (fun h => ?_) <;> try (with_reducible first | exact ff_tt h | exact tt_ff h))
        | refine aw_block ?_
        | refine aw_ret (ret_of (.inr rfl) (by simp [Try.results28]; rfl) (Fin.of ?_))
        | refine ret_of (.inl rfl) (by simp [Try.results28]; rfl) (Fin.of ?_))
      all_goals first | (simp [tupOf]; done) | trace_state
set_option maxHeartbeats 4000000 in
set_option maxRecDepth 100000 in
theorem rjoin8_ok (l : List Int) (hl : (l.length : Int) ≤ 9223372036854775807) : APure Try.prog 29 [.vsl (vis l)] (vi (joinW l)) := by
  have hvl := vis_len l
  refine apure_of Try.func29 Try.ntmps29 rfl ?_
  simp only [List.length_cons, List.length_nil, List.cons_append, List.nil_append, List.replicate]
  repeat' (first
    | refine aw_seq ?_
    | (refine aw_run [] ?_; try simp -implicitDefEqProofs (maxSteps := 1000000) [hvl])
    | ((first | refine awl_skip' [] rfl ?_ | refine aw_skip ?_ | refine aw_exit ?_); try simp -implicitDefEqProofs (maxSteps := 1000000) [hvl])
    | (refine aw_cond rfl (fun h => ?_) (fun h => ?_) <;> try (with_reducible first | exact ff_tt h | exact tt_ff h))
    | refine aw_block ?_
    | refine aw_ret (ret_of (.inr rfl) (by simp [Try.results29]; rfl) (Fin.of ?_))
    | refine ret_of (.inl rfl) (by simp [Try.results29]; rfl) (Fin.of ?_))
  refine aw_loopW [0, 3, 4] (fun q fr σ => ∃ i N : Nat, i + q = l.length ∧ σ = mkSt [] [] N ∧ fr = frm 18 [(0, .vsl (vis l)), (3, vi (joinW (l.take i))), (4, vi (i : Nat))]) l.length ?_ ?_
  · exact ⟨_, le_mkSt (bs := []) (ss := []) (n := 0) (by simp) (by simp) (by simp [σ0]), 0, 0, by omega, rfl, by simp [joinW, hvl]⟩
  · rintro q fr σ ⟨i, N, hi, rfl, rfl⟩
    simp -implicitDefEqProofs
    by_cases hlt : i < l.length
    · have hlti : (i : Int) < l.length := by omega
      obtain ⟨w, hw⟩ : ∃ w, l[i]? = some w := ⟨_, List.getElem?_eq_getElem hlt⟩
      have hg := vis_get hw
      have wi : IntKind.i64.wrap ((i : Int) + 1) = (i : Int) + 1 := wrap_id (by omega) (by omega)
      have hjn : joinW (l.take (i + 1)) = twoW (joinW (l.take i)) w := by rw [List.take_add_one, hw]; exact joinW_snoc _ _
      generalize joinW (l.take i) = jw at *
      repeat' (first
        | refine aw_seq ?_
        | (refine aw_run [] ?_; try simp -implicitDefEqProofs (maxSteps := 1000000) [hlti, hvl, hg, wi])
        | ((first | refine awl_skip' [] rfl ?_ | refine awl_pure_guard [] rfl rfl rfl (by first | assumption | kernel_rfl) rfl (fun hc => by first | exact rtwo8_ok _ _) (by simp) (by simp) (by simp) ?_ | refine awl_pure' [] rfl rfl rfl (by first | assumption | kernel_rfl) rfl (by first | exact rtwo8_ok _ _) (by simp) (by simp) ?_ | refine aw_skip ?_ | refine aw_exit ?_); try simp -implicitDefEqProofs (maxSteps := 1000000) [hlti, hvl, hg, wi])
        | (refine aw_cond rfl (fun h => ?_) (fun h => ?_) <;> try (with_reducible first | exact ff_tt h | exact tt_ff h))
        | refine aw_block ?_
        | refine aw_ret (ret_of (.inr rfl) (by simp [Try.results29]; rfl) (Fin.of ?_))
        | refine ret_of (.inl rfl) (by simp [Try.results29]; rfl) (Fin.of ?_))
      exact ⟨q - 1, by omega, mkSt [] [] N, le_mkSt (by simp) (by simp) (Nat.le_refl _), i + 1, by omega, ⟨_, rfl⟩, hjn.symm, by omega⟩
    · have hlti : ¬ (i : Int) < l.length := by omega
      rw [List.take_of_length_le (by omega)]
      repeat' (first
        | refine aw_seq ?_
        | (refine aw_run [] ?_; try simp -implicitDefEqProofs (maxSteps := 1000000) [hlti, hvl])
        | ((first | refine awl_skip' [] rfl ?_ | refine aw_skip ?_ | refine aw_exit ?_); try simp -implicitDefEqProofs (maxSteps := 1000000) [hlti, hvl])
        | (refine aw_cond rfl (fun h => ?_) (fun h => ?_) <;> try (with_reducible first | exact ff_tt h | exact tt_ff h))
        | refine aw_block ?_
        | refine aw_ret (ret_of (.inr rfl) (by simp [Try.results29]; rfl) (Fin.of ?_))
        | refine ret_of (.inl rfl) (by simp [Try.results29]; rfl) (Fin.of ?_))
      all_goals first | (simp [tupOf]; done) | trace_state
set_option maxHeartbeats 4000000 in
set_option maxRecDepth 100000 in
theorem still_ok (l : List Int) (hl : (l.length : Int) ≤ 9223372036854775807) : APure Try.prog 107 [.vsl (vis l)] (vi (if joinW l = 0 then 0 else 3)) := by
  have hj := join_ok l hl
  generalize joinW l = jw at *
  refine apure_of Try.func107 Try.ntmps107 rfl ?_
  simp only [List.length_cons, List.length_nil, List.cons_append, List.nil_append, List.replicate]
  repeat' (first
    | refine aw_seq ?_
    | (refine aw_run [] ?_; try simp -implicitDefEqProofs (maxSteps := 1000000))
    | ((first | refine awl_skip' [] rfl ?_ | refine awl_pure_guard [] rfl rfl rfl (by first | assumption | kernel_rfl) rfl (fun hc => by first | exact hj) (by simp) (by simp) (by simp) ?_ | refine awl_pure' [] rfl rfl rfl (by first | assumption | kernel_rfl) rfl (by first | exact hj) (by simp) (by simp) ?_ | refine aw_skip ?_ | refine aw_exit ?_); try simp -implicitDefEqProofs (maxSteps := 1000000))
    | (refine aw_cond rfl (fun h => ?_) (fun h => ?_) <;> try (with_reducible first | exact ff_tt h | exact tt_ff h))
    | refine aw_block ?_
    | refine aw_ret (ret_of (.inr rfl) (by simp [Try.results107]; rfl) (Fin.of ?_))
    | refine ret_of (.inl rfl) (by simp [Try.results107]; rfl) (Fin.of ?_))
  all_goals (try simp at *)
  all_goals (try simp [tupOf])
  all_goals (repeat' split)
  all_goals omega
end Go.AL
/-! Contracts: lexer's small functions. -/
namespace Go.AL
open Go.Proofs
set_option linter.unusedSimpArgs false
set_option linter.unusedVariables false
/-- One map, or iterator, of the function's own. -/
def oneMp (k : Nat) (es : List (AV × AV)) (n : Nat) : ASt := ⟨fun _ => none, fun b => if b = k then some es else none, fun _ => none, n⟩
theorem le_oneMp {σ : ASt} {k : Nat} {es : List (AV × AV)} {n : Nat} (h : σ.mp k = some es) (hn : σ.next ≤ n) : (oneMp k es n).Le σ where
  bx := fun _ _ e => nomatch e
  sl := fun _ _ e => nomatch e
  mp := fun b cs e => by
    simp only [oneMp] at e
    split at e
    · rename_i hb; subst hb; rw [h]; exact e
    · cases e
  next := hn
@[simp] theorem oneMp_mp (k : Nat) (es : List (AV × AV)) (n b : Nat) : (oneMp k es n).mp b = if b = k then some es else none := rfl
@[simp] theorem oneMp_bx (k : Nat) (es : List (AV × AV)) (n b : Nat) : (oneMp k es n).bx b = none := rfl
@[simp] theorem oneMp_sl (k : Nat) (es : List (AV × AV)) (n b : Nat) : (oneMp k es n).sl b = none := rfl
@[simp] theorem oneMp_next (k : Nat) (es : List (AV × AV)) (n : Nat) : (oneMp k es n).next = n := rfl
abbrev vfn (n : Nat) : AV := .p (.func (.func n) #[] #[])
abbrev vr (c : Int) : AV := .p (.int .i32 c)
def figR (c : Int) : Bool := decide (48 ≤ c) && decide (c ≤ 57)
def letR (c : Int) : Bool := decide (65 ≤ c) && decide (c ≤ 90)
/-- How many of the first bytes are so. -/
def leadL (p : Int → Bool) (s : ByteArray) : Nat := (s.data.toList.takeWhile fun b => p b.toNat).length
def Lead (p : Int → Bool) (s : ByteArray) (i : Nat) : Prop := ∀ j (h : j < s.size), j < i → p ((s[j]'h).toNat : Int) = true
theorem bget (s : ByteArray) (i : Nat) (h : i < s.size) : s.data.toList[i]? = some (s[i]'h) := by
  rw [Array.getElem?_toList]
  exact Array.getElem?_eq_getElem h
theorem lead_stop {p : Int → Bool} {s : ByteArray} {i : Nat} (h : Lead p s i) (hi : i < s.size) (hp : p ((s[i]'hi).toNat : Int) = false) : leadL p s = i := by
  have e : s.data.toList = s.data.toList.take i ++ (s[i]'hi) :: s.data.toList.drop (i + 1) := by
    have h1 := (List.take_append_drop i s.data.toList).symm
    have hl : i < s.data.toList.length := by rw [Array.length_toList]; exact hi
    rw [List.drop_eq_getElem_cons hl] at h1
    have h2 : s.data.toList[i] = s[i]'hi := by
      have := bget s i hi
      rw [List.getElem?_eq_getElem hl] at this
      exact Option.some.inj this
    rwa [h2] at h1
  have ht : ∀ b ∈ s.data.toList.take i, p b.toNat = true := by
    intro b hb
    obtain ⟨j, hj, rfl⟩ := List.getElem_of_mem hb
    have hji : j < i := by rw [List.length_take] at hj; omega
    have hjs : j < s.size := by omega
    have := bget s j hjs
    rw [List.getElem_take]
    have hl : j < s.data.toList.length := by rw [Array.length_toList]; exact hjs
    rw [List.getElem?_eq_getElem hl] at this
    rw [Option.some.inj this]
    exact h j hjs hji
  unfold leadL
  rw [e, List.takeWhile_append_of_pos ht, List.takeWhile_cons_of_neg (by simp [hp]), List.append_nil, List.length_take, Array.length_toList]
  exact Nat.min_eq_left (Nat.le_of_lt hi)
theorem lead_all {p : Int → Bool} {s : ByteArray} (h : Lead p s s.size) : leadL p s = s.size := by
  have ht : ∀ b ∈ s.data.toList, p b.toNat = true := by
    intro b hb
    obtain ⟨j, hj, rfl⟩ := List.getElem_of_mem hb
    have hjs : j < s.size := by rw [Array.length_toList] at hj; exact hj
    have := bget s j hjs
    rw [List.getElem?_eq_getElem hj] at this
    rw [Option.some.inj this]
    exact h j hjs hjs
  unfold leadL
  rw [← List.append_nil s.data.toList, List.takeWhile_append_of_pos ht]
  simp
end Go.AL
/-! Contracts: the library's texts (HasPrefix, TrimLeft by one byte). -/
namespace Go.AL
open Go.Proofs
set_option linter.unusedSimpArgs false
set_option linter.unusedVariables false
theorem bsizeL (a : Array UInt8) : (⟨a⟩ : ByteArray).size = a.size := rfl
def trimL (c : UInt8) (l : List UInt8) : List UInt8 := l.dropWhile fun b => decide (b = c)
theorem bext (x : UInt8) (l : List UInt8) : (⟨⟨x :: l⟩⟩ : ByteArray).extract 1 (l.length + 1) = ⟨⟨l⟩⟩ := by
  rw [show l.length + 1 = (⟨⟨x :: l⟩⟩ : ByteArray).size from rfl]
  apply ByteArray.ext
  simp [ByteArray.data_extract, bsizeL]
theorem u8c {x c : UInt8} : ((x.toNat : Int) = (c.toNat : Int)) ↔ x = c := ⟨fun h => UInt8.toNat_inj.1 (by omega), fun h => by rw [h]⟩
/-- Does a text begin so? -/
def hasPre (s p : ByteArray) : Bool := decide (p.size ≤ s.size) && decide (s.extract 0 p.size = p)
end Go.AL
/-! No contracts of the library here. -/
namespace Go.AL
end Go.AL
/-! Contracts: lexer.number, mark. -/
namespace Go.AL
open Go.Proofs
set_option linter.unusedSimpArgs false
set_option linter.unusedVariables false
abbrev token (k n c r : Int) (t : ByteArray) (f : Int) : AV := .agg [vi k, vi n, vi c, vi r, vs t, vi f]
/-- The leading figures. -/
def leadS (p : Int → Bool) (s : ByteArray) : ByteArray := s.extract 0 (leadL p s)
theorem leadL_le (p : Int → Bool) (s : ByteArray) : leadL p s ≤ s.size := by
  unfold leadL
  have h1 := (List.takeWhile_sublist (l := s.data.toList) (fun b : UInt8 => p b.toNat)).length_le
  rw [Array.length_toList] at h1
  exact h1
theorem figR_hi : ∀ c : Int, 128 ≤ c → figR c = false := fun c h => by simp [figR]; omega
theorem letR_hi : ∀ c : Int, 128 ≤ c → letR c = false := fun c h => by simp [letR]; omega
/-- How long the mark is with which a text begins. -/
def markN : List UInt8 → Nat
  | [] => 0
  | b :: l => if b = 60 then (if hasPre ⟨⟨b :: l⟩⟩ ⟨#[60, 62]⟩ = true ∨ hasPre ⟨⟨l⟩⟩ ⟨#[61]⟩ = true then 2 else 1) else if b = 62 then (if hasPre ⟨⟨l⟩⟩ ⟨#[61]⟩ = true then 2 else 1)
    else if b = 43 ∨ b = 45 ∨ b = 42 ∨ b = 47 ∨ b = 40 ∨ b = 41 ∨ b = 44 ∨ b = 58 ∨ b = 61 then 1 else 0
end Go.AL
/-! Contracts: gridironref01's texts. -/
namespace Go.AL
open Go.Proofs
set_option linter.unusedSimpArgs false
set_option linter.unusedVariables false
set_option maxRecDepth 100000 in
theorem size_ok (a : Int) (h1 : -9223372036854775808 ≤ a) (h2 : a ≤ 9223372036854775807) : APure Try.prog 133 [vi a] (vu a.natAbs) := by
  refine apure_of Try.func133 Try.ntmps133 rfl ?_
  simp only [List.length_cons, List.length_nil, List.cons_append, List.nil_append, List.replicate]
  repeat' (first
    | refine aw_seq ?_
    | (refine aw_run [] ?_; try simp -implicitDefEqProofs (maxSteps := 1000000))
    | ((first | refine awl_skip' [] rfl ?_ | refine aw_skip ?_ | refine aw_exit ?_); try simp -implicitDefEqProofs (maxSteps := 1000000))
    | (refine aw_cond rfl (fun h => ?_) (fun h => ?_) <;> try (with_reducible first | exact ff_tt h | exact tt_ff h))
    | refine aw_block ?_
    | refine aw_ret (ret_of (.inr rfl) (by simp [Try.results133]; rfl) (Fin.of ?_))
    | refine ret_of (.inl rfl) (by simp [Try.results133]; rfl) (Fin.of ?_))
  · simp [tupOf] at h ⊢
    rw [wrap_id (n := a + 1) (by omega) (by omega), wrap_id (by omega) (by omega), uwrap_id (n := -(a + 1)) (by omega) (by omega), uwrap_id (by omega) (by omega)]
    omega
  · simp [tupOf] at h ⊢
    rw [uwrap_id (by omega) (by omega)]
    omega
def dig (d : Nat) : ByteArray := ⟨#[UInt8.ofNat (48 + d)]⟩
def figs (u : Nat) : ByteArray := if u < 10 then dig u else figs (u / 10) ++ dig (u % 10)
theorem figs_size (u : Nat) : (figs u).size ≤ u + 1 := by
  induction u using Nat.strongRecOn with
  | _ u ih =>
    unfold figs
    split
    · simp [dig, ByteArray.size]
    · have := ih (u / 10) (by omega)
      rw [ByteArray.size_append]
      have e : (dig (u % 10)).size = 1 := rfl
      omega
theorem figs_len (u : Nat) (h : u < 18446744073709551616) : (figs u).size ≤ 20 := by
  have key : ∀ (n u : Nat), u < 10 ^ (n + 1) → (figs u).size ≤ n + 1 := by
    intro n
    induction n with
    | zero => intro u hu; unfold figs; rw [if_pos (by omega)]; exact Nat.le_refl _
    | succ n ih =>
      intro u hu
      unfold figs
      split
      · have e : (dig u).size = 1 := rfl
        omega
      · have := ih (u / 10) (by rw [Nat.pow_succ] at hu; omega)
        rw [ByteArray.size_append]
        have e : (dig (u % 10)).size = 1 := rfl
        omega
  exact key 19 u (by omega)
set_option maxRecDepth 100000 in
theorem figures_ok (u : Nat) (h : u < 18446744073709551616) : APure Try.prog 132 [vu u] (vs (figs u)) := by
  induction u using Nat.strongRecOn with
  | _ u ih =>
    have hd : strOf [IntKind.u8.wrap (IntKind.u64.wrap (48 + (u : Int).tmod 10))] = dig (u % 10) := by
      rw [show (u : Int).tmod 10 = ((u % 10 : Nat) : Int) from rfl, uwrap_id (by omega) (by omega), bwrap_id (by omega) (by omega)]
      simp only [strOf, dig, List.map_cons, List.map_nil]
      rw [show (48 + ((u % 10 : Nat) : Int)).toNat = 48 + u % 10 by omega]
    have hq : IntKind.u64.wrap ((u : Int) / 10) = ((u / 10 : Nat) : Int) := by rw [uwrap_id (by omega) (by omega)]; rfl
    have hs : (figs (u / 10)).size + (dig (u % 10)).size ≤ 9223372036854775807 := by
      have := figs_len (u / 10) (by omega)
      have e : (dig (u % 10)).size = 1 := rfl
      omega
    have hf := figs.eq_1 u
    refine apure_of Try.func132 Try.ntmps132 rfl ?_
    simp only [List.length_cons, List.length_nil, List.cons_append, List.nil_append, List.replicate]
    repeat' (first
      | refine aw_seq ?_
      | (refine aw_run [] ?_; try simp -implicitDefEqProofs (maxSteps := 1000000))
      | ((first | refine awl_skip' [] rfl ?_ | refine aw_skip ?_ | refine aw_exit ?_); try simp -implicitDefEqProofs (maxSteps := 1000000))
      | (refine aw_cond rfl (fun h => ?_) (fun h => ?_) <;> try (with_reducible first | exact ff_tt h | exact tt_ff h))
      | refine aw_block ?_
      | refine aw_ret (ret_of (.inr rfl) (by simp [Try.results132]; rfl) (Fin.of ?_))
      | refine ret_of (.inl rfl) (by simp [Try.results132]; rfl) (Fin.of ?_))
    · have h10 : 10 ≤ u := by simp at h; omega
      rw [hd, hq]
      refine awl_pure' [] rfl rfl rfl (by kernel_rfl) rfl (ih (u / 10) (by omega) (by omega)) (by simp) (by simp) ?_
      simp -implicitDefEqProofs [hs]
      repeat' (first
        | refine aw_seq ?_
        | (refine aw_run [] ?_; try simp -implicitDefEqProofs (maxSteps := 1000000))
        | ((first | refine awl_skip' [] rfl ?_ | refine aw_skip ?_ | refine aw_exit ?_); try simp -implicitDefEqProofs (maxSteps := 1000000))
        | (refine aw_cond rfl (fun h => ?_) (fun h => ?_) <;> try (with_reducible first | exact ff_tt h | exact tt_ff h))
        | refine aw_block ?_
        | refine aw_ret (ret_of (.inr rfl) (by simp [Try.results132]; rfl) (Fin.of ?_))
        | refine ret_of (.inl rfl) (by simp [Try.results132]; rfl) (Fin.of ?_))
      rw [hf, if_neg (by omega)]
      rfl
    · have h10 : u < 10 := by simp at h; omega
      rw [hd, hf, if_pos h10, Nat.mod_eq_of_lt h10]
      rfl
/-- A number's text. -/
def textI (a : Int) : ByteArray := if a < 0 then ⟨#[45]⟩ ++ figs a.natAbs else figs a.natAbs
set_option maxRecDepth 100000 in
theorem rtext1_ok (a : Int) (h1 : -9223372036854775808 ≤ a) (h2 : a ≤ 9223372036854775807) : APure Try.prog 97 [vi a] (vs (textI a)) := by
  have hl := figs_len a.natAbs (by omega)
  have hs : (⟨#[45]⟩ : ByteArray).size + (figs a.natAbs).size ≤ 9223372036854775807 := by
    have e : (⟨#[45]⟩ : ByteArray).size = 1 := rfl
    omega
  refine apure_of Try.func97 Try.ntmps97 rfl ?_
  simp only [List.length_cons, List.length_nil, List.cons_append, List.nil_append, List.replicate]
  repeat' (first
    | refine aw_seq ?_
    | (refine aw_run [] ?_; try simp -implicitDefEqProofs (maxSteps := 1000000) [hs])
    | ((first | refine awl_skip' [] rfl ?_ | refine awl_pure_guard [] rfl rfl rfl (by first | assumption | kernel_rfl) rfl (fun hc => by first | exact size_ok a h1 h2 | exact figures_ok a.natAbs (by omega)) (by simp) (by simp) (by simp) ?_ | refine awl_pure' [] rfl rfl rfl (by first | assumption | kernel_rfl) rfl (by first | exact size_ok a h1 h2 | exact figures_ok a.natAbs (by omega)) (by simp) (by simp) ?_ | refine aw_skip ?_ | refine aw_exit ?_); try simp -implicitDefEqProofs (maxSteps := 1000000) [hs])
    | (refine aw_cond rfl (fun h => ?_) (fun h => ?_) <;> try (with_reducible first | exact ff_tt h | exact tt_ff h))
    | refine aw_block ?_
    | refine aw_ret (ret_of (.inr rfl) (by simp [Try.results97]; rfl) (Fin.of ?_))
    | refine ret_of (.inl rfl) (by simp [Try.results97]; rfl) (Fin.of ?_))
  · have : a < 0 := by simpa using h
    simp [tupOf, textI, this]
  · have : ¬ a < 0 := by simpa using h
    simp [tupOf, textI, this]
end Go.AL
/-! Contracts: gridironref02.Text. -/
namespace Go.AL
open Go.Proofs
set_option linter.unusedSimpArgs false
set_option linter.unusedVariables false
def letters : ByteArray := ⟨#[65, 66, 67, 68, 69, 70, 71, 72, 73, 74, 75, 76, 77, 78, 79, 80]⟩
def textP (c r : Int) : ByteArray := if rightP c r = true then letters.extract c.toNat (c.toNat + 1) ++ textI (r + 1) else ⟨#[]⟩
theorem rightP_iff' {c r : Int} : rightP c r = true ↔ 0 ≤ c ∧ c < 16 ∧ 0 ≤ r ∧ r < 64 := by simp [rightP, and_assoc]
set_option maxRecDepth 100000 in
theorem rtext_ok (c r : Int) : APure Try.prog 98 [place c r] (vs (textP c r)) := by
  refine apure_of Try.func98 Try.ntmps98 rfl ?_
  simp only [List.length_cons, List.length_nil, List.cons_append, List.nil_append, List.replicate]
  refine aw_seq (aw_run [] ?_)
  simp -implicitDefEqProofs
  refine aw_seq (aw_run [] ?_)
  simp -implicitDefEqProofs
  refine awl_pure' [] rfl rfl rfl (by kernel_rfl) rfl (rright_ok c r) (by simp) (by simp) ?_
  simp -implicitDefEqProofs
  refine aw_seq (aw_seq (aw_run [] ?_))
  simp -implicitDefEqProofs
  refine aw_cond rfl (fun h => ?_) (fun h => aw_skip ?_)
  · repeat' (first
      | refine aw_seq ?_
      | ((first | refine aw_run [] ?_ | refine aw_ymix [] draws (by decide +kernel) ?_); try simp -implicitDefEqProofs (maxSteps := 1000000))
      | ((first | refine aw_zrun [] [] draws (by decide +kernel) (by decide +kernel) ?_ | refine zl_skip (by simp) rfl ?_); try simp -implicitDefEqProofs (maxSteps := 1000000); repeat first | refine zcurL (by decide +kernel) ?_ | refine zcurH (by decide +kernel) ?_ | refine zcurL' (by decide +kernel) ?_ | refine zcurH' (by decide +kernel) ?_)
      | ((first | refine aw_yrun draws (by kernel_rfl) ?_ | refine awl_skip' [] rfl ?_ | refine yl_skip rfl ?_ | refine aw_skip ?_ | refine aw_exit ?_); try simp -implicitDefEqProofs (maxSteps := 1000000))
      | (refine aw_cond rfl (fun h => ?_) (fun h => ?_) <;> try (with_reducible first | exact ff_tt h | exact tt_ff h))
      | refine aw_block ?_
      | refine aw_ret (ret_of (.inr rfl) (by simp [Try.results98]; rfl) (Fin.of ?_))
      | refine ret_of (.inl rfl) (by simp [Try.results98]; rfl) (Fin.of ?_))
    have : rightP c r = false := by simpa using h
    simp [tupOf, textP, this]
  · have hR : rightP c r = true := by simpa using h
    have hb := rightP_iff'.1 hR
    obtain ⟨k, rfl⟩ := Int.eq_ofNat_of_zero_le hb.1
    have h1 : IntKind.i64.wrap ((k : Int) + 1) = ((k + 1 : Nat) : Int) := by rw [wrap_id (by omega) (by omega)]; rfl
    have h2 : IntKind.i64.wrap (r + 1) = r + 1 := wrap_id (by omega) (by omega)
    have hk : k ≤ k + 1 ∧ k + 1 ≤ (⟨#[65, 66, 67, 68, 69, 70, 71, 72, 73, 74, 75, 76, 77, 78, 79, 80]⟩ : ByteArray).size := ⟨by omega, by
      have e : (⟨#[65, 66, 67, 68, 69, 70, 71, 72, 73, 74, 75, 76, 77, 78, 79, 80]⟩ : ByteArray).size = 16 := rfl
      omega⟩
    have hn : 0 ≤ (k : Int) + 1 := by omega
    have hs : (letters.extract k (k + 1)).size + (textI (r + 1)).size ≤ 9223372036854775807 := by
      have e1 : (textI (r + 1)).size ≤ 20 := by
        unfold textI
        rw [if_neg (by omega)]
        exact figs_len _ (by omega)
      have e2 : (letters.extract k (k + 1)).size ≤ 16 := by
        rw [ByteArray.size_extract]
        have e : letters.size = 16 := rfl
        omega
      omega
    unfold letters at hs
    rw [ByteArray.size_extract] at hs
    simp -implicitDefEqProofs
    refine aw_seq (aw_yrun draws (by kernel_rfl) ?_)
    simp -implicitDefEqProofs [h1, h2, hk, hn]
    refine yl_pure rfl rfl rfl (by kernel_rfl) rfl (rtext1_ok (r + 1) (by omega) (by omega)) (by simp) (by simp) ?_
    simp -implicitDefEqProofs [hs]
    repeat' (first
      | refine aw_seq ?_
      | ((first | refine aw_run [] ?_ | refine aw_ymix [] draws (by decide +kernel) ?_); try simp -implicitDefEqProofs (maxSteps := 1000000))
      | ((first | refine aw_zrun [] [] draws (by decide +kernel) (by decide +kernel) ?_ | refine zl_skip (by simp) rfl ?_); try simp -implicitDefEqProofs (maxSteps := 1000000); repeat first | refine zcurL (by decide +kernel) ?_ | refine zcurH (by decide +kernel) ?_ | refine zcurL' (by decide +kernel) ?_ | refine zcurH' (by decide +kernel) ?_)
      | ((first | refine aw_yrun draws (by kernel_rfl) ?_ | refine awl_skip' [] rfl ?_ | refine yl_skip rfl ?_ | refine aw_skip ?_ | refine aw_exit ?_); try simp -implicitDefEqProofs (maxSteps := 1000000))
      | (refine aw_cond rfl (fun h => ?_) (fun h => ?_) <;> try (with_reducible first | exact ff_tt h | exact tt_ff h))
      | refine aw_block ?_
      | refine aw_ret (ret_of (.inr rfl) (by simp [Try.results98]; rfl) (Fin.of ?_))
      | refine ret_of (.inl rfl) (by simp [Try.results98]; rfl) (Fin.of ?_))
    simp [tupOf, textP, hR, letters]
end Go.AL
/-! Contracts: the form of a place's text, by gridironref02. -/
namespace Go.AL
open Go.Proofs
set_option linter.unusedSimpArgs false
set_option linter.unusedVariables false
def digitB (b : UInt8) : Bool := decide (48 ≤ (b.toNat : Int)) && decide ((b.toNat : Int) ≤ 57)
def formedL : List UInt8 → Bool
  | a :: b :: t => decide (t.length ≤ 2) && decide (65 ≤ (a.toNat : Int)) && decide ((a.toNat : Int) ≤ 90) && !decide ((b.toNat : Int) = 48) && (b :: t).all digitB
  | _ => false
def formedP (s : ByteArray) : Bool := formedL s.data.toList
theorem bsize_mk (a : Array UInt8) : (⟨a⟩ : ByteArray).size = a.size := rfl
set_option maxRecDepth 100000 in
theorem rformed_ok (s : ByteArray) (hsz : s.size ≤ 9223372036854775807) : APure Try.prog 159 [vs s] (vb (formedP s)) := by
  obtain ⟨⟨l⟩⟩ := s
  unfold formedP
  match l, hsz with
  | [], _ =>
    refine apure_of Try.func159 Try.ntmps159 rfl ?_
    simp only [List.length_cons, List.length_nil, List.cons_append, List.nil_append, List.replicate]
    repeat' (first
      | refine aw_seq ?_
      | (refine aw_run [] ?_; try simp -implicitDefEqProofs (maxSteps := 1000000) [bsize_mk])
      | ((first | refine awl_skip' [] rfl ?_ | refine aw_skip ?_ | refine aw_exit ?_); try simp -implicitDefEqProofs (maxSteps := 1000000) [bsize_mk])
      | (refine aw_cond rfl (fun h => ?_) (fun h => ?_) <;> try (with_reducible first | exact ff_tt h | exact tt_ff h))
      | refine aw_block ?_
      | refine aw_ret (ret_of (.inr rfl) (by simp [Try.results159]; rfl) (Fin.of ?_))
      | refine ret_of (.inl rfl) (by simp [Try.results159]; rfl) (Fin.of ?_))
    all_goals first | (cases h; done) | simp [tupOf, formedL]
  | [a], _ =>
    refine apure_of Try.func159 Try.ntmps159 rfl ?_
    simp only [List.length_cons, List.length_nil, List.cons_append, List.nil_append, List.replicate]
    repeat' (first
      | refine aw_seq ?_
      | (refine aw_run [] ?_; try simp -implicitDefEqProofs (maxSteps := 1000000) [bsize_mk])
      | ((first | refine awl_skip' [] rfl ?_ | refine aw_skip ?_ | refine aw_exit ?_); try simp -implicitDefEqProofs (maxSteps := 1000000) [bsize_mk])
      | (refine aw_cond rfl (fun h => ?_) (fun h => ?_) <;> try (with_reducible first | exact ff_tt h | exact tt_ff h))
      | refine aw_block ?_
      | refine aw_ret (ret_of (.inr rfl) (by simp [Try.results159]; rfl) (Fin.of ?_))
      | refine ret_of (.inl rfl) (by simp [Try.results159]; rfl) (Fin.of ?_))
    all_goals first | (cases h; done) | simp [tupOf, formedL]
  | a :: b :: t, hsz =>
    simp [bsize_mk] at hsz
    refine apure_of Try.func159 Try.ntmps159 rfl ?_
    simp only [List.length_cons, List.length_nil, List.cons_append, List.nil_append, List.replicate]
    refine aw_seq (aw_run [] ?_)
    simp -implicitDefEqProofs
    refine aw_seq (aw_seq (aw_run [] ?_))
    simp -implicitDefEqProofs [bsize_mk]
    refine aw_cond rfl (fun h => ?_) (fun h => aw_skip ?_)
    · repeat' (first
        | refine aw_seq ?_
        | (refine aw_run [] ?_; try simp -implicitDefEqProofs (maxSteps := 1000000) [bsize_mk])
        | ((first | refine awl_skip' [] rfl ?_ | refine aw_skip ?_ | refine aw_exit ?_); try simp -implicitDefEqProofs (maxSteps := 1000000) [bsize_mk])
        | (refine aw_cond rfl (fun h => ?_) (fun h => ?_) <;> try (with_reducible first | exact ff_tt h | exact tt_ff h))
        | refine aw_block ?_
        | refine aw_ret (ret_of (.inr rfl) (by simp [Try.results159]; rfl) (Fin.of ?_))
        | refine ret_of (.inl rfl) (by simp [Try.results159]; rfl) (Fin.of ?_))
      simp [tupOf, formedL] at h ⊢
      intro h1 h2 h3 h4
      omega
    · simp at h
      simp -implicitDefEqProofs [bsize_mk]
      refine aw_seq (aw_seq (aw_run [] ?_))
      simp -implicitDefEqProofs [bsize_mk]
      refine aw_block (aw_loopK [0, 2, 3] (fun n fr σ => σ = σ0 ∧ ∃ i : Nat, i + n = t.length + 2 ∧ 1 ≤ i ∧ ((b :: t).take (i - 1)).all digitB = true ∧ fr = frm 43 [(0, vs ⟨⟨a :: b :: t⟩⟩), (2, vb false), (3, vi (i : Nat))]) (t.length + 1) ?_ ?_)
      · refine ⟨rfl, 1, by omega, by omega, by simp, by simp⟩
      · rintro n fr σ ⟨rfl, i, hi, h1, hall, rfl⟩
        simp
        refine aw_seq (aw_seq (aw_run [] ?_))
        simp -implicitDefEqProofs [bsize_mk]
        refine aw_cond rfl (fun h => aw_skip ?_) (fun h => aw_exit ?_)
        · have hlt : i < t.length + 2 := by simp at h; omega
          obtain ⟨x, hx⟩ : ∃ x, (a :: b :: t)[i]? = some x := ⟨(a :: b :: t)[i], by simp [hlt]⟩
          have hx1 : (b :: t)[i - 1]? = some x := by
            rw [show i = (i - 1) + 1 by omega, List.getElem?_cons_succ] at hx
            exact hx
          have hnx : IntKind.i64.wrap ((i : Int) + 1) = ((i + 1 : Nat) : Int) := by rw [wrap_id (by omega) (by omega)]; simp
          simp -implicitDefEqProofs
          refine aw_seq (aw_block (aw_seq (aw_run [] ?_)))
          simp -implicitDefEqProofs [hx]
          refine aw_cond rfl (fun h2 => ?_) (fun h2 => aw_skip ?_)
          · repeat' (first
              | refine aw_seq ?_
              | (refine aw_run [] ?_; try simp -implicitDefEqProofs (maxSteps := 1000000))
              | ((first | refine awl_skip' [] rfl ?_ | refine aw_skip ?_ | refine aw_exit ?_); try simp -implicitDefEqProofs (maxSteps := 1000000))
              | (refine aw_cond rfl (fun h => ?_) (fun h => ?_) <;> try (with_reducible first | exact ff_tt h | exact tt_ff h))
              | refine aw_block ?_
              | refine aw_ret (ret_of (.inr rfl) (by simp [Try.results159]; rfl) (Fin.of ?_))
              | refine ret_of (.inl rfl) (by simp [Try.results159]; rfl) (Fin.of ?_))
            simp [tupOf] at h2 ⊢
            have hm : x ∈ b :: t := List.mem_of_getElem? hx1
            cases hq : formedL (a :: b :: t) with
            | false => rfl
            | true =>
              simp only [formedL, Bool.and_eq_true, List.all_eq_true] at hq
              have := hq.2 x hm
              simp [digitB] at this
              omega
          · simp -implicitDefEqProofs
            refine aw_run [] ?_
            simp -implicitDefEqProofs
            refine ⟨n - 1, by omega, i + 1, by omega, by omega, ?_, by simp [hnx]⟩
            have he : (b :: t).take (i + 1 - 1) = (b :: t).take (i - 1) ++ [x] := by
              rw [show i + 1 - 1 = (i - 1) + 1 by omega, List.take_add_one, hx1]; rfl
            intro y hy
            rw [he, List.mem_append] at hy
            rcases hy with hy | hy
            · exact List.all_eq_true.1 hall y hy
            · obtain rfl : y = x := by simpa using hy
              simp [digitB] at h2 ⊢
              omega
        · have hi2 : i = t.length + 2 := by simp at h; omega
          simp -implicitDefEqProofs
          repeat' (first
            | refine aw_seq ?_
            | (refine aw_run [] ?_; try simp -implicitDefEqProofs (maxSteps := 1000000))
            | ((first | refine awl_skip' [] rfl ?_ | refine aw_skip ?_ | refine aw_exit ?_); try simp -implicitDefEqProofs (maxSteps := 1000000))
            | (refine aw_cond rfl (fun h => ?_) (fun h => ?_) <;> try (with_reducible first | exact ff_tt h | exact tt_ff h))
            | refine aw_block ?_
            | refine aw_ret (ret_of (.inr rfl) (by simp [Try.results159]; rfl) (Fin.of ?_))
            | refine ret_of (.inl rfl) (by simp [Try.results159]; rfl) (Fin.of ?_))
          have hl : (b :: t).take (i - 1) = b :: t := List.take_of_length_le (by simp; omega)
          rw [hl] at hall
          rename_i h9 _
          have : formedL (a :: b :: t) = true := by
            simp only [formedL, hall, Bool.and_true]
            simp
            omega
          simp [tupOf, this]
end Go.AL
/-! Contracts: gridironref02.Parse. -/
namespace Go.AL
open Go.Proofs
set_option linter.unusedSimpArgs false
set_option linter.unusedVariables false
def isText (s : ByteArray) (i : Nat) : Bool := decide (textP (atC (i : Int)) (atR (i : Int)) = s)
/-- The first place with this text. -/
def findT (s : ByteArray) : Option Nat := (List.range 1024).find? (isText s)
def parseI (s : ByteArray) : Nat := (findT s).getD 0
def parseB (s : ByteArray) : Bool := formedP s && (findT s).isSome
def parseE (s : ByteArray) : Int := if formedP s = true then (if (findT s).isSome = true then 0 else 4) else 2
set_option maxRecDepth 100000 in
theorem rparse_ok (s : ByteArray) (hsz : s.size ≤ 9223372036854775807) : APure Try.prog 127 [vs s] (.tup [place (z (parseB s) (atC (parseI s))) (z (parseB s) (atR (parseI s))), vi (parseE s)]) := by
  refine apure_of Try.func127 Try.ntmps127 rfl ?_
  simp only [List.length_cons, List.length_nil, List.cons_append, List.nil_append, List.replicate]
  repeat' (first
    | refine aw_seq ?_
    | (refine aw_run [2, 6] ?_; try simp -implicitDefEqProofs (maxSteps := 1000000))
    | ((first | refine awl_skip' [2, 6] rfl ?_ | refine awl_pure_guard [2, 6] rfl rfl rfl (by first | assumption | kernel_rfl) rfl (fun hc => by first | exact rformed_ok s hsz) (by simp) (by simp) (by simp) ?_ | refine awl_pure' [2, 6] rfl rfl rfl (by first | assumption | kernel_rfl) rfl (by first | exact rformed_ok s hsz) (by simp) (by simp) ?_ | refine aw_skip ?_ | refine aw_exit ?_); try simp -implicitDefEqProofs (maxSteps := 1000000))
    | (refine aw_cond rfl (fun h => ?_) (fun h => ?_) <;> try (with_reducible first | exact ff_tt h | exact tt_ff h))
    | refine aw_block ?_
    | refine aw_ret (ret_of (.inr rfl) (by simp [Try.results127]; rfl) (Fin.of ?_))
    | refine ret_of (.inl rfl) (by simp [Try.results127]; rfl) (Fin.of ?_))
  · have hf : formedP s = false := by simpa using h
    simp [tupOf, parseB, parseE, hf]
  · have hf : formedP s = true := by simpa using h
    refine aw_loopW [0, 2, 5] (fun n fr σ => ∃ i m : Nat, i + n = 1024 ∧ 1 ≤ m ∧ (∀ j, j < i → isText s j = false) ∧ σ = mkSt [(0, [vi 0, vi 0])] [] m ∧ fr = frm 30 [(0, vs s), (2, .ptr 0 0), (5, vi (i : Nat))]) 1024 ?_ ?_
    · refine ⟨mkSt [(0, [vi 0, vi 0])] [] 1, le_mkSt (by simp [σ0]) (by simp) (by simp [σ0]), 0, 1, by omega, by omega, by omega, rfl, ?_⟩
      simp [σ0]
    · rintro n fr σ ⟨i, m, hi, hm, hno, rfl, rfl⟩
      simp
      have hm0 : ¬ 0 = m := by omega
      refine aw_seq (aw_seq (aw_run [2, 6] ?_))
      simp -implicitDefEqProofs
      refine aw_cond rfl (fun h => aw_skip ?_) (fun h => aw_exit ?_)
      · have hlt : i < 1024 := by simp at h; omega
        have hnx : IntKind.i64.wrap ((i : Int) + 1) = ((i + 1 : Nat) : Int) := by rw [wrap_id (by omega) (by omega)]; simp
        simp -implicitDefEqProofs
        repeat' (first
          | refine aw_seq ?_
          | (refine aw_run [2, 6] ?_; try simp -implicitDefEqProofs (maxSteps := 1000000) [List.lookup, hm0])
          | ((first | refine awl_skip' [2, 6] rfl ?_ | refine awl_pure_guard [2, 6] rfl rfl rfl (by first | assumption | kernel_rfl) rfl (fun hc => by first | exact rat_ok _ | exact rtext_ok _ _) (by simp) (by simp) (by simp) ?_ | refine awl_pure' [2, 6] rfl rfl rfl (by first | assumption | kernel_rfl) rfl (by first | exact rat_ok _ | exact rtext_ok _ _) (by simp) (by simp) ?_ | refine aw_skip ?_ | refine aw_exit ?_); try simp -implicitDefEqProofs (maxSteps := 1000000) [List.lookup, hm0])
          | (refine aw_cond rfl (fun h => ?_) (fun h => ?_) <;> try (with_reducible first | exact ff_tt h | exact tt_ff h))
          | refine aw_block ?_
          | refine aw_ret (ret_of (.inr rfl) (by simp [Try.results127]; rfl) (Fin.of ?_))
          | refine ret_of (.inl rfl) (by simp [Try.results127]; rfl) (Fin.of ?_))
        · have hi1 : isText s i = true := h
          have hfd : findT s = some i := by
            unfold findT
            rw [List.find?_range_eq_some]
            exact ⟨hi1, by simp [hlt], fun j hj => by simp [hno j hj]⟩
          simp [tupOf, parseB, parseE, parseI, hf, hfd]
        · refine ⟨n - 1, by omega, mkSt [(0, [vi 0, vi 0])] [] (m + 1), le_mkSt (by simp [List.lookup, hm0]) (by simp) (by simp), i + 1, by omega, m + 1, by omega, ?_, rfl, by simp [hnx]⟩
          intro j hj
          by_cases hji : j < i
          · exact hno j hji
          · obtain rfl : j = i := by omega
            exact h
      · simp -implicitDefEqProofs
        repeat' (first
          | refine aw_seq ?_
          | (refine aw_run [2, 6] ?_; try simp -implicitDefEqProofs (maxSteps := 1000000) [List.lookup])
          | ((first | refine awl_skip' [2, 6] rfl ?_ | refine aw_skip ?_ | refine aw_exit ?_); try simp -implicitDefEqProofs (maxSteps := 1000000) [List.lookup])
          | (refine aw_cond rfl (fun h => ?_) (fun h => ?_) <;> try (with_reducible first | exact ff_tt h | exact tt_ff h))
          | refine aw_block ?_
          | refine aw_ret (ret_of (.inr rfl) (by simp [Try.results127]; rfl) (Fin.of ?_))
          | refine ret_of (.inl rfl) (by simp [Try.results127]; rfl) (Fin.of ?_))
        have hfd : findT s = none := by
          unfold findT
          rw [List.find?_range_eq_none]
          intro j hj
          have : j < i := by simp at h; omega
          simp [hno j this]
        simp [tupOf, parseB, parseE, parseI, hf, hfd]
end Go.AL
/-! Contracts: place.formed. -/
namespace Go.AL
open Go.Proofs
set_option linter.unusedSimpArgs false
set_option linter.unusedVariables false
end Go.AL
/-! Contracts: place.Text, place.Parse. -/
namespace Go.AL
open Go.Proofs
set_option linter.unusedSimpArgs false
set_option linter.unusedVariables false
def textQ (c r : Int) : ByteArray := if rightP c r = true then strOf [65 + c] ++ ⟨(Lib.itoa (r + 1)).toArray⟩ else ⟨#[]⟩
theorem letters_at : ∀ c : Nat, c < 16 → letters.extract c (c + 1) = strOf [65 + (c : Int)] := by decide
theorem figs_itoa : ∀ n : Nat, n < 65 → figs n = ⟨(Lib.itoa (n : Int)).toArray⟩ := by
  have h1 : ∀ n : Nat, n < 10 → dig n = ⟨(Lib.itoa (n : Int)).toArray⟩ := by decide +kernel
  have h2 : ∀ a : Nat, a < 7 → ∀ b : Nat, b < 10 → 0 < a → dig a ++ dig b = ⟨(Lib.itoa ((a * 10 + b : Nat) : Int)).toArray⟩ := by decide +kernel
  intro n hn
  by_cases h : n < 10
  · unfold figs; rw [if_pos h]; exact h1 n h
  · have e := h2 (n / 10) (by omega) (n % 10) (by omega) (by omega)
    rw [show n / 10 * 10 + n % 10 = n by omega] at e
    rw [← e, figs, if_neg h, figs, if_pos (by omega)]
theorem textQ_eq (c r : Int) : textQ c r = textP c r := by
  unfold textQ textP
  split
  · rename_i h
    obtain ⟨c0, c1, r0, r1⟩ := rightP_iff'.1 h
    obtain ⟨k, rfl⟩ := Int.eq_ofNat_of_zero_le c0
    obtain ⟨m, rfl⟩ := Int.eq_ofNat_of_zero_le r0
    rw [show ((k : Int)).toNat = k from rfl, letters_at k (by omega), show (m : Int) + 1 = ((m + 1 : Nat) : Int) by omega, ← figs_itoa (m + 1) (by omega), textI, if_neg (by omega)]
    rfl
  · rfl
end Go.AL
namespace Go.Proofs.Ytadahjmamgidnaa.Dec
open Go.Lib

/-- Is a byte a figure? -/
def fig (c : UInt8) : Bool := decide (48 ≤ c.toNat ∧ c.toNat ≤ 57)
theorem of_fig {c : UInt8} (h : fig c = true) : 48 ≤ c.toNat ∧ c.toNat ≤ 57 := by unfold fig at h; simpa using h
/-- What figures come to. -/
def fv : List UInt8 → Nat → Nat
  | [], acc => acc
  | c :: r, acc => fv r (acc * 10 + (c.toNat - 48))
def fval (acc : Nat) (l : List UInt8) : Nat := fv l acc
theorem fval_nil (acc : Nat) : fval acc [] = acc := rfl
theorem fval_cons (acc : Nat) (c : UInt8) (r : List UInt8) : fval acc (c :: r) = fval (acc * 10 + (c.toNat - 48)) r := by unfold fval; rw [fv]
theorem fval_append (acc : Nat) (l m : List UInt8) : fval acc (l ++ m) = fval (fval acc l) m := by
  induction l generalizing acc with
  | nil => rfl
  | cons c r ih => rw [List.cons_append, fval_cons, fval_cons]; exact ih _
theorem fval_ge (acc : Nat) (l : List UInt8) : acc ≤ fval acc l := by
  induction l generalizing acc with
  | nil => exact Nat.le_refl _
  | cons c r ih => rw [fval_cons]; exact Nat.le_trans (by omega) (ih _)
theorem fval_lt (acc : Nat) (l : List UInt8) (h : l.all fig = true) : fval acc l < (acc + 1) * 10 ^ l.length := by
  induction l generalizing acc with
  | nil => rw [List.length_nil, Nat.pow_zero, Nat.mul_one]; exact Nat.lt_succ_self _
  | cons c r ih =>
    simp only [List.all_cons, Bool.and_eq_true] at h
    have hc : 48 ≤ c.toNat ∧ c.toNat ≤ 57 := of_fig h.1
    have ihh := ih (acc * 10 + (c.toNat - 48)) h.2
    clear ih
    rw [List.length_cons, Nat.pow_succ]
    rw [fval_cons]
    generalize 10 ^ r.length = p at *
    have h2 : (acc * 10 + (c.toNat - 48) + 1) * p ≤ ((acc + 1) * 10) * p := Nat.mul_le_mul_right _ (by omega)
    have e : (acc + 1) * (p * 10) = ((acc + 1) * 10) * p := by rw [Nat.mul_comm p 10, Nat.mul_assoc]
    rw [e]
    exact Nat.lt_of_lt_of_le ihh h2
theorem u8_of (n : Nat) (h : n < 256) : (UInt8.ofNat n).toNat = n := by simp [UInt8.toNat_ofNat', Nat.mod_eq_of_lt h]
theorem u8_eq {c : UInt8} {n : Nat} (h : n < 256) (e : c.toNat = n) : UInt8.ofNat n = c := by
  apply UInt8.toNat_inj.1
  rw [u8_of n h, e]
/-- The numeral's figures: each is one, and they come to the number. -/
theorem dec_all (u : Nat) : (decDigits u).all fig = true := by
  induction u using Nat.strongRecOn with
  | _ u ih =>
    rw [decDigits]
    split
    · rename_i h
      simp only [List.all_cons, List.all_nil, Bool.and_true, fig, decide_eq_true_eq]
      rw [u8_of _ (by omega)]; omega
    · rename_i h
      rw [List.all_append, ih (u / 10) (by omega)]
      simp only [List.all_cons, List.all_nil, Bool.and_true, Bool.true_and, fig, decide_eq_true_eq]
      rw [u8_of _ (by omega)]; omega
theorem dec_val (u : Nat) : fval 0 (decDigits u) = u := by
  induction u using Nat.strongRecOn with
  | _ u ih =>
    rw [decDigits]
    split
    · rename_i h
      have e := u8_of (48 + u) (by omega)
      rw [fval_cons, fval_nil]
      omega
    · rename_i h
      have e := u8_of (48 + u % 10) (by omega)
      rw [fval_append, ih (u / 10) (by omega)]
      rw [fval_cons, fval_nil]
      omega
theorem dec_ne (u : Nat) : decDigits u ≠ [] := by
  rw [decDigits]; split <;> simp
theorem dec_len (k u : Nat) (h : u < 10 ^ (k + 1)) : (decDigits u).length ≤ k + 1 := by
  induction k generalizing u with
  | zero => rw [decDigits, dif_pos (by simpa using h)]; simp
  | succ k ih =>
    rw [decDigits]
    split
    · simp
    · have := ih (u / 10) (by rw [Nat.pow_succ] at h; omega)
      simp; omega
/-- The first figure is 0 of 0 alone. -/
theorem dec_head (u : Nat) (h : 0 < u) : ∀ c, (decDigits u).head? = some c → 49 ≤ c.toNat := by
  induction u using Nat.strongRecOn with
  | _ u ih =>
    intro c
    rw [decDigits]
    split
    · intro hc
      simp only [List.head?_cons, Option.some.injEq] at hc
      rw [← hc, u8_of _ (by omega)]; omega
    · rename_i h2
      intro hc
      have e : (decDigits (u / 10) ++ [UInt8.ofNat (48 + u % 10)]).head? = (decDigits (u / 10)).head? := by
        cases hd : decDigits (u / 10) with
        | nil => exact absurd hd (dec_ne _)
        | cons x r => rfl
      rw [e] at hc
      exact ih (u / 10) (by omega) (by omega) c hc
/-- Figures without needless noughts are their number's numeral. -/
theorem dec_canon : ∀ (n : Nat) (d : List UInt8), d.length = n → d ≠ [] → d.all fig = true → (∀ c, d.head? = some c → c.toNat = 48 → d.length = 1) → decDigits (fval 0 d) = d := by
  intro n
  induction n with
  | zero => intro d hn h0; exact absurd (List.eq_nil_of_length_eq_zero hn) h0
  | succ n ih =>
    intro d hn h0 ha hh
    obtain ⟨i, c, rfl⟩ : ∃ i c, d = i ++ [c] := ⟨d.dropLast, d.getLast h0, (List.dropLast_concat_getLast h0).symm⟩
    rw [List.all_append, Bool.and_eq_true] at ha
    have hc : 48 ≤ c.toNat ∧ c.toNat ≤ 57 := by have := ha.2; simpa [fig] using this
    cases i with
    | nil =>
      rw [List.nil_append, fval_cons, fval_nil, Nat.zero_mul, Nat.zero_add, decDigits, dif_pos (by omega), u8_eq (c := c) (by omega) (by omega)]
    | cons x r =>
      have hx : 48 ≤ x.toNat ∧ x.toNat ≤ 57 := by have := ha.1; simp only [List.all_cons, Bool.and_eq_true] at this; exact of_fig this.1
      have hx0 : x.toNat ≠ 48 := fun e => by have := hh x rfl e; simp at this
      have e := ih (x :: r) (by simp at hn ⊢; omega) (by simp) ha.1 (fun c' h1 h2 => by simp at h1; subst h1; exact absurd h2 hx0)
      have hp : 1 ≤ fval 0 (x :: r) := by rw [fval_cons]; exact Nat.le_trans (by omega) (fval_ge (0 * 10 + (x.toNat - 48)) r)
      rw [fval_append, fval_cons, fval_nil]
      generalize fval 0 (x :: r) = v at *
      rw [decDigits, dif_neg (by omega), show (v * 10 + (c.toNat - 48)) / 10 = v from by omega, e, u8_eq (c := c) (by omega) (by omega)]
/-- Atoi's own reading of figures. -/
theorem parse_figs (l : List UInt8) : ∀ acc, l.all fig = true → fval acc l < 18446744073709551616 → parseUint10 acc l = .ok (fval acc l) := by
  induction l with
  | nil => intro acc _ _; rfl
  | cons c r ih =>
    intro acc ha hv
    simp only [List.all_cons, Bool.and_eq_true] at ha
    have hc : 48 ≤ c.toNat ∧ c.toNat ≤ 57 := of_fig ha.1
    rw [fval_cons] at hv ⊢
    have := fval_ge (acc * 10 + (c.toNat - 48)) r
    simp only [parseUint10]
    rw [if_pos hc, if_neg (by omega), if_neg (by omega)]
    exact ih _ ha.2 hv
theorem fig_head {l : List UInt8} (h : l.all fig = true) {c : UInt8} (hc : l.head? = some c) : 48 ≤ c.toNat ∧ c.toNat ≤ 57 := by
  cases l with
  | nil => simp at hc
  | cons x r => simp at hc; subst hc; simp only [List.all_cons, Bool.and_eq_true] at h; exact of_fig h.1
theorem mag_figs {l : List UInt8} (h0 : l ≠ []) (ha : l.all fig = true) (hv : fval 0 l < 18446744073709551616) : parseMag l = .ok (fval 0 l) := by
  unfold parseMag
  rw [if_neg h0, parse_figs l 0 ha hv]
theorem atoi_plain {l : List UInt8} (h0 : l ≠ []) (ha : l.all fig = true) (hv : fval 0 l < 18446744073709551616) :
    atoiAll l = if 9223372036854775808 ≤ fval 0 l then .range else .ok (fval 0 l) := by
  have hm := mag_figs h0 ha hv
  cases l with
  | nil => exact absurd rfl h0
  | cons c r =>
    have hc := fig_head ha (c := c) rfl
    simp only [atoiAll]
    rw [if_neg (by omega), hm]
    have : ¬ c.toNat = 45 := by omega
    simp only [this, not_false_eq_true, true_and, false_and, if_false]
theorem atoi_minus {l : List UInt8} (h0 : l ≠ []) (ha : l.all fig = true) (hv : fval 0 l < 18446744073709551616) :
    atoiAll (45 :: l) = if 9223372036854775808 < fval 0 l then .range else .ok (-(fval 0 l : Int)) := by
  have hm := mag_figs h0 ha hv
  simp only [atoiAll]
  rw [if_pos (Or.inr (by decide)), hm]
  have : (45 : UInt8).toNat = 45 := by decide
  simp only [this, not_true_eq_false, false_and, if_false, true_and, if_true]
theorem atoi_itoa (v : Int) (h0 : -9223372036854775808 ≤ v) (h1 : v ≤ 9223372036854775807) : atoiAll (itoa v) = .ok v := by
  unfold itoa
  split
  · rw [atoi_minus (dec_ne _) (dec_all _) (by rw [dec_val]; omega), dec_val, if_neg (by omega)]
    congr 1; omega
  · rw [atoi_plain (dec_ne _) (dec_all _) (by rw [dec_val]; omega), dec_val, if_neg (by omega)]
    congr 1; omega
end Go.Proofs.Ytadahjmamgidnaa.Dec
