import Derived.Test.YtadepmefdanenaaDoorK02c
import Derived.Test.YtadepmefdanenaaDoorA17
/-! Contracts: gridironref02's lists. -/
namespace Go.AL
open Go.Proofs
set_option linter.unusedSimpArgs false
set_option linter.unusedVariables false
def pl (p : Int × Int) : AV := place p.1 p.2
/-- The places of the first n indexes that a range has. -/
def cellsN (a b c d : Int) (n : Nat) : List (Int × Int) := ((List.range n).filter fun i : Nat => hasP a b c d (atC (i : Int)) (atR (i : Int))).map fun i : Nat => (atC (i : Int), atR (i : Int))
theorem cellsN_succ (a b c d : Int) (n : Nat) : cellsN a b c d (n + 1) = cellsN a b c d n ++ (if hasP a b c d (atC n) (atR n) = true then [(atC n, atR n)] else []) := by
  unfold cellsN
  rw [List.range_succ, List.filter_append, List.map_append]
  congr 1
  by_cases h : hasP a b c d (atC n) (atR n) = true <;> simp [h]
theorem cellsN_len (a b c d : Int) (n : Nat) : (cellsN a b c d n).length ≤ n := by
  unfold cellsN
  rw [List.length_map]
  exact Nat.le_trans (List.length_filter_le _ _) (by simp)
def cellsL (a b c d : Int) : List (Int × Int) := cellsN a b c d 1024
set_option maxRecDepth 100000 in
theorem rcells_ok (a b c d : Int) : APure Tryd.prog 31 [range a b c d] (.vsl ((cellsL a b c d).map pl)) := by
  refine apure_of Tryd.func31 Tryd.ntmps31 rfl ?_
  simp only [List.length_cons, List.length_nil, List.cons_append, List.nil_append, List.replicate]
  refine aw_seq (aw_run [5] ?_)
  simp -implicitDefEqProofs
  refine aw_seq (aw_run [5] ?_)
  simp -implicitDefEqProofs
  refine aw_seq (aw_seq (aw_run [5] ?_))
  simp -implicitDefEqProofs
  refine aw_block (aw_open (i := 3) rfl ?_)
  refine aw_loopW [1, 3, 4] (fun n fr σ => ∃ k m i, i + n = 1024 ∧ k < m ∧ σ = oneSl k ((cellsN a b c d i).map pl) m ∧ fr = frm 26 [(1, .vel [range a b c d] 0 0), (3, .hsl k 0 (cellsN a b c d i).length), (4, vi (i : Nat))]) 1024 ?_ ?_
  · refine ⟨oneSl 0 [] 1, le_oneSl rfl (by decide), 0, 1, 0, rfl, by decide, by simp [cellsN], ?_⟩
    simp [cellsN, σ0]
  · rintro n fr σ ⟨k, m, i, hi, hkm, rfl, rfl⟩
    simp
    refine aw_seq (aw_seq (aw_run [5] ?_))
    simp -implicitDefEqProofs
    have hlen := cellsN_len a b c d i
    refine aw_cond rfl (fun h => aw_skip ?_) (fun h => aw_exit ?_)
    · have hlt : i < 1024 := by simp at h; omega
      have hnx : IntKind.i64.wrap ((i : Int) + 1) = ((i + 1 : Nat) : Int) := by rw [wrap_id (by omega) (by omega)]; simp
      simp -implicitDefEqProofs
      repeat' (first
        | refine aw_seq ?_
        | (refine aw_run [5] ?_; simp -implicitDefEqProofs)
        | (refine aw_ymix [5] draws (by decide +kernel) ?_; simp -implicitDefEqProofs)
        | (refine aw_yrun draws (by kernel_rfl) ?_; simp -implicitDefEqProofs)
        | (refine awl_skip' [5] rfl ?_; simp -implicitDefEqProofs)
        | (refine awl_pure_guard [5] rfl rfl rfl (by kernel_rfl) rfl (fun hc => by first | exact rat_ok _ | exact rhas_ok _ _ _ _ _ _) (by simp) (by simp) (by simp) ?_; simp -implicitDefEqProofs)
        | (refine yl_pureG rfl rfl rfl (by kernel_rfl) rfl (fun hc => by first | exact rat_ok _ | exact rhas_ok _ _ _ _ _ _) (by simp) (by simp) (by simp) ?_; simp -implicitDefEqProofs)
        | (refine awl_pure' [5] rfl rfl rfl (by kernel_rfl) rfl (by first | exact rat_ok _ | exact rhas_ok _ _ _ _ _ _) (by simp) (by simp) ?_; simp -implicitDefEqProofs)
        | (refine yl_pure rfl rfl rfl (by kernel_rfl) rfl (by first | exact rat_ok _ | exact rhas_ok _ _ _ _ _ _) (by simp) (by simp) ?_; simp -implicitDefEqProofs)
        | (refine aw_cond rfl (fun h => ?_) (fun h => ?_) <;> try (with_reducible first | exact ff_tt h | exact tt_ff h))
        | (refine aw_skip ?_; simp -implicitDefEqProofs)
        | refine aw_block ?_
        | (refine aw_exit ?_; simp -implicitDefEqProofs)
        | refine aw_ret (ret_of (.inr rfl) (by simp [Tryd.results31]; rfl) (Fin.of ?_)))
      · refine awl_append [5] rfl rfl rfl (xs := (cellsN a b c d i).map pl) (by simp) (by simp) rfl (by simp) te42 tet42 tz23 rfl ?_ (by simp) (by simp; omega) (by simp; omega) ?_
        · intro y hy
          simp at hy
          obtain ⟨_, _, _, rfl⟩ := hy
          rfl
        simp -implicitDefEqProofs
        repeat' (first
          | refine aw_seq ?_
          | (refine aw_run [5] ?_; simp -implicitDefEqProofs)
          | (refine aw_ymix [5] draws (by decide +kernel) ?_; simp -implicitDefEqProofs)
          | (refine aw_yrun draws (by kernel_rfl) ?_; simp -implicitDefEqProofs)
          | (refine awl_skip' [5] rfl ?_; simp -implicitDefEqProofs)
          | (refine aw_cond rfl (fun h => ?_) (fun h => ?_) <;> try (with_reducible first | exact ff_tt h | exact tt_ff h))
          | (refine aw_skip ?_; simp -implicitDefEqProofs)
          | refine aw_block ?_
          | (refine aw_exit ?_; simp -implicitDefEqProofs)
          | refine aw_ret (ret_of (.inr rfl) (by simp [Tryd.results31]; rfl) (Fin.of ?_)))
        refine ⟨n - 1, by omega, _, le_oneSl (k := m + 1) (xs := (((cellsN a b c d i).map pl).take (cellsN a b c d i).length) ++ [pl (atC i, atR i)]) (n := m + 2) (by simp [pl]) (Nat.le_refl _), m + 1, m + 2, i + 1, by omega, by omega, ?_, ?_⟩
        · rw [cellsN_succ, if_pos h, List.map_append, List.take_of_length_le (by simp)]; rfl
        · rw [cellsN_succ, if_pos h]
          simp [hnx]
      · refine ⟨n - 1, by omega, _, le_oneSl (k := k) (xs := (cellsN a b c d i).map pl) (n := m + 1) (by simp) (Nat.le_refl _), k, m + 1, i + 1, by omega, by omega, ?_, ?_⟩
        · rw [cellsN_succ, if_neg (by simp [h]), List.append_nil]
        · rw [cellsN_succ, if_neg (by simp [h]), List.append_nil]
          simp [hnx]
    · have : i = 1024 := by simp at h; omega
      subst this
      simp -implicitDefEqProofs
      refine aw_freeze (b := k) (xs := (cellsN a b c d 1024).map pl) (by simp) ?_
      simp [frz, frz1, frz0]
      repeat' (first
        | refine aw_seq ?_
        | (refine aw_run [5] ?_; simp -implicitDefEqProofs)
        | (refine aw_ymix [5] draws (by decide +kernel) ?_; simp -implicitDefEqProofs)
        | (refine aw_yrun draws (by kernel_rfl) ?_; simp -implicitDefEqProofs)
        | (refine awl_skip' [5] rfl ?_; simp -implicitDefEqProofs)
        | (refine aw_cond rfl (fun h => ?_) (fun h => ?_) <;> try (with_reducible first | exact ff_tt h | exact tt_ff h))
        | (refine aw_skip ?_; simp -implicitDefEqProofs)
        | refine aw_block ?_
        | (refine aw_exit ?_; simp -implicitDefEqProofs)
        | refine aw_ret (ret_of (.inr rfl) (by simp [Tryd.results31]; rfl) (Fin.of ?_)))
      simp [tupOf, cellsL, List.take_of_length_le]
end Go.AL
