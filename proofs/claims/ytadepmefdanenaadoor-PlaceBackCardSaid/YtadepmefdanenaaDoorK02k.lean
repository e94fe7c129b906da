import Derived.Test.YtadepmefdanenaaDoorK02d
/-! Contracts: place.Cells. -/
namespace Go.AL
open Go.Proofs
set_option linter.unusedSimpArgs false
set_option linter.unusedVariables false
/-- A row's first n places. -/
def rowN (a y : Int) (n : Nat) : List (Int × Int) := (List.range n).map fun i : Nat => (a + (i : Int), y)
/-- The first n rows. -/
def gridN (a b : Int) (k n : Nat) : List (Int × Int) := (List.range n).flatMap fun j : Nat => rowN a (b + (j : Int)) k
def gridL (a b c d : Int) : List (Int × Int) := if wholeP a b c d = true then gridN a b (c - a + 1).toNat (d - b + 1).toNat else []
theorem rowN_succ (a y : Int) (n : Nat) : rowN a y (n + 1) = rowN a y n ++ [(a + (n : Int), y)] := by
  unfold rowN; rw [List.range_succ, List.map_append]; rfl
theorem rowN_len (a y : Int) (n : Nat) : (rowN a y n).length = n := by simp [rowN]
theorem gridN_succ (a b : Int) (k n : Nat) : gridN a b k (n + 1) = gridN a b k n ++ rowN a (b + (n : Int)) k := by
  unfold gridN; rw [List.range_succ, List.flatMap_append]; simp
theorem gridN_len (a b : Int) (k : Nat) : ∀ n : Nat, (gridN a b k n).length = n * k
  | 0 => by simp [gridN]
  | n + 1 => by rw [gridN_succ, List.length_append, gridN_len a b k n, rowN_len, Nat.succ_mul]
theorem whole_iff {a b c d : Int} : wholeP a b c d = true ↔ (0 ≤ a ∧ a ≤ c ∧ c < 16) ∧ (0 ≤ b ∧ b ≤ d ∧ d < 64) := by
  simp only [wholeP, rightP, withinP, Bool.and_eq_true, decide_eq_true_eq]; omega
set_option maxRecDepth 100000 in
theorem cells_ok (a b c d : Int) : APure Tryd.prog 26 [range a b c d] (.vsl ((gridL a b c d).map pl)) := by
  refine apure_of Tryd.func26 Tryd.ntmps26 rfl ?_
  simp only [List.length_cons, List.length_nil, List.cons_append, List.nil_append, List.replicate]
  refine aw_seq (aw_run [4] ?_)
  simp -implicitDefEqProofs
  refine aw_seq (aw_seq (aw_run [4] ?_))
  simp -implicitDefEqProofs
  refine awl_pure' [] rfl rfl rfl (by kernel_rfl) rfl (whole_ok a b c d) (by simp) (by simp) ?_
  simp -implicitDefEqProofs
  refine aw_cond rfl (fun h => ?_) (fun h => aw_skip ?_)
  · refine aw_seq (aw_run [4] ?_)
    simp -implicitDefEqProofs
    refine aw_ret (ret_of (.inr rfl) (by simp [Tryd.results26]; rfl) (Fin.vnil (Fin.of ?_)))
    have : wholeP a b c d = false := by simpa using h
    simp [gridL, this]
  · have hw : wholeP a b c d = true := by simpa using h
    have hb := whole_iff.1 hw
    have hG : gridL a b c d = gridN a b (c - a + 1).toNat (d - b + 1).toNat := if_pos hw
    rw [hG]
    obtain ⟨W, hW⟩ : ∃ W, W = (c - a + 1).toNat := ⟨_, rfl⟩
    obtain ⟨H, hH⟩ : ∃ H, H = (d - b + 1).toNat := ⟨_, rfl⟩
    rw [← hW, ← hH]
    refine aw_seq (aw_run [4] ?_)
    simp -implicitDefEqProofs
    refine aw_seq (aw_seq (aw_run [4] ?_))
    simp -implicitDefEqProofs
    refine aw_block (aw_open (i := 3) rfl ?_)
    refine aw_loopW [1, 3, 4] (fun n fr σ => ∃ k3 k4 m j : Nat, ∃ x : Int, j + n = H ∧ k3 < m ∧ k4 < m ∧ σ = mkSt [(k4, [vi x, vi (b + (j : Int))])] [(k3, (gridN a b W j).map pl)] m ∧ fr = frm 40 [(1, .vel [range a b c d] 0 0), (3, .hsl k3 0 (gridN a b W j).length), (4, .ptr k4 0)]) H ?_ ?_
    · refine ⟨mkSt [(0, [vi a, vi b])] [(1, [])] 2, le_mkSt (by simp [σ0]) (by simp [σ0]) (by simp [σ0]), 1, 0, 2, 0, a, by omega, by omega, by omega, by simp [gridN], ?_⟩
      simp [gridN, σ0]
    · rintro n0 fr σ ⟨k3, k4, m, j, x, hj, h3, h4, rfl, rfl⟩
      simp
      refine aw_seq (aw_seq (aw_run [4] ?_))
      simp -implicitDefEqProofs [List.lookup]
      refine aw_cond rfl (fun h => aw_skip ?_) (fun h => aw_exit ?_)
      · have hlt : j < H := by simp at h; omega
        have hny : IntKind.i64.wrap (b + (j : Int) + 1) = b + ((j + 1 : Nat) : Int) := by rw [wrap_id (by omega) (by omega)]; omega
        have hgl := gridN_len a b W j
        have hjW : j * W ≤ 64 * 16 := Nat.mul_le_mul (by omega) (by omega)
        have hm4 : ¬ k4 = m := by omega
        simp -implicitDefEqProofs [List.lookup]
        refine aw_seq (aw_block (aw_seq (aw_run [4] ?_)))
        simp -implicitDefEqProofs [List.lookup]
        refine aw_block (aw_loopW [1, 3, 4] (fun n fr σ => ∃ k3 m i : Nat, i + n = W ∧ k3 < m ∧ k4 < m ∧ σ = mkSt [(k4, [vi (a + (i : Int)), vi (b + (j : Int))])] [(k3, (gridN a b W j ++ rowN a (b + (j : Int)) i).map pl)] m ∧ fr = frm 40 [(1, .vel [range a b c d] 0 0), (3, .hsl k3 0 (j * W + i)), (4, .ptr k4 0)]) W ?_ ?_)
        · refine ⟨mkSt [(k4, [vi a, vi (b + (j : Int))])] [(k3, (gridN a b W j).map pl)] m, le_mkSt (by simp [List.lookup]) (by simp [List.lookup]) (by simp), k3, m, 0, by omega, by omega, by omega, by simp [rowN], ?_⟩
          simp [hgl]
        · rintro n fr σ ⟨k3, m, i, hi, h3, h4, rfl, rfl⟩
          have hm4 : ¬ k4 = m := by omega
          simp
          refine aw_seq (aw_seq (aw_run [4] ?_))
          simp -implicitDefEqProofs [List.lookup]
          refine aw_cond rfl (fun h => aw_skip ?_) (fun h => aw_exit ?_)
          · have hlt2 : i < W := by simp at h; omega
            have hnx : IntKind.i64.wrap (a + (i : Int) + 1) = a + ((i + 1 : Nat) : Int) := by rw [wrap_id (by omega) (by omega)]; omega
            simp -implicitDefEqProofs [List.lookup]
            repeat' (first
              | refine aw_seq ?_
              | (refine aw_run [4] ?_; simp -implicitDefEqProofs [List.lookup])
              | (refine aw_ymix [4] draws (by decide +kernel) ?_; simp -implicitDefEqProofs [List.lookup])
              | (refine aw_yrun draws (by kernel_rfl) ?_; simp -implicitDefEqProofs [List.lookup])
              | (refine awl_skip' [4] rfl ?_; simp -implicitDefEqProofs [List.lookup])
              | (refine aw_cond rfl (fun h => ?_) (fun h => ?_) <;> try (with_reducible first | exact ff_tt h | exact tt_ff h))
              | (refine aw_skip ?_; simp -implicitDefEqProofs [List.lookup])
              | refine aw_block ?_
              | (refine aw_exit ?_; simp -implicitDefEqProofs [List.lookup])
              | refine aw_ret (ret_of (.inr rfl) (by simp [Tryd.results26]; rfl) (Fin.of ?_)))
            have hlen : (gridN a b W j ++ rowN a (b + (j : Int)) i).length = j * W + i := by rw [List.length_append, hgl, rowN_len]
            refine awl_append [4] rfl rfl rfl (xs := (gridN a b W j ++ rowN a (b + (j : Int)) i).map pl) (by simp [List.lookup]) (by rw [List.length_map, hlen]; omega) rfl (by simp) te42 tet42 tz23 rfl ?_ (by simp) (by simp; omega) (by simp; omega) ?_
            · intro y hy
              simp at hy
              rcases hy with ⟨_, _, _, rfl⟩ | ⟨_, _, _, rfl⟩ <;> rfl
            simp -implicitDefEqProofs [List.lookup, hm4]
            repeat' (first
              | refine aw_seq ?_
              | (refine aw_run [4] ?_; simp -implicitDefEqProofs [List.lookup, hm4])
              | (refine aw_ymix [4] draws (by decide +kernel) ?_; simp -implicitDefEqProofs [List.lookup, hm4])
              | (refine aw_yrun draws (by kernel_rfl) ?_; simp -implicitDefEqProofs [List.lookup, hm4])
              | (refine awl_skip' [4] rfl ?_; simp -implicitDefEqProofs [List.lookup, hm4])
              | (refine aw_cond rfl (fun h => ?_) (fun h => ?_) <;> try (with_reducible first | exact ff_tt h | exact tt_ff h))
              | (refine aw_skip ?_; simp -implicitDefEqProofs [List.lookup, hm4])
              | refine aw_block ?_
              | (refine aw_exit ?_; simp -implicitDefEqProofs [List.lookup, hm4])
              | refine aw_ret (ret_of (.inr rfl) (by simp [Tryd.results26]; rfl) (Fin.of ?_)))
            refine ⟨n - 1, by omega, mkSt [(k4, [vi (a + ((i + 1 : Nat) : Int)), vi (b + (j : Int))])] [(m, (gridN a b W j ++ rowN a (b + (j : Int)) (i + 1)).map pl)] (m + 1), le_mkSt (by simp [List.lookup, hnx]) (by simp [List.lookup, rowN_succ, List.take_of_length_le, hgl, rowN_len, pl]) (by simp), m, m + 1, i + 1, by omega, by omega, by omega, by simp, rfl, by omega⟩
          · have : i = W := by simp at h; omega
            subst this
            simp -implicitDefEqProofs [List.lookup]
            refine aw_seq (aw_seq (aw_run [4] ?_))
            simp -implicitDefEqProofs [List.lookup]
            refine aw_run [4] ?_
            simp -implicitDefEqProofs [List.lookup]
            refine aw_run [4] ?_
            simp -implicitDefEqProofs [List.lookup]
            refine ⟨n0 - 1, by omega, mkSt [(m, [vi (a + (i : Int)), vi (b + ((j + 1 : Nat) : Int))])] [(k3, (gridN a b i (j + 1)).map pl)] (m + 1), le_mkSt (by simp [List.lookup, hny]) (by simp [List.lookup, gridN_succ]) (by simp), k3, m, m + 1, j + 1, by omega, by omega, by omega, ⟨_, rfl⟩, ?_⟩
            simp [gridN_len, Nat.succ_mul]
      · have : j = H := by simp at h; omega
        subst this
        simp -implicitDefEqProofs [List.lookup]
        refine aw_freeze (b := k3) (xs := (gridN a b W j).map pl) (by simp [List.lookup]) ?_
        simp [frz, frz1, frz0]
        repeat' (first
          | refine aw_seq ?_
          | (refine aw_run [4] ?_; simp -implicitDefEqProofs)
          | (refine aw_ymix [4] draws (by decide +kernel) ?_; simp -implicitDefEqProofs)
          | (refine aw_yrun draws (by kernel_rfl) ?_; simp -implicitDefEqProofs)
          | (refine awl_skip' [4] rfl ?_; simp -implicitDefEqProofs)
          | (refine aw_cond rfl (fun h => ?_) (fun h => ?_) <;> try (with_reducible first | exact ff_tt h | exact tt_ff h))
          | (refine aw_skip ?_; simp -implicitDefEqProofs)
          | refine aw_block ?_
          | (refine aw_exit ?_; simp -implicitDefEqProofs)
          | refine aw_ret (ret_of (.inr rfl) (by simp [Tryd.results26]; rfl) (Fin.of ?_)))
        simp [tupOf, List.take_of_length_le]
end Go.AL
