import Derived.Test.YtadepmefdanenaaDoorK02e
/-! Contracts: gridironref02.Meet. -/
namespace Go.AL
open Go.Proofs
set_option linter.unusedSimpArgs false
set_option linter.unusedVariables false
/-- One place of a, on the way to what both have. -/
def meetS (e f g i : Int) (s : (Int × Int) × (Int × Int) × Bool) (p : Int × Int) : (Int × Int) × (Int × Int) × Bool :=
  if hasP e f g i p.1 p.2 = true then (if s.2.2 = true then s.1 else p, p, true) else s
def meetL (e f g i : Int) (l : List (Int × Int)) : (Int × Int) × (Int × Int) × Bool := l.foldl (meetS e f g i) ((0, 0), (0, 0), false)
theorem meetL_snoc (e f g i : Int) (l : List (Int × Int)) (p : Int × Int) : meetL e f g i (l ++ [p]) = meetS e f g i (meetL e f g i l) p := by simp [meetL]
abbrev rg (s : (Int × Int) × (Int × Int) × Bool) : AV := range s.1.1 s.1.2 s.2.1.1 s.2.1.2
abbrev rgc (s : (Int × Int) × (Int × Int) × Bool) : List AV := [vi s.1.1, vi s.1.2, vi s.2.1.1, vi s.2.1.2]
set_option maxRecDepth 100000 in
theorem rmeet_ok (a b c d e f g i : Int) : APure Tryd.prog 29 [range a b c d, range e f g i] (.tup [rg (meetL e f g i (cellsL a b c d)), vb (meetL e f g i (cellsL a b c d)).2.2]) := by
  have hL : (cellsL a b c d).length ≤ 1024 := cellsN_len a b c d 1024
  have hcells := rcells_ok a b c d
  generalize cellsL a b c d = l at *
  refine apure_of Tryd.func29 Tryd.ntmps29 rfl ?_
  simp only [List.length_cons, List.length_nil, List.cons_append, List.nil_append, List.replicate]
  refine aw_seq (aw_run [4, 8] ?_)
  simp -implicitDefEqProofs
  refine aw_seq (aw_run [4, 8] ?_)
  simp -implicitDefEqProofs
  refine awl_pure' [4, 8] rfl rfl rfl (by kernel_rfl) rfl hcells (by simp) (by simp [pl]; rintro _ _ _ _ rfl; simp) ?_
  simp -implicitDefEqProofs
  refine aw_seq (aw_run [4, 8] ?_)
  simp -implicitDefEqProofs
  refine aw_seq (aw_run [4, 8] ?_)
  simp -implicitDefEqProofs
  refine aw_seq (aw_seq (aw_run [4, 8] ?_))
  simp -implicitDefEqProofs
  refine aw_block (aw_loopW [3, 4, 5, 6, 7, 8, 9] (fun n fr σ => ∃ k, k + n = l.length ∧ σ = mkSt [(0, [vi 0, vi 0, vi 0, vi 0]), (1, rgc (meetL e f g i (l.take k)))] [] 2 ∧ fr = frm 44 [(3, .vel [range e f g i] 0 0), (4, .ptr 0 0), (5, vb false), (6, .vsl (l.map pl)), (7, vb (meetL e f g i (l.take k)).2.2), (8, .ptr 1 0), (9, vi (k : Nat))]) l.length ?_ ?_)
  · refine ⟨mkSt [(0, [vi 0, vi 0, vi 0, vi 0]), (1, [vi 0, vi 0, vi 0, vi 0])] [] 2, le_mkSt (by simp [σ0]) (by simp) (by simp [σ0]), 0, by simp, ?_, ?_⟩
    · simp [meetL]
    · simp [meetL, σ0]
  · rintro n fr σ ⟨k, hk, rfl, rfl⟩
    simp
    refine aw_seq (aw_seq (aw_run [4, 8] ?_))
    simp -implicitDefEqProofs
    refine aw_cond rfl (fun h => aw_skip ?_) (fun h => aw_exit ?_)
    · have hlt : k < l.length := by simp at h; omega
      have hnx : IntKind.i64.wrap ((k : Int) + 1) = ((k + 1 : Nat) : Int) := by rw [wrap_id (by omega) (by omega)]; simp
      obtain ⟨u, hu⟩ : ∃ u, l[k]? = some u := ⟨l[k], by simp [hlt]⟩
      have ht : l.take (k + 1) = l.take k ++ [u] := by rw [List.take_add_one, hu]; rfl
      have hs := meetL_snoc e f g i (l.take k) u
      rw [← ht] at hs
      generalize meetL e f g i (l.take k) = s at *
      simp -implicitDefEqProofs
      refine aw_seq (aw_block (aw_seq (aw_yrun draws (by kernel_rfl) ?_)))
      simp -implicitDefEqProofs [hu, pl]
      refine yl_pure rfl rfl rfl (by kernel_rfl) rfl (rhas_ok _ _ _ _ _ _) (by simp) (by simp) ?_
      simp -implicitDefEqProofs
      repeat' (first
        | refine aw_seq ?_
        | (refine aw_run [4, 8] ?_; simp -implicitDefEqProofs [hu, pl])
        | (refine aw_ymix [4, 8] draws (by decide +kernel) ?_; simp -implicitDefEqProofs [hu, pl])
        | (refine aw_yrun draws (by kernel_rfl) ?_; simp -implicitDefEqProofs [hu, pl])
        | (refine awl_skip' [4, 8] rfl ?_; simp -implicitDefEqProofs [hu, pl])
        | (refine aw_cond rfl (fun h => ?_) (fun h => ?_) <;> try (with_reducible first | exact ff_tt h | exact tt_ff h))
        | (refine aw_skip ?_; simp -implicitDefEqProofs [hu, pl])
        | refine aw_block ?_
        | (refine aw_exit ?_; simp -implicitDefEqProofs [hu, pl])
        | refine aw_ret (ret_of (.inr rfl) (by simp [Tryd.results29]; rfl) (Fin.of ?_)))
      all_goals
        rename_i h1
        cases hq : s.2.2 <;> cases hp : hasP e f g i u.1 u.2 <;> simp [hq, hp] at h h1 <;>
          (refine ⟨n - 1, by omega, mkSt [(0, [vi 0, vi 0, vi 0, vi 0]), (1, rgc (meetS e f g i s u))] [] 2, le_mkSt ?_ (by simp) (by simp), k + 1, by omega, by rw [hs], ?_⟩ <;> simp [hs, meetS, hq, hp, hnx, List.lookup])
    · have : k = l.length := by simp at h; omega
      subst this
      simp -implicitDefEqProofs
      repeat' (first
        | refine aw_seq ?_
        | (refine aw_run [4, 8] ?_; simp -implicitDefEqProofs)
        | (refine aw_ymix [4, 8] draws (by decide +kernel) ?_; simp -implicitDefEqProofs)
        | (refine aw_yrun draws (by kernel_rfl) ?_; simp -implicitDefEqProofs)
        | (refine awl_skip' [4, 8] rfl ?_; simp -implicitDefEqProofs)
        | (refine aw_cond rfl (fun h => ?_) (fun h => ?_) <;> try (with_reducible first | exact ff_tt h | exact tt_ff h))
        | (refine aw_skip ?_; simp -implicitDefEqProofs)
        | refine aw_block ?_
        | (refine aw_exit ?_; simp -implicitDefEqProofs)
        | refine aw_ret (ret_of (.inr rfl) (by simp [Tryd.results29]; rfl) (Fin.of ?_)))
      simp [tupOf]
end Go.AL
