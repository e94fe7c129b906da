import Derived.Test.YtadepmefdanenaaDoorK02d
/-! Contracts: gridironref02.Same. -/
namespace Go.AL
open Go.Proofs
set_option linter.unusedSimpArgs false
set_option linter.unusedVariables false
set_option maxRecDepth 100000 in
theorem rsame_ok (l m : List (Int × Int)) (hl : (l.length : Int) < 2 ^ 47) : APure Tryd.prog 30 [.vsl (l.map pl), .vsl (m.map pl)] (vb (decide (l = m))) := by
  refine apure_of Tryd.func30 Tryd.ntmps30 rfl ?_
  simp only [List.length_cons, List.length_nil, List.cons_append, List.nil_append, List.replicate]
  refine aw_seq (aw_run [] ?_)
  simp -implicitDefEqProofs
  refine aw_seq (aw_seq (aw_run [] ?_))
  simp -implicitDefEqProofs
  refine aw_cond rfl (fun h => ?_) (fun h => aw_skip ?_)
  · repeat' (first
      | refine aw_seq ?_
      | (refine aw_run [] ?_; simp -implicitDefEqProofs)
      | (refine aw_ymix [] draws (by decide +kernel) ?_; simp -implicitDefEqProofs)
      | (refine aw_yrun draws (by kernel_rfl) ?_; simp -implicitDefEqProofs)
      | (refine awl_skip' [] rfl ?_; simp -implicitDefEqProofs)
      | (refine aw_cond rfl (fun h => ?_) (fun h => ?_) <;> try (with_reducible first | exact ff_tt h | exact tt_ff h))
      | (refine aw_skip ?_; simp -implicitDefEqProofs)
      | refine aw_block ?_
      | (refine aw_exit ?_; simp -implicitDefEqProofs)
      | refine aw_ret (ret_of (.inr rfl) (by simp [Tryd.results30]; rfl) (Fin.of ?_)))
    simp [tupOf] at h ⊢
    rintro rfl; exact h rfl
  · have hlen : m.length = l.length := by simp at h; omega
    simp -implicitDefEqProofs
    refine aw_seq (aw_seq (aw_run [] ?_))
    simp -implicitDefEqProofs
    refine aw_block (aw_loopK [0, 1, 4, 5] (fun n fr σ => σ = σ0 ∧ ∃ i : Nat, i + n = l.length ∧ l.take i = m.take i ∧ fr = frm 26 [(0, .vsl (l.map pl)), (1, .vsl (m.map pl)), (4, vb false), (5, vi i)]) l.length ?_ ?_)
    · simp
    · rintro n fr σ ⟨rfl, i, hi, ht, rfl⟩
      simp
      refine aw_seq (aw_seq (aw_run [] ?_))
      simp -implicitDefEqProofs
      refine aw_cond rfl (fun h => aw_skip ?_) (fun h => aw_exit ?_)
      · have hlt : i < l.length := by simp at h; omega
        obtain ⟨u, hu⟩ : ∃ u, l[i]? = some u := ⟨l[i], by simp [hlt]⟩
        obtain ⟨v, hv⟩ : ∃ u, m[i]? = some u := ⟨m[i], by simp⟩
        simp -implicitDefEqProofs
        refine aw_seq (aw_block (aw_seq (aw_yrun draws (by kernel_rfl) ?_)))
        simp -implicitDefEqProofs [hu, hv, pl]
        refine aw_cond rfl (fun h2 => ?_) (fun h2 => aw_skip ?_)
        · repeat' (first
            | refine aw_seq ?_
            | (refine aw_run [] ?_; simp -implicitDefEqProofs)
            | (refine aw_ymix [] draws (by decide +kernel) ?_; simp -implicitDefEqProofs)
            | (refine aw_yrun draws (by kernel_rfl) ?_; simp -implicitDefEqProofs)
            | (refine awl_skip' [] rfl ?_; simp -implicitDefEqProofs)
            | (refine aw_cond rfl (fun h => ?_) (fun h => ?_) <;> try (with_reducible first | exact ff_tt h | exact tt_ff h))
            | (refine aw_skip ?_; simp -implicitDefEqProofs)
            | refine aw_block ?_
            | (refine aw_exit ?_; simp -implicitDefEqProofs)
            | refine aw_ret (ret_of (.inr rfl) (by simp [Tryd.results30]; rfl) (Fin.of ?_)))
          simp [tupOf] at h2 ⊢
          rintro rfl
          rw [hu] at hv
          obtain rfl := Option.some.inj hv
          simp at h2
        · simp -implicitDefEqProofs
          refine aw_run [] ?_
          simp -implicitDefEqProofs
          refine ⟨n - 1, by omega, i + 1, by omega, ?_, ?_⟩
          · have e : u = v := by simp at h2; exact Prod.ext h2.1 h2.2
            rw [List.take_add_one, List.take_add_one, ht, hu, hv, e]
          · rw [wrap_id (by omega) (by omega)]; simp [pl]
      · have : i = l.length := by simp at h; omega
        simp -implicitDefEqProofs
        repeat' (first
          | refine aw_seq ?_
          | (refine aw_run [] ?_; simp -implicitDefEqProofs)
          | (refine aw_ymix [] draws (by decide +kernel) ?_; simp -implicitDefEqProofs)
          | (refine aw_yrun draws (by kernel_rfl) ?_; simp -implicitDefEqProofs)
          | (refine awl_skip' [] rfl ?_; simp -implicitDefEqProofs)
          | (refine aw_cond rfl (fun h => ?_) (fun h => ?_) <;> try (with_reducible first | exact ff_tt h | exact tt_ff h))
          | (refine aw_skip ?_; simp -implicitDefEqProofs)
          | refine aw_block ?_
          | (refine aw_exit ?_; simp -implicitDefEqProofs)
          | refine aw_ret (ret_of (.inr rfl) (by simp [Tryd.results30]; rfl) (Fin.of ?_)))
        subst this
        simp [tupOf] at ht ⊢
        rw [ht, ← hlen]
        simp
end Go.AL
