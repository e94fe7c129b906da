/- Parts of the proof of LexerBlanks: the logic, contracts, plain laws. -/
import Derived.Test.YtfpjojjgoelckaaDoorZLexerBlanks13
/-! Contracts: place.formed. -/
namespace Go.AL
open Go.Proofs
set_option linter.unusedSimpArgs false
set_option linter.unusedVariables false
set_option maxRecDepth 100000 in
theorem formed_ok (s : ByteArray) (hsz : s.size ≤ 9223372036854775807) : APure Tryd.prog 44 [vs s] (vb (formedP s)) := by
  obtain ⟨⟨l⟩⟩ := s
  unfold formedP
  match l, hsz with
  | [], _ =>
    refine apure_of Tryd.func44 Tryd.ntmps44 rfl ?_
    simp only [List.length_cons, List.length_nil, List.cons_append, List.nil_append, List.replicate]
    repeat' (first
      | refine aw_seq ?_
      | (refine aw_run [] ?_; simp -implicitDefEqProofs (maxSteps := 1000000) [bsize_mk])
      | (refine aw_ymix [] draws (by decide +kernel) ?_; simp -implicitDefEqProofs (maxSteps := 1000000) [bsize_mk])
      | (refine aw_yrun draws (by kernel_rfl) ?_; simp -implicitDefEqProofs (maxSteps := 1000000) [bsize_mk])
      | (refine awl_skip' [] rfl ?_; simp -implicitDefEqProofs (maxSteps := 1000000) [bsize_mk])
      | (refine aw_cond rfl (fun h => ?_) (fun h => ?_) <;> try (with_reducible first | exact ff_tt h | exact tt_ff h))
      | (refine aw_skip ?_; simp -implicitDefEqProofs (maxSteps := 1000000) [bsize_mk])
      | refine aw_block ?_
      | (refine aw_exit ?_; simp -implicitDefEqProofs (maxSteps := 1000000) [bsize_mk])
      | refine aw_ret (ret_of (.inr rfl) (by simp [Tryd.results44]; rfl) (Fin.of ?_)))
    all_goals first | (cases h; done) | simp [tupOf, formedL]
  | [a], _ =>
    refine apure_of Tryd.func44 Tryd.ntmps44 rfl ?_
    simp only [List.length_cons, List.length_nil, List.cons_append, List.nil_append, List.replicate]
    repeat' (first
      | refine aw_seq ?_
      | (refine aw_run [] ?_; simp -implicitDefEqProofs (maxSteps := 1000000) [bsize_mk])
      | (refine aw_ymix [] draws (by decide +kernel) ?_; simp -implicitDefEqProofs (maxSteps := 1000000) [bsize_mk])
      | (refine aw_yrun draws (by kernel_rfl) ?_; simp -implicitDefEqProofs (maxSteps := 1000000) [bsize_mk])
      | (refine awl_skip' [] rfl ?_; simp -implicitDefEqProofs (maxSteps := 1000000) [bsize_mk])
      | (refine aw_cond rfl (fun h => ?_) (fun h => ?_) <;> try (with_reducible first | exact ff_tt h | exact tt_ff h))
      | (refine aw_skip ?_; simp -implicitDefEqProofs (maxSteps := 1000000) [bsize_mk])
      | refine aw_block ?_
      | (refine aw_exit ?_; simp -implicitDefEqProofs (maxSteps := 1000000) [bsize_mk])
      | refine aw_ret (ret_of (.inr rfl) (by simp [Tryd.results44]; rfl) (Fin.of ?_)))
    all_goals first | (cases h; done) | simp [tupOf, formedL]
  | a :: b :: t, hsz =>
    simp [bsize_mk] at hsz
    refine apure_of Tryd.func44 Tryd.ntmps44 rfl ?_
    simp only [List.length_cons, List.length_nil, List.cons_append, List.nil_append, List.replicate]
    refine aw_seq (aw_run [] ?_)
    simp -implicitDefEqProofs
    refine aw_seq (aw_seq (aw_run [] ?_))
    simp -implicitDefEqProofs [bsize_mk]
    refine aw_cond rfl (fun h => ?_) (fun h => aw_skip ?_)
    · repeat' (first
        | refine aw_seq ?_
        | (refine aw_run [] ?_; simp -implicitDefEqProofs (maxSteps := 1000000) [bsize_mk])
        | (refine aw_ymix [] draws (by decide +kernel) ?_; simp -implicitDefEqProofs (maxSteps := 1000000) [bsize_mk])
        | (refine aw_yrun draws (by kernel_rfl) ?_; simp -implicitDefEqProofs (maxSteps := 1000000) [bsize_mk])
        | (refine awl_skip' [] rfl ?_; simp -implicitDefEqProofs (maxSteps := 1000000) [bsize_mk])
        | (refine aw_cond rfl (fun h => ?_) (fun h => ?_) <;> try (with_reducible first | exact ff_tt h | exact tt_ff h))
        | (refine aw_skip ?_; simp -implicitDefEqProofs (maxSteps := 1000000) [bsize_mk])
        | refine aw_block ?_
        | (refine aw_exit ?_; simp -implicitDefEqProofs (maxSteps := 1000000) [bsize_mk])
        | refine aw_ret (ret_of (.inr rfl) (by simp [Tryd.results44]; rfl) (Fin.of ?_)))
      simp [tupOf, formedL] at h ⊢
      intro h1 h2 h3 h4
      omega
    · simp at h
      simp -implicitDefEqProofs [bsize_mk]
      refine aw_seq (aw_seq (aw_run [] ?_))
      simp -implicitDefEqProofs [bsize_mk, bytesAV]
      refine aw_block (aw_loopK [30, 31, 32] (fun n fr σ => σ = σ0 ∧ ∃ i : Nat, i + n = t.length + 1 ∧ ((b :: t).take i).all digitB = true ∧ fr = frm 43 [(30, .vsl ((b :: t).map vbyte)), (31, vi ((t.length : Int) + 1)), (32, vi (i : Nat))]) (t.length + 1) ?_ ?_)
      · refine ⟨rfl, 0, by omega, by simp, by simp⟩
      · rintro n fr σ ⟨rfl, i, hi, hall, rfl⟩
        simp
        refine aw_seq (aw_run [] ?_)
        simp -implicitDefEqProofs [bsize_mk]
        refine aw_seq (aw_cond rfl (fun h => aw_skip ?_) (fun h => aw_exit ?_))
        · have hlt : i < t.length + 1 := by simp at h; omega
          obtain ⟨x, hx⟩ : ∃ x, (b :: t)[i]? = some x := ⟨(b :: t)[i], by simp [hlt]⟩
          have hx2 : (vbyte b :: t.map vbyte)[i]? = some (vbyte x) := by
            have : ((b :: t).map vbyte)[i]? = some (vbyte x) := by rw [List.getElem?_map, hx]; rfl
            simpa using this
          have hnx : IntKind.i64.wrap ((i : Int) + 1) = ((i + 1 : Nat) : Int) := by rw [wrap_id (by omega) (by omega)]; simp
          simp -implicitDefEqProofs
          refine aw_seq (aw_block (aw_seq (aw_run [] ?_)))
          simp -implicitDefEqProofs [hx2]
          refine aw_seq (aw_run [] ?_)
          simp -implicitDefEqProofs
          refine aw_cond rfl (fun h2 => ?_) (fun h2 => aw_skip ?_)
          · repeat' (first
              | refine aw_seq ?_
              | (refine aw_run [] ?_; simp -implicitDefEqProofs (maxSteps := 1000000))
              | (refine aw_ymix [] draws (by decide +kernel) ?_; simp -implicitDefEqProofs (maxSteps := 1000000))
              | (refine aw_yrun draws (by kernel_rfl) ?_; simp -implicitDefEqProofs (maxSteps := 1000000))
              | (refine awl_skip' [] rfl ?_; simp -implicitDefEqProofs (maxSteps := 1000000))
              | (refine aw_cond rfl (fun h => ?_) (fun h => ?_) <;> try (with_reducible first | exact ff_tt h | exact tt_ff h))
              | (refine aw_skip ?_; simp -implicitDefEqProofs (maxSteps := 1000000))
              | refine aw_block ?_
              | (refine aw_exit ?_; simp -implicitDefEqProofs (maxSteps := 1000000))
              | refine aw_ret (ret_of (.inr rfl) (by simp [Tryd.results44]; rfl) (Fin.of ?_)))
            simp [tupOf] at h2 ⊢
            have hm : x ∈ b :: t := List.mem_of_getElem? hx
            cases hq : formedL (a :: b :: t) with
            | false => rfl
            | true =>
              simp only [formedL, Bool.and_eq_true, List.all_eq_true] at hq
              have := hq.2 x hm
              simp [digitB] at this
              omega
          · simp -implicitDefEqProofs
            refine aw_run [] ?_
            simp -implicitDefEqProofs
            refine ⟨n - 1, by omega, i + 1, by omega, ?_, by simp [hnx]⟩
            have he : (b :: t).take (i + 1) = (b :: t).take i ++ [x] := by
              rw [List.take_add_one, hx]; rfl
            intro y hy
            rw [he, List.mem_append] at hy
            rcases hy with hy | hy
            · exact List.all_eq_true.1 hall y hy
            · obtain rfl : y = x := by simpa using hy
              simp [digitB] at h2 ⊢
              omega
        · have hi2 : i = t.length + 1 := by simp at h; omega
          simp -implicitDefEqProofs
          repeat' (first
            | refine aw_seq ?_
            | (refine aw_run [] ?_; simp -implicitDefEqProofs (maxSteps := 1000000))
            | (refine aw_ymix [] draws (by decide +kernel) ?_; simp -implicitDefEqProofs (maxSteps := 1000000))
            | (refine aw_yrun draws (by kernel_rfl) ?_; simp -implicitDefEqProofs (maxSteps := 1000000))
            | (refine awl_skip' [] rfl ?_; simp -implicitDefEqProofs (maxSteps := 1000000))
            | (refine aw_cond rfl (fun h => ?_) (fun h => ?_) <;> try (with_reducible first | exact ff_tt h | exact tt_ff h))
            | (refine aw_skip ?_; simp -implicitDefEqProofs (maxSteps := 1000000))
            | refine aw_block ?_
            | (refine aw_exit ?_; simp -implicitDefEqProofs (maxSteps := 1000000))
            | refine aw_ret (ret_of (.inr rfl) (by simp [Tryd.results44]; rfl) (Fin.of ?_)))
          have hl : (b :: t).take i = b :: t := List.take_of_length_le (by simp; omega)
          rw [hl] at hall
          rename_i h9 _
          have : formedL (a :: b :: t) = true := by
            simp only [formedL, hall, Bool.and_true]
            simp
            omega
          simp [tupOf, this]
end Go.AL
