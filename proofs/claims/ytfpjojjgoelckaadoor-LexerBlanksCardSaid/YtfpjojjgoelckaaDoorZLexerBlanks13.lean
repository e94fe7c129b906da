/- Parts of the proof of LexerBlanks: the logic, contracts, plain laws. -/
import Derived.Test.YtfpjojjgoelckaaDoorZLexerBlanks12
/-! Contracts: the form of a place's text, by gridironref02. -/
namespace Go.AL
open Go.Proofs
set_option linter.unusedSimpArgs false
set_option linter.unusedVariables false
def digitB (b : UInt8) : Bool := decide (48 ≤ (b.toNat : Int)) && decide ((b.toNat : Int) ≤ 57)
def formedL : List UInt8 → Bool
  | a :: b :: t => decide (t.length ≤ 2) && decide (65 ≤ (a.toNat : Int)) && decide ((a.toNat : Int) ≤ 90) && !decide ((b.toNat : Int) = 48) && (b :: t).all digitB
  | _ => false
def formedP (s : ByteArray) : Bool := formedL s.data.toList
theorem bsize_mk (a : Array UInt8) : (⟨a⟩ : ByteArray).size = a.size := rfl
set_option maxRecDepth 100000 in
theorem rformed_ok (s : ByteArray) (hsz : s.size ≤ 9223372036854775807) : APure Tryd.prog 37 [vs s] (vb (formedP s)) := by
  obtain ⟨⟨l⟩⟩ := s
  unfold formedP
  match l, hsz with
  | [], _ =>
    refine apure_of Tryd.func37 Tryd.ntmps37 rfl ?_
    simp only [List.length_cons, List.length_nil, List.cons_append, List.nil_append, List.replicate]
    repeat' (first
      | refine aw_seq ?_
      | (refine aw_run [] ?_; simp -implicitDefEqProofs (maxSteps := 1000000) [bsize_mk])
      | (refine aw_ymix [] draws (by decide +kernel) ?_; simp -implicitDefEqProofs (maxSteps := 1000000) [bsize_mk])
      | (refine aw_yrun draws (by kernel_rfl) ?_; simp -implicitDefEqProofs (maxSteps := 1000000) [bsize_mk])
      | (refine awl_skip' [] rfl ?_; simp -implicitDefEqProofs (maxSteps := 1000000) [bsize_mk])
      | (refine aw_cond rfl (fun h => ?_) (fun h => ?_) <;> try (with_reducible first | exact ff_tt h | exact tt_ff h))
      | (refine aw_skip ?_; simp -implicitDefEqProofs (maxSteps := 1000000) [bsize_mk])
      | refine aw_block ?_
      | (refine aw_exit ?_; simp -implicitDefEqProofs (maxSteps := 1000000) [bsize_mk])
      | refine aw_ret (ret_of (.inr rfl) (by simp [Tryd.results37]; rfl) (Fin.of ?_)))
    all_goals first | (cases h; done) | simp [tupOf, formedL]
  | [a], _ =>
    refine apure_of Tryd.func37 Tryd.ntmps37 rfl ?_
    simp only [List.length_cons, List.length_nil, List.cons_append, List.nil_append, List.replicate]
    repeat' (first
      | refine aw_seq ?_
      | (refine aw_run [] ?_; simp -implicitDefEqProofs (maxSteps := 1000000) [bsize_mk])
      | (refine aw_ymix [] draws (by decide +kernel) ?_; simp -implicitDefEqProofs (maxSteps := 1000000) [bsize_mk])
      | (refine aw_yrun draws (by kernel_rfl) ?_; simp -implicitDefEqProofs (maxSteps := 1000000) [bsize_mk])
      | (refine awl_skip' [] rfl ?_; simp -implicitDefEqProofs (maxSteps := 1000000) [bsize_mk])
      | (refine aw_cond rfl (fun h => ?_) (fun h => ?_) <;> try (with_reducible first | exact ff_tt h | exact tt_ff h))
      | (refine aw_skip ?_; simp -implicitDefEqProofs (maxSteps := 1000000) [bsize_mk])
      | refine aw_block ?_
      | (refine aw_exit ?_; simp -implicitDefEqProofs (maxSteps := 1000000) [bsize_mk])
      | refine aw_ret (ret_of (.inr rfl) (by simp [Tryd.results37]; rfl) (Fin.of ?_)))
    all_goals first | (cases h; done) | simp [tupOf, formedL]
  | a :: b :: t, hsz =>
    simp [bsize_mk] at hsz
    refine apure_of Tryd.func37 Tryd.ntmps37 rfl ?_
    simp only [List.length_cons, List.length_nil, List.cons_append, List.nil_append, List.replicate]
    refine aw_seq (aw_run [] ?_)
    simp -implicitDefEqProofs
    refine aw_seq (aw_seq (aw_run [] ?_))
    simp -implicitDefEqProofs [bsize_mk]
    refine aw_cond rfl (fun h => ?_) (fun h => aw_skip ?_)
    · repeat' (first
        | refine aw_seq ?_
        | (refine aw_run [] ?_; simp -implicitDefEqProofs (maxSteps := 1000000) [bsize_mk])
        | (refine aw_ymix [] draws (by decide +kernel) ?_; simp -implicitDefEqProofs (maxSteps := 1000000) [bsize_mk])
        | (refine aw_yrun draws (by kernel_rfl) ?_; simp -implicitDefEqProofs (maxSteps := 1000000) [bsize_mk])
        | (refine awl_skip' [] rfl ?_; simp -implicitDefEqProofs (maxSteps := 1000000) [bsize_mk])
        | (refine aw_cond rfl (fun h => ?_) (fun h => ?_) <;> try (with_reducible first | exact ff_tt h | exact tt_ff h))
        | (refine aw_skip ?_; simp -implicitDefEqProofs (maxSteps := 1000000) [bsize_mk])
        | refine aw_block ?_
        | (refine aw_exit ?_; simp -implicitDefEqProofs (maxSteps := 1000000) [bsize_mk])
        | refine aw_ret (ret_of (.inr rfl) (by simp [Tryd.results37]; rfl) (Fin.of ?_)))
      simp [tupOf, formedL] at h ⊢
      intro h1 h2 h3 h4
      omega
    · simp at h
      simp -implicitDefEqProofs [bsize_mk]
      refine aw_seq (aw_seq (aw_run [] ?_))
      simp -implicitDefEqProofs [bsize_mk]
      refine aw_block (aw_loopK [0, 2, 3] (fun n fr σ => σ = σ0 ∧ ∃ i : Nat, i + n = t.length + 2 ∧ 1 ≤ i ∧ ((b :: t).take (i - 1)).all digitB = true ∧ fr = frm 43 [(0, vs ⟨⟨a :: b :: t⟩⟩), (2, vb false), (3, vi (i : Nat))]) (t.length + 1) ?_ ?_)
      · refine ⟨rfl, 1, by omega, by omega, by simp, by simp⟩
      · rintro n fr σ ⟨rfl, i, hi, h1, hall, rfl⟩
        simp
        refine aw_seq (aw_seq (aw_run [] ?_))
        simp -implicitDefEqProofs [bsize_mk]
        refine aw_cond rfl (fun h => aw_skip ?_) (fun h => aw_exit ?_)
        · have hlt : i < t.length + 2 := by simp at h; omega
          obtain ⟨x, hx⟩ : ∃ x, (a :: b :: t)[i]? = some x := ⟨(a :: b :: t)[i], by simp [hlt]⟩
          have hx1 : (b :: t)[i - 1]? = some x := by
            rw [show i = (i - 1) + 1 by omega, List.getElem?_cons_succ] at hx
            exact hx
          have hnx : IntKind.i64.wrap ((i : Int) + 1) = ((i + 1 : Nat) : Int) := by rw [wrap_id (by omega) (by omega)]; simp
          simp -implicitDefEqProofs
          refine aw_seq (aw_block (aw_seq (aw_run [] ?_)))
          simp -implicitDefEqProofs [hx]
          refine aw_cond rfl (fun h2 => ?_) (fun h2 => aw_skip ?_)
          · repeat' (first
              | refine aw_seq ?_
              | (refine aw_run [] ?_; simp -implicitDefEqProofs (maxSteps := 1000000))
              | (refine aw_ymix [] draws (by decide +kernel) ?_; simp -implicitDefEqProofs (maxSteps := 1000000))
              | (refine aw_yrun draws (by kernel_rfl) ?_; simp -implicitDefEqProofs (maxSteps := 1000000))
              | (refine awl_skip' [] rfl ?_; simp -implicitDefEqProofs (maxSteps := 1000000))
              | (refine aw_cond rfl (fun h => ?_) (fun h => ?_) <;> try (with_reducible first | exact ff_tt h | exact tt_ff h))
              | (refine aw_skip ?_; simp -implicitDefEqProofs (maxSteps := 1000000))
              | refine aw_block ?_
              | (refine aw_exit ?_; simp -implicitDefEqProofs (maxSteps := 1000000))
              | refine aw_ret (ret_of (.inr rfl) (by simp [Tryd.results37]; rfl) (Fin.of ?_)))
            simp [tupOf] at h2 ⊢
            have hm : x ∈ b :: t := List.mem_of_getElem? hx1
            cases hq : formedL (a :: b :: t) with
            | false => rfl
            | true =>
              simp only [formedL, Bool.and_eq_true, List.all_eq_true] at hq
              have := hq.2 x hm
              simp [digitB] at this
              omega
          · simp -implicitDefEqProofs
            refine aw_run [] ?_
            simp -implicitDefEqProofs
            refine ⟨n - 1, by omega, i + 1, by omega, by omega, ?_, by simp [hnx]⟩
            have he : (b :: t).take (i + 1 - 1) = (b :: t).take (i - 1) ++ [x] := by
              rw [show i + 1 - 1 = (i - 1) + 1 by omega, List.take_add_one, hx1]; rfl
            intro y hy
            rw [he, List.mem_append] at hy
            rcases hy with hy | hy
            · exact List.all_eq_true.1 hall y hy
            · obtain rfl : y = x := by simpa using hy
              simp [digitB] at h2 ⊢
              omega
        · have hi2 : i = t.length + 2 := by simp at h; omega
          simp -implicitDefEqProofs
          repeat' (first
            | refine aw_seq ?_
            | (refine aw_run [] ?_; simp -implicitDefEqProofs (maxSteps := 1000000))
            | (refine aw_ymix [] draws (by decide +kernel) ?_; simp -implicitDefEqProofs (maxSteps := 1000000))
            | (refine aw_yrun draws (by kernel_rfl) ?_; simp -implicitDefEqProofs (maxSteps := 1000000))
            | (refine awl_skip' [] rfl ?_; simp -implicitDefEqProofs (maxSteps := 1000000))
            | (refine aw_cond rfl (fun h => ?_) (fun h => ?_) <;> try (with_reducible first | exact ff_tt h | exact tt_ff h))
            | (refine aw_skip ?_; simp -implicitDefEqProofs (maxSteps := 1000000))
            | refine aw_block ?_
            | (refine aw_exit ?_; simp -implicitDefEqProofs (maxSteps := 1000000))
            | refine aw_ret (ret_of (.inr rfl) (by simp [Tryd.results37]; rfl) (Fin.of ?_)))
          have hl : (b :: t).take (i - 1) = b :: t := List.take_of_length_le (by simp; omega)
          rw [hl] at hall
          rename_i h9 _
          have : formedL (a :: b :: t) = true := by
            simp only [formedL, hall, Bool.and_true]
            simp
            omega
          simp [tupOf, this]
end Go.AL
