/- Parts of the proof of LexerBlanks: the logic, contracts, plain laws. -/
import Derived.Test.YtfpjojjgoelckaaDoorZLexerBlanks4
/-! Contracts: the library's texts (HasPrefix, TrimLeft by one byte). -/
namespace Go.AL
open Go.Proofs
set_option linter.unusedSimpArgs false
set_option linter.unusedVariables false
theorem bsizeL (a : Array UInt8) : (⟨a⟩ : ByteArray).size = a.size := rfl
def trimL (c : UInt8) (l : List UInt8) : List UInt8 := l.dropWhile fun b => decide (b = c)
theorem bext (x : UInt8) (l : List UInt8) : (⟨⟨x :: l⟩⟩ : ByteArray).extract 1 (l.length + 1) = ⟨⟨l⟩⟩ := by
  rw [show l.length + 1 = (⟨⟨x :: l⟩⟩ : ByteArray).size from rfl]
  apply ByteArray.ext
  simp [ByteArray.data_extract, bsizeL]
theorem u8c {x c : UInt8} : ((x.toNat : Int) = (c.toNat : Int)) ↔ x = c := ⟨fun h => UInt8.toNat_inj.1 (by omega), fun h => by rw [h]⟩
set_option maxRecDepth 100000 in
theorem trimByte_ok (c : UInt8) (s : ByteArray) (hs : s.size ≤ 9223372036854775807) : APure Tryd.prog 13 [vs s, .p (.int .u8 c.toNat)] (vs ⟨⟨trimL c s.data.toList⟩⟩) := by
  obtain ⟨⟨l0⟩⟩ := s
  show APure _ _ _ (vs ⟨⟨trimL c l0⟩⟩)
  refine apure_of Tryd.func13 Tryd.ntmps13 rfl ?_
  simp only [List.length_cons, List.length_nil, List.cons_append, List.nil_append, List.replicate]
  refine aw_seq (aw_run [] ?_)
  simp -implicitDefEqProofs
  refine aw_seq (aw_block (aw_loopK [0, 1] (fun n fr σ => σ = σ0 ∧ ∃ l : List UInt8, l.length = n ∧ l.length ≤ l0.length ∧ trimL c l = trimL c l0 ∧ fr = frm 17 [(0, vs ⟨⟨l⟩⟩), (1, .p (.int .u8 c.toNat))]) l0.length ?_ ?_))
  · exact ⟨rfl, l0, rfl, Nat.le_refl _, rfl, by simp⟩
  · rintro n fr σ ⟨rfl, l, hn, hl, ht, rfl⟩
    simp
    match l, hn, hl, ht with
    | [], hn, hl, ht =>
      repeat' (first
        | refine aw_seq ?_
        | (refine aw_run [] ?_; simp -implicitDefEqProofs (maxSteps := 1000000) [bsizeL])
        | (refine aw_ymix [] draws (by decide +kernel) ?_; simp -implicitDefEqProofs (maxSteps := 1000000) [bsizeL])
        | (refine aw_yrun draws (by kernel_rfl) ?_; simp -implicitDefEqProofs (maxSteps := 1000000) [bsizeL])
        | (refine awl_skip' [] rfl ?_; simp -implicitDefEqProofs (maxSteps := 1000000) [bsizeL])
        | (refine aw_cond rfl (fun h => ?_) (fun h => ?_) <;> try (with_reducible first | exact ff_tt h | exact tt_ff h))
        | (refine aw_skip ?_; simp -implicitDefEqProofs (maxSteps := 1000000) [bsizeL])
        | refine aw_block ?_
        | (refine aw_exit ?_; simp -implicitDefEqProofs (maxSteps := 1000000) [bsizeL])
        | refine aw_ret (ret_of (.inr rfl) (by simp [Tryd.results13]; rfl) (Fin.of ?_)))
      rw [← ht]; rfl
    | x :: l, hn, hl, ht =>
      have hp : (0 : Int) < (l.length : Int) + 1 := by omega
      by_cases hx : x = c
      · subst hx
        have he := bext x l
        repeat' (first
          | refine aw_seq ?_
          | (refine aw_run [] ?_; simp -implicitDefEqProofs (maxSteps := 1000000) [bsizeL, hp, he])
          | (refine aw_ymix [] draws (by decide +kernel) ?_; simp -implicitDefEqProofs (maxSteps := 1000000) [bsizeL, hp, he])
          | (refine aw_yrun draws (by kernel_rfl) ?_; simp -implicitDefEqProofs (maxSteps := 1000000) [bsizeL, hp, he])
          | (refine awl_skip' [] rfl ?_; simp -implicitDefEqProofs (maxSteps := 1000000) [bsizeL, hp, he])
          | (refine aw_cond rfl (fun h => ?_) (fun h => ?_) <;> try (with_reducible first | exact ff_tt h | exact tt_ff h))
          | (refine aw_skip ?_; simp -implicitDefEqProofs (maxSteps := 1000000) [bsizeL, hp, he])
          | refine aw_block ?_
          | (refine aw_exit ?_; simp -implicitDefEqProofs (maxSteps := 1000000) [bsizeL, hp, he])
          | refine aw_ret (ret_of (.inr rfl) (by simp [Tryd.results13]; rfl) (Fin.of ?_)))
        exact ⟨n - 1, by simp at hn; omega, l, by simp at hn; omega, by simp at hl; omega, by rw [← ht]; simp [trimL], rfl⟩
      · have hx2 : ¬ (x.toNat : Int) = (c.toNat : Int) := fun h => hx (u8c.1 h)
        repeat' (first
          | refine aw_seq ?_
          | (refine aw_run [] ?_; simp -implicitDefEqProofs (maxSteps := 1000000) [bsizeL, hp, hx2])
          | (refine aw_ymix [] draws (by decide +kernel) ?_; simp -implicitDefEqProofs (maxSteps := 1000000) [bsizeL, hp, hx2])
          | (refine aw_yrun draws (by kernel_rfl) ?_; simp -implicitDefEqProofs (maxSteps := 1000000) [bsizeL, hp, hx2])
          | (refine awl_skip' [] rfl ?_; simp -implicitDefEqProofs (maxSteps := 1000000) [bsizeL, hp, hx2])
          | (refine aw_cond rfl (fun h => ?_) (fun h => ?_) <;> try (with_reducible first | exact ff_tt h | exact tt_ff h))
          | (refine aw_skip ?_; simp -implicitDefEqProofs (maxSteps := 1000000) [bsizeL, hp, hx2])
          | refine aw_block ?_
          | (refine aw_exit ?_; simp -implicitDefEqProofs (maxSteps := 1000000) [bsizeL, hp, hx2])
          | refine aw_ret (ret_of (.inr rfl) (by simp [Tryd.results13]; rfl) (Fin.of ?_)))
        rw [← ht]
        simp [tupOf, trimL, hx]
/-- Does a text begin so? -/
def hasPre (s p : ByteArray) : Bool := decide (p.size ≤ s.size) && decide (s.extract 0 p.size = p)
set_option maxRecDepth 100000 in
theorem lpre_ok (s p : ByteArray) (hs : s.size ≤ 9223372036854775807) : APure Tryd.prog 36 [vs s, vs p] (vb (hasPre s p)) := by
  by_cases h : p.size ≤ s.size
  · refine apure_of Tryd.func36 Tryd.ntmps36 rfl ?_
    simp only [List.length_cons, List.length_nil, List.cons_append, List.nil_append, List.replicate]
    repeat' (first
      | refine aw_seq ?_
      | (refine aw_run [] ?_; simp -implicitDefEqProofs (maxSteps := 1000000) [h])
      | (refine aw_ymix [] draws (by decide +kernel) ?_; simp -implicitDefEqProofs (maxSteps := 1000000) [h])
      | (refine aw_yrun draws (by kernel_rfl) ?_; simp -implicitDefEqProofs (maxSteps := 1000000) [h])
      | (refine awl_skip' [] rfl ?_; simp -implicitDefEqProofs (maxSteps := 1000000) [h])
      | (refine aw_cond rfl (fun h => ?_) (fun h => ?_) <;> try (with_reducible first | exact ff_tt h | exact tt_ff h))
      | (refine aw_skip ?_; simp -implicitDefEqProofs (maxSteps := 1000000) [h])
      | refine aw_block ?_
      | (refine aw_exit ?_; simp -implicitDefEqProofs (maxSteps := 1000000) [h])
      | refine aw_ret (ret_of (.inr rfl) (by simp [Tryd.results36]; rfl) (Fin.of ?_)))
    simp [tupOf, hasPre, h]
  · refine apure_of Tryd.func36 Tryd.ntmps36 rfl ?_
    simp only [List.length_cons, List.length_nil, List.cons_append, List.nil_append, List.replicate]
    repeat' (first
      | refine aw_seq ?_
      | (refine aw_run [] ?_; simp -implicitDefEqProofs (maxSteps := 1000000) [h])
      | (refine aw_ymix [] draws (by decide +kernel) ?_; simp -implicitDefEqProofs (maxSteps := 1000000) [h])
      | (refine aw_yrun draws (by kernel_rfl) ?_; simp -implicitDefEqProofs (maxSteps := 1000000) [h])
      | (refine awl_skip' [] rfl ?_; simp -implicitDefEqProofs (maxSteps := 1000000) [h])
      | (refine aw_cond rfl (fun h => ?_) (fun h => ?_) <;> try (with_reducible first | exact ff_tt h | exact tt_ff h))
      | (refine aw_skip ?_; simp -implicitDefEqProofs (maxSteps := 1000000) [h])
      | refine aw_block ?_
      | (refine aw_exit ?_; simp -implicitDefEqProofs (maxSteps := 1000000) [h])
      | refine aw_ret (ret_of (.inr rfl) (by simp [Tryd.results36]; rfl) (Fin.of ?_)))
    simp [tupOf, hasPre, h]
set_option maxRecDepth 100000 in
theorem pre_ok (s p : ByteArray) (hs : s.size ≤ 9223372036854775807) : APure Tryd.prog 21 [vs s, vs p] (vb (hasPre s p)) := by
  have hP := lpre_ok s p hs
  refine apure_of Tryd.func21 Tryd.ntmps21 rfl ?_
  simp only [List.length_cons, List.length_nil, List.cons_append, List.nil_append, List.replicate]
  repeat' (first
    | refine aw_seq ?_
    | (refine aw_run [] ?_; simp -implicitDefEqProofs (maxSteps := 1000000))
    | (refine aw_ymix [] draws (by decide +kernel) ?_; simp -implicitDefEqProofs (maxSteps := 1000000))
    | (refine aw_yrun draws (by kernel_rfl) ?_; simp -implicitDefEqProofs (maxSteps := 1000000))
    | (refine awl_skip' [] rfl ?_; simp -implicitDefEqProofs (maxSteps := 1000000))
    | (refine awl_pure_guard [] rfl rfl rfl (by first | assumption | kernel_rfl) rfl (fun hc => by first | exact hP) (by simp) (by simp) (by simp) ?_; simp -implicitDefEqProofs (maxSteps := 1000000))
    | (refine yl_pureG rfl rfl rfl (by first | assumption | kernel_rfl) rfl (fun hc => by first | exact hP) (by simp) (by simp) (by simp) ?_; simp -implicitDefEqProofs (maxSteps := 1000000))
    | (refine awl_pure' [] rfl rfl rfl (by first | assumption | kernel_rfl) rfl (by first | exact hP) (by simp) (by simp) ?_; simp -implicitDefEqProofs (maxSteps := 1000000))
    | (refine yl_pure rfl rfl rfl (by first | assumption | kernel_rfl) rfl (by first | exact hP) (by simp) (by simp) ?_; simp -implicitDefEqProofs (maxSteps := 1000000))
    | (refine aw_cond rfl (fun h => ?_) (fun h => ?_) <;> try (with_reducible first | exact ff_tt h | exact tt_ff h))
    | (refine aw_skip ?_; simp -implicitDefEqProofs (maxSteps := 1000000))
    | refine aw_block ?_
    | (refine aw_exit ?_; simp -implicitDefEqProofs (maxSteps := 1000000))
    | refine aw_ret (ret_of (.inr rfl) (by simp [Tryd.results21]; rfl) (Fin.of ?_)))
  rfl
set_option maxRecDepth 100000 in
theorem trimBlank_ok (s : ByteArray) (hs : s.size ≤ 9223372036854775807) : APure Tryd.prog 10 [vs s, vs ⟨#[32]⟩] (vs ⟨⟨trimL 32 s.data.toList⟩⟩) := by
  have hT : APure Tryd.prog 13 [vs s, .p (.int .u8 32)] (vs ⟨⟨trimL 32 s.data.toList⟩⟩) := trimByte_ok 32 s hs
  by_cases h0 : s = ⟨#[]⟩
  · subst h0
    refine apure_of Tryd.func10 Tryd.ntmps10 rfl ?_
    simp only [List.length_cons, List.length_nil, List.cons_append, List.nil_append, List.replicate]
    repeat' (first
      | refine aw_seq ?_
      | (refine aw_run [5] ?_; simp -implicitDefEqProofs (maxSteps := 1000000))
      | (refine aw_ymix [5] draws (by decide +kernel) ?_; simp -implicitDefEqProofs (maxSteps := 1000000))
      | (refine aw_yrun draws (by kernel_rfl) ?_; simp -implicitDefEqProofs (maxSteps := 1000000))
      | (refine awl_skip' [5] rfl ?_; simp -implicitDefEqProofs (maxSteps := 1000000))
      | (refine aw_cond rfl (fun h => ?_) (fun h => ?_) <;> try (with_reducible first | exact ff_tt h | exact tt_ff h))
      | (refine aw_skip ?_; simp -implicitDefEqProofs (maxSteps := 1000000))
      | refine aw_block ?_
      | (refine aw_exit ?_; simp -implicitDefEqProofs (maxSteps := 1000000))
      | refine aw_ret (ret_of (.inr rfl) (by simp [Tryd.results10]; rfl) (Fin.of ?_)))
    rfl
  · refine apure_of Tryd.func10 Tryd.ntmps10 rfl ?_
    simp only [List.length_cons, List.length_nil, List.cons_append, List.nil_append, List.replicate]
    repeat' (first
      | refine aw_seq ?_
      | (refine aw_run [5] ?_; simp -implicitDefEqProofs (maxSteps := 1000000) [h0, bsizeL])
      | (refine aw_ymix [5] draws (by decide +kernel) ?_; simp -implicitDefEqProofs (maxSteps := 1000000) [h0, bsizeL])
      | (refine aw_yrun draws (by kernel_rfl) ?_; simp -implicitDefEqProofs (maxSteps := 1000000) [h0, bsizeL])
      | (refine awl_skip' [5] rfl ?_; simp -implicitDefEqProofs (maxSteps := 1000000) [h0, bsizeL])
      | (refine awl_pure_guard [5] rfl rfl rfl (by first | assumption | kernel_rfl) rfl (fun hc => by first | exact hT) (by simp) (by simp) (by simp) ?_; simp -implicitDefEqProofs (maxSteps := 1000000) [h0, bsizeL])
      | (refine yl_pureG rfl rfl rfl (by first | assumption | kernel_rfl) rfl (fun hc => by first | exact hT) (by simp) (by simp) (by simp) ?_; simp -implicitDefEqProofs (maxSteps := 1000000) [h0, bsizeL])
      | (refine awl_pure' [5] rfl rfl rfl (by first | assumption | kernel_rfl) rfl (by first | exact hT) (by simp) (by simp) ?_; simp -implicitDefEqProofs (maxSteps := 1000000) [h0, bsizeL])
      | (refine yl_pure rfl rfl rfl (by first | assumption | kernel_rfl) rfl (by first | exact hT) (by simp) (by simp) ?_; simp -implicitDefEqProofs (maxSteps := 1000000) [h0, bsizeL])
      | (refine aw_cond rfl (fun h => ?_) (fun h => ?_) <;> try (with_reducible first | exact ff_tt h | exact tt_ff h))
      | (refine aw_skip ?_; simp -implicitDefEqProofs (maxSteps := 1000000) [h0, bsizeL])
      | refine aw_block ?_
      | (refine aw_exit ?_; simp -implicitDefEqProofs (maxSteps := 1000000) [h0, bsizeL])
      | refine aw_ret (ret_of (.inr rfl) (by simp [Tryd.results10]; rfl) (Fin.of ?_)))
    rfl
end Go.AL
