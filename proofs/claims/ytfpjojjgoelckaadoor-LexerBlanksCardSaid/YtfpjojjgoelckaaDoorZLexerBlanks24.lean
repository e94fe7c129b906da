/- Parts of the proof of LexerBlanks: the logic, contracts, plain laws. -/
import Derived.Test.YtfpjojjgoelckaaDoorZLexerBlanks23
/-! Contracts: gridironref04.mark. -/
namespace Go.AL
open Go.Proofs Go.Proofs.YtfpjojjgoelckaaDoor.Dec Go.Lib
set_option linter.unusedSimpArgs false
set_option linter.unusedVariables false
def markD (b d : UInt8) : Nat := if (b = 60 ∧ (d = 61 ∨ d = 62)) ∨ (b = 62 ∧ d = 61) then 2 else if b = 43 ∨ b = 45 ∨ b = 42 ∨ b = 47 ∨ b = 40 ∨ b = 41 ∨ b = 44 ∨ b = 58 ∨ b = 60 ∨ b = 61 ∨ b = 62 then 1 else 0
theorem extract_take (l : List UInt8) (n : Nat) : (⟨⟨l⟩⟩ : ByteArray).extract 0 n = ⟨⟨l.take n⟩⟩ := by
  apply ByteArray.ext
  simp [ByteArray.data_extract, List.take_of_length_le]
theorem hasPre_iff (l p : List UInt8) : hasPre ⟨⟨l⟩⟩ ⟨⟨p⟩⟩ = true ↔ l.take p.length = p := by
  simp only [hasPre, Bool.and_eq_true, decide_eq_true_eq, bsizeL, List.size_toArray, extract_take]
  constructor
  · rintro ⟨_, h⟩; simpa using h
  · intro h
    refine ⟨?_, by rw [h]⟩
    have := congrArg List.length h
    simp at this; omega
theorem markN_D (b : UInt8) (l : List UInt8) : markN (b :: l) = markD b (l.head?.getD 0) := by
  have h1 : (hasPre ⟨⟨l⟩⟩ ⟨#[61]⟩ = true) ↔ l.head?.getD 0 = 61 := by
    rw [hasPre_iff]
    cases l with
    | nil => simp
    | cons d l => simp
  have h2 : (hasPre ⟨⟨b :: l⟩⟩ ⟨#[60, 62]⟩ = true) ↔ b = 60 ∧ l.head?.getD 0 = 62 := by
    rw [hasPre_iff]
    cases l with
    | nil => simp
    | cons d l => simp
  simp only [markN, h1, h2, markD]
  generalize l.head?.getD 0 = d
  by_cases e : b = 60
  · subst e
    by_cases e1 : d = 61 <;> by_cases e2 : d = 62 <;> simp [e1, e2]
  · by_cases e : b = 62
    · subst e
      by_cases e1 : d = 61 <;> simp [e1]
    · simp [*]
theorem at0 (pre : List UInt8) (b : UInt8) (l : List UInt8) : (pre ++ b :: l)[pre.length]? = some b := by simp
theorem at1 (pre : List UInt8) (b d : UInt8) (l : List UInt8) : (pre ++ b :: d :: l)[pre.length + 1]? = some d := by simp
theorem cn (c : UInt8) (n : Nat) (hn : n < 256) : ((c.toNat : Int) = (n : Int)) ↔ c = UInt8.ofNat n := by
  constructor
  · intro h; apply UInt8.toNat_inj.1; rw [u8_of n hn]; omega
  · intro h; rw [h, u8_of n hn]
set_option maxHeartbeats 4000000 in
set_option maxRecDepth 100000 in
theorem rmark_ok (pre : List UInt8) (b : UInt8) (l : List UInt8) (hs : (pre ++ b :: l).length ≤ 281474976710656) :
    APure Tryd.prog 28 [vs ⟨⟨pre ++ b :: l⟩⟩, vi (pre.length : Nat)] (vi (markN (b :: l) : Nat)) := by
  have h1 : IntKind.i64.wrap ((pre.length : Int) + 1) = ((pre.length + 1 : Nat) : Int) := by simp at hs; rw [wrap_id (by omega) (by omega)]; omega
  have hp : (0 : Int) ≤ pre.length := by omega
  have h0 := at0 pre b l
  rw [markN_D]
  have q43 : ((b.toNat : Int) = 43) ↔ b = 43 := u8c (c := 43)
  have q45 : ((b.toNat : Int) = 45) ↔ b = 45 := u8c (c := 45)
  have q42 : ((b.toNat : Int) = 42) ↔ b = 42 := u8c (c := 42)
  have q47 : ((b.toNat : Int) = 47) ↔ b = 47 := u8c (c := 47)
  have q40 : ((b.toNat : Int) = 40) ↔ b = 40 := u8c (c := 40)
  have q41 : ((b.toNat : Int) = 41) ↔ b = 41 := u8c (c := 41)
  have q44 : ((b.toNat : Int) = 44) ↔ b = 44 := u8c (c := 44)
  have q58 : ((b.toNat : Int) = 58) ↔ b = 58 := u8c (c := 58)
  have q60 : ((b.toNat : Int) = 60) ↔ b = 60 := u8c (c := 60)
  have q61 : ((b.toNat : Int) = 61) ↔ b = 61 := u8c (c := 61)
  have q62 : ((b.toNat : Int) = 62) ↔ b = 62 := u8c (c := 62)
  cases l with
  | nil =>
    have d61 : True := trivial
    have d62 : True := trivial
    refine apure_of Tryd.func28 Tryd.ntmps28 rfl ?_
    simp only [List.length_cons, List.length_nil, List.cons_append, List.nil_append, List.replicate]
    repeat' (first
      | refine aw_seq ?_
      | (refine aw_run [] ?_; simp -implicitDefEqProofs (maxSteps := 1000000) [bsizeL, h1, hp, h0])
      | (refine aw_ymix [] draws (by decide +kernel) ?_; simp -implicitDefEqProofs (maxSteps := 1000000) [bsizeL, h1, hp, h0])
      | (refine aw_yrun draws (by kernel_rfl) ?_; simp -implicitDefEqProofs (maxSteps := 1000000) [bsizeL, h1, hp, h0])
      | (refine awl_skip' [] rfl ?_; simp -implicitDefEqProofs (maxSteps := 1000000) [bsizeL, h1, hp, h0])
      | (refine aw_cond rfl (fun h => ?_) (fun h => ?_) <;> try (with_reducible first | exact ff_tt h | exact tt_ff h))
      | (refine aw_skip ?_; simp -implicitDefEqProofs (maxSteps := 1000000) [bsizeL, h1, hp, h0])
      | refine aw_block ?_
      | (refine aw_exit ?_; simp -implicitDefEqProofs (maxSteps := 1000000) [bsizeL, h1, hp, h0])
      | refine aw_ret (ret_of (.inr rfl) (by simp [Tryd.results28]; rfl) (Fin.of ?_)))
    all_goals first | (rename_i h _; simp at h; omega) | skip
    all_goals
      rename_i h
      simp [q43, q45, q42, q47, q40, q41, q44, q58, q60, q61, q62, d61, d62] at h
      simp only [tupOf, AV.p.injEq, Value.int.injEq, true_and]
      simp only [markD]
      grind
  | cons d l =>
    have h2 := at1 pre b d l
    have d61 : ((d.toNat : Int) = 61) ↔ d = 61 := u8c (c := 61)
    have d62 : ((d.toNat : Int) = 62) ↔ d = 62 := u8c (c := 62)
    refine apure_of Tryd.func28 Tryd.ntmps28 rfl ?_
    simp only [List.length_cons, List.length_nil, List.cons_append, List.nil_append, List.replicate]
    repeat' (first
      | refine aw_seq ?_
      | (refine aw_run [] ?_; simp -implicitDefEqProofs (maxSteps := 1000000) [bsizeL, h1, hp, h0, h2])
      | (refine aw_ymix [] draws (by decide +kernel) ?_; simp -implicitDefEqProofs (maxSteps := 1000000) [bsizeL, h1, hp, h0, h2])
      | (refine aw_yrun draws (by kernel_rfl) ?_; simp -implicitDefEqProofs (maxSteps := 1000000) [bsizeL, h1, hp, h0, h2])
      | (refine awl_skip' [] rfl ?_; simp -implicitDefEqProofs (maxSteps := 1000000) [bsizeL, h1, hp, h0, h2])
      | (refine aw_cond rfl (fun h => ?_) (fun h => ?_) <;> try (with_reducible first | exact ff_tt h | exact tt_ff h))
      | (refine aw_skip ?_; simp -implicitDefEqProofs (maxSteps := 1000000) [bsizeL, h1, hp, h0, h2])
      | refine aw_block ?_
      | (refine aw_exit ?_; simp -implicitDefEqProofs (maxSteps := 1000000) [bsizeL, h1, hp, h0, h2])
      | refine aw_ret (ret_of (.inr rfl) (by simp [Tryd.results28]; rfl) (Fin.of ?_)))
    all_goals first | (rename_i h _; simp at h; omega) | skip
    all_goals
      rename_i h
      simp [q43, q45, q42, q47, q40, q41, q44, q58, q60, q61, q62, d61, d62] at h
      simp only [tupOf, AV.p.injEq, Value.int.injEq, true_and]
      simp only [markD]
      grind
end Go.AL
