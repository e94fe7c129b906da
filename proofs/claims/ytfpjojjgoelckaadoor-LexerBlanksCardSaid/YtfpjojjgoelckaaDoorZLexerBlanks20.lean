/- Parts of the proof of LexerBlanks: the logic, contracts, plain laws. -/
import Derived.Test.YtfpjojjgoelckaaDoorZLexerBlanks19
/-! Contracts: lexer.next. -/
namespace Go.AL
open Go.Proofs
set_option linter.unusedSimpArgs false
set_option linter.unusedVariables false
/-- A token but for where it stands, and how long it is; 0: there is none. -/
structure Tok where
  k : Int
  n : Int
  c : Int
  r : Int
  t : ByteArray
  len : Nat
def Tok.av (x : Tok) (f : Int) : AV := token x.k x.n x.c x.r x.t f
def noTok : Tok := ⟨0, 0, 0, 0, ⟨#[]⟩, 0⟩
instance (t : ByteArray) : Decidable (isWord t) := by unfold isWord; infer_instance
def placeTok (s : ByteArray) (c r e : Int) : Tok := ⟨if e = 0 then 2 else if e = 4 then 3 else 0, 0, if e = 0 then c else 0, if e = 0 then r else 0, ⟨#[]⟩, if e = 0 ∨ e = 4 then leadL nameR s else 0⟩
def nextT (s : ByteArray) (b : UInt8) : Tok :=
  if figR b.toNat = true then (match Lib.atoiAll (leadS figR s).data.toList with | .ok v => ⟨1, v, 0, 0, ⟨#[]⟩, leadL figR s⟩ | _ => noTok)
  else if letR b.toNat = true then (if isWord (leadS nameR s) then ⟨4, 0, 0, 0, leadS nameR s, leadL nameR s⟩
    else placeTok s (z (parseB (leadS nameR s)) (atC (parseI (leadS nameR s)))) (z (parseB (leadS nameR s)) (atR (parseI (leadS nameR s)))) (parseE (leadS nameR s)))
  else if hasPre s ⟨#[35, 82, 69, 70]⟩ = true then ⟨3, 0, 0, 0, ⟨#[]⟩, 4⟩
  else ⟨if markN s.data.toList = 0 then 0 else 5, 0, 0, 0, s.extract 0 (markN s.data.toList), markN s.data.toList⟩
set_option maxHeartbeats 4000000 in
set_option maxRecDepth 100000 in
theorem next_of (b : UInt8) (l : List UInt8) (hs : l.length + 1 ≤ 281474976710656) (x : Tok) (hx : x = nextT ⟨⟨b :: l⟩⟩ b) : APure Tryd.prog 11 [vs ⟨⟨b :: l⟩⟩] (.tup [x.av 0, vi (x.len : Nat)]) := by
  have hsz : (⟨⟨b :: l⟩⟩ : ByteArray).size ≤ 281474976710656 := by simp [bsizeL]; omega
  have wi : IntKind.i32.wrap (b.toNat : Int) = (b.toNat : Int) := by
    have := b.toNat_lt
    simp only [IntKind.wrap, IntKind.bits, IntKind.signed]
    simp
    omega
  have hfg := figure_ok (b.toNat : Int)
  have hlt := letter_ok (b.toNat : Int)
  have hmk := mark_ok b l hs
  have hpr := pre_ok ⟨⟨b :: l⟩⟩ ⟨#[35, 82, 69, 70]⟩ (by omega)
  by_cases hf : figR (b.toNat : Int) = true
  · rw [hf] at hfg
    by_cases hok : ∃ v, Lib.atoiAll (leadS figR ⟨⟨b :: l⟩⟩).data.toList = .ok v
    · obtain ⟨v, hv⟩ := hok
      have hn := number_yes _ hsz v hv
      have hx' : x = ⟨1, v, 0, 0, ⟨#[]⟩, leadL figR ⟨⟨b :: l⟩⟩⟩ := by rw [hx, nextT, if_pos hf, hv]
      subst hx'
      refine apure_of Tryd.func11 Tryd.ntmps11 rfl ?_
      simp only [List.length_cons, List.length_nil, List.cons_append, List.nil_append, List.replicate]
      repeat' (first
        | refine aw_seq ?_
        | (refine aw_run [2] ?_; simp -implicitDefEqProofs (maxSteps := 1000000) [bsizeL, wi])
        | (refine aw_ymix [2] draws (by decide +kernel) ?_; simp -implicitDefEqProofs (maxSteps := 1000000) [bsizeL, wi])
        | (refine aw_yrun draws (by kernel_rfl) ?_; simp -implicitDefEqProofs (maxSteps := 1000000) [bsizeL, wi])
        | (refine awl_skip' [2] rfl ?_; simp -implicitDefEqProofs (maxSteps := 1000000) [bsizeL, wi])
        | (refine awl_pure_guard [2] rfl rfl rfl (by first | assumption | kernel_rfl) rfl (fun hc => by first | exact hfg | exact hn) (by simp) (by simp) (by simp) ?_; simp -implicitDefEqProofs (maxSteps := 1000000) [bsizeL, wi])
        | (refine yl_pureG rfl rfl rfl (by first | assumption | kernel_rfl) rfl (fun hc => by first | exact hfg | exact hn) (by simp) (by simp) (by simp) ?_; simp -implicitDefEqProofs (maxSteps := 1000000) [bsizeL, wi])
        | (refine awl_pure' [2] rfl rfl rfl (by first | assumption | kernel_rfl) rfl (by first | exact hfg | exact hn) (by simp) (by simp) ?_; simp -implicitDefEqProofs (maxSteps := 1000000) [bsizeL, wi])
        | (refine yl_pure rfl rfl rfl (by first | assumption | kernel_rfl) rfl (by first | exact hfg | exact hn) (by simp) (by simp) ?_; simp -implicitDefEqProofs (maxSteps := 1000000) [bsizeL, wi])
        | (refine aw_cond rfl (fun h => ?_) (fun h => ?_) <;> try (with_reducible first | exact ff_tt h | exact tt_ff h))
        | (refine aw_skip ?_; simp -implicitDefEqProofs (maxSteps := 1000000) [bsizeL, wi])
        | refine aw_block ?_
        | (refine aw_exit ?_; simp -implicitDefEqProofs (maxSteps := 1000000) [bsizeL, wi])
        | refine aw_ret (ret_of (.inr rfl) (by simp [Tryd.results11]; rfl) (Fin.of ?_)))
      rfl
    · have hn := number_no _ hsz (fun v hv => hok ⟨v, hv⟩)
      have hx' : x = noTok := by
        rw [hx, nextT, if_pos hf]
        split
        · rename_i v hv; exact absurd ⟨v, hv⟩ hok
        · rfl
      subst hx'
      refine apure_of Tryd.func11 Tryd.ntmps11 rfl ?_
      simp only [List.length_cons, List.length_nil, List.cons_append, List.nil_append, List.replicate]
      repeat' (first
        | refine aw_seq ?_
        | (refine aw_run [2] ?_; simp -implicitDefEqProofs (maxSteps := 1000000) [bsizeL, wi])
        | (refine aw_ymix [2] draws (by decide +kernel) ?_; simp -implicitDefEqProofs (maxSteps := 1000000) [bsizeL, wi])
        | (refine aw_yrun draws (by kernel_rfl) ?_; simp -implicitDefEqProofs (maxSteps := 1000000) [bsizeL, wi])
        | (refine awl_skip' [2] rfl ?_; simp -implicitDefEqProofs (maxSteps := 1000000) [bsizeL, wi])
        | (refine awl_pure_guard [2] rfl rfl rfl (by first | assumption | kernel_rfl) rfl (fun hc => by first | exact hfg | exact hn) (by simp) (by simp) (by simp) ?_; simp -implicitDefEqProofs (maxSteps := 1000000) [bsizeL, wi])
        | (refine yl_pureG rfl rfl rfl (by first | assumption | kernel_rfl) rfl (fun hc => by first | exact hfg | exact hn) (by simp) (by simp) (by simp) ?_; simp -implicitDefEqProofs (maxSteps := 1000000) [bsizeL, wi])
        | (refine awl_pure' [2] rfl rfl rfl (by first | assumption | kernel_rfl) rfl (by first | exact hfg | exact hn) (by simp) (by simp) ?_; simp -implicitDefEqProofs (maxSteps := 1000000) [bsizeL, wi])
        | (refine yl_pure rfl rfl rfl (by first | assumption | kernel_rfl) rfl (by first | exact hfg | exact hn) (by simp) (by simp) ?_; simp -implicitDefEqProofs (maxSteps := 1000000) [bsizeL, wi])
        | (refine aw_cond rfl (fun h => ?_) (fun h => ?_) <;> try (with_reducible first | exact ff_tt h | exact tt_ff h))
        | (refine aw_skip ?_; simp -implicitDefEqProofs (maxSteps := 1000000) [bsizeL, wi])
        | refine aw_block ?_
        | (refine aw_exit ?_; simp -implicitDefEqProofs (maxSteps := 1000000) [bsizeL, wi])
        | refine aw_ret (ret_of (.inr rfl) (by simp [Tryd.results11]; rfl) (Fin.of ?_)))
      rfl
  have hf' : figR (b.toNat : Int) = false := by simpa using hf
  rw [hf'] at hfg
  by_cases hl : letR (b.toNat : Int) = true
  · rw [hl] at hlt
    by_cases hw : isWord (leadS nameR ⟨⟨b :: l⟩⟩)
    · have hn := name_word _ hsz hw
      have hx' : x = ⟨4, 0, 0, 0, leadS nameR ⟨⟨b :: l⟩⟩, leadL nameR ⟨⟨b :: l⟩⟩⟩ := by rw [hx, nextT, if_neg hf, if_pos hl, if_pos hw]
      subst hx'
      refine apure_of Tryd.func11 Tryd.ntmps11 rfl ?_
      simp only [List.length_cons, List.length_nil, List.cons_append, List.nil_append, List.replicate]
      repeat' (first
        | refine aw_seq ?_
        | (refine aw_run [2] ?_; simp -implicitDefEqProofs (maxSteps := 1000000) [bsizeL, wi])
        | (refine aw_ymix [2] draws (by decide +kernel) ?_; simp -implicitDefEqProofs (maxSteps := 1000000) [bsizeL, wi])
        | (refine aw_yrun draws (by kernel_rfl) ?_; simp -implicitDefEqProofs (maxSteps := 1000000) [bsizeL, wi])
        | (refine awl_skip' [2] rfl ?_; simp -implicitDefEqProofs (maxSteps := 1000000) [bsizeL, wi])
        | (refine awl_pure_guard [2] rfl rfl rfl (by first | assumption | kernel_rfl) rfl (fun hc => by first | exact hfg | exact hlt | exact hn) (by simp) (by simp) (by simp) ?_; simp -implicitDefEqProofs (maxSteps := 1000000) [bsizeL, wi])
        | (refine yl_pureG rfl rfl rfl (by first | assumption | kernel_rfl) rfl (fun hc => by first | exact hfg | exact hlt | exact hn) (by simp) (by simp) (by simp) ?_; simp -implicitDefEqProofs (maxSteps := 1000000) [bsizeL, wi])
        | (refine awl_pure' [2] rfl rfl rfl (by first | assumption | kernel_rfl) rfl (by first | exact hfg | exact hlt | exact hn) (by simp) (by simp) ?_; simp -implicitDefEqProofs (maxSteps := 1000000) [bsizeL, wi])
        | (refine yl_pure rfl rfl rfl (by first | assumption | kernel_rfl) rfl (by first | exact hfg | exact hlt | exact hn) (by simp) (by simp) ?_; simp -implicitDefEqProofs (maxSteps := 1000000) [bsizeL, wi])
        | (refine aw_cond rfl (fun h => ?_) (fun h => ?_) <;> try (with_reducible first | exact ff_tt h | exact tt_ff h))
        | (refine aw_skip ?_; simp -implicitDefEqProofs (maxSteps := 1000000) [bsizeL, wi])
        | refine aw_block ?_
        | (refine aw_exit ?_; simp -implicitDefEqProofs (maxSteps := 1000000) [bsizeL, wi])
        | refine aw_ret (ret_of (.inr rfl) (by simp [Tryd.results11]; rfl) (Fin.of ?_)))
      rfl
    · have hz : (leadS nameR ⟨⟨b :: l⟩⟩).size ≤ 9223372036854775807 := by unfold leadS; rw [ByteArray.size_extract]; omega
      have hn := name_place _ hsz hw _ _ _ (parse_ok (leadS nameR ⟨⟨b :: l⟩⟩) hz)
      rw [nextT, if_neg hf, if_pos hl, if_neg hw] at hx
      generalize z (parseB (leadS nameR ⟨⟨b :: l⟩⟩)) (atC (parseI (leadS nameR ⟨⟨b :: l⟩⟩))) = pc at *
      generalize z (parseB (leadS nameR ⟨⟨b :: l⟩⟩)) (atR (parseI (leadS nameR ⟨⟨b :: l⟩⟩))) = pr at *
      generalize parseE (leadS nameR ⟨⟨b :: l⟩⟩) = e at *
      have hlen : (x.len : Int) = if e = 0 ∨ e = 4 then ((leadL nameR ⟨⟨b :: l⟩⟩ : Nat) : Int) else 0 := by
        rw [hx]; unfold placeTok; simp only []; split <;> rfl
      rw [hlen]
      subst hx
      refine apure_of Tryd.func11 Tryd.ntmps11 rfl ?_
      simp only [List.length_cons, List.length_nil, List.cons_append, List.nil_append, List.replicate]
      repeat' (first
        | refine aw_seq ?_
        | (refine aw_run [2] ?_; simp -implicitDefEqProofs (maxSteps := 1000000) [bsizeL, wi])
        | (refine aw_ymix [2] draws (by decide +kernel) ?_; simp -implicitDefEqProofs (maxSteps := 1000000) [bsizeL, wi])
        | (refine aw_yrun draws (by kernel_rfl) ?_; simp -implicitDefEqProofs (maxSteps := 1000000) [bsizeL, wi])
        | (refine awl_skip' [2] rfl ?_; simp -implicitDefEqProofs (maxSteps := 1000000) [bsizeL, wi])
        | (refine awl_pure_guard [2] rfl rfl rfl (by first | assumption | kernel_rfl) rfl (fun hc => by first | exact hfg | exact hlt | exact hn) (by simp) (by simp) (by simp) ?_; simp -implicitDefEqProofs (maxSteps := 1000000) [bsizeL, wi])
        | (refine yl_pureG rfl rfl rfl (by first | assumption | kernel_rfl) rfl (fun hc => by first | exact hfg | exact hlt | exact hn) (by simp) (by simp) (by simp) ?_; simp -implicitDefEqProofs (maxSteps := 1000000) [bsizeL, wi])
        | (refine awl_pure' [2] rfl rfl rfl (by first | assumption | kernel_rfl) rfl (by first | exact hfg | exact hlt | exact hn) (by simp) (by simp) ?_; simp -implicitDefEqProofs (maxSteps := 1000000) [bsizeL, wi])
        | (refine yl_pure rfl rfl rfl (by first | assumption | kernel_rfl) rfl (by first | exact hfg | exact hlt | exact hn) (by simp) (by simp) ?_; simp -implicitDefEqProofs (maxSteps := 1000000) [bsizeL, wi])
        | (refine aw_cond rfl (fun h => ?_) (fun h => ?_) <;> try (with_reducible first | exact ff_tt h | exact tt_ff h))
        | (refine aw_skip ?_; simp -implicitDefEqProofs (maxSteps := 1000000) [bsizeL, wi])
        | refine aw_block ?_
        | (refine aw_exit ?_; simp -implicitDefEqProofs (maxSteps := 1000000) [bsizeL, wi])
        | refine aw_ret (ret_of (.inr rfl) (by simp [Tryd.results11]; rfl) (Fin.of ?_)))
      rfl
  have hl' : letR (b.toNat : Int) = false := by simpa using hl
  rw [hl'] at hlt
  cases hp : hasPre ⟨⟨b :: l⟩⟩ ⟨#[35, 82, 69, 70]⟩ with
  | true =>
    rw [hp] at hpr
    have hx' : x = ⟨3, 0, 0, 0, ⟨#[]⟩, 4⟩ := by rw [hx, nextT, if_neg hf, if_neg hl, if_pos hp]
    subst hx'
    refine apure_of Tryd.func11 Tryd.ntmps11 rfl ?_
    simp only [List.length_cons, List.length_nil, List.cons_append, List.nil_append, List.replicate]
    repeat' (first
      | refine aw_seq ?_
      | (refine aw_run [2] ?_; simp -implicitDefEqProofs (maxSteps := 1000000) [bsizeL, wi])
      | (refine aw_ymix [2] draws (by decide +kernel) ?_; simp -implicitDefEqProofs (maxSteps := 1000000) [bsizeL, wi])
      | (refine aw_yrun draws (by kernel_rfl) ?_; simp -implicitDefEqProofs (maxSteps := 1000000) [bsizeL, wi])
      | (refine awl_skip' [2] rfl ?_; simp -implicitDefEqProofs (maxSteps := 1000000) [bsizeL, wi])
      | (refine awl_pure_guard [2] rfl rfl rfl (by first | assumption | kernel_rfl) rfl (fun hc => by first | exact hfg | exact hlt | exact hpr) (by simp) (by simp) (by simp) ?_; simp -implicitDefEqProofs (maxSteps := 1000000) [bsizeL, wi])
      | (refine yl_pureG rfl rfl rfl (by first | assumption | kernel_rfl) rfl (fun hc => by first | exact hfg | exact hlt | exact hpr) (by simp) (by simp) (by simp) ?_; simp -implicitDefEqProofs (maxSteps := 1000000) [bsizeL, wi])
      | (refine awl_pure' [2] rfl rfl rfl (by first | assumption | kernel_rfl) rfl (by first | exact hfg | exact hlt | exact hpr) (by simp) (by simp) ?_; simp -implicitDefEqProofs (maxSteps := 1000000) [bsizeL, wi])
      | (refine yl_pure rfl rfl rfl (by first | assumption | kernel_rfl) rfl (by first | exact hfg | exact hlt | exact hpr) (by simp) (by simp) ?_; simp -implicitDefEqProofs (maxSteps := 1000000) [bsizeL, wi])
      | (refine aw_cond rfl (fun h => ?_) (fun h => ?_) <;> try (with_reducible first | exact ff_tt h | exact tt_ff h))
      | (refine aw_skip ?_; simp -implicitDefEqProofs (maxSteps := 1000000) [bsizeL, wi])
      | refine aw_block ?_
      | (refine aw_exit ?_; simp -implicitDefEqProofs (maxSteps := 1000000) [bsizeL, wi])
      | refine aw_ret (ret_of (.inr rfl) (by simp [Tryd.results11]; rfl) (Fin.of ?_)))
    rfl
  | false =>
    rw [hp] at hpr
    have hx' : x = ⟨if markN (b :: l) = 0 then 0 else 5, 0, 0, 0, (⟨⟨b :: l⟩⟩ : ByteArray).extract 0 (markN (b :: l)), markN (b :: l)⟩ := by rw [hx, nextT, if_neg hf, if_neg hl, if_neg (by rw [hp]; decide)]
    subst hx'
    refine apure_of Tryd.func11 Tryd.ntmps11 rfl ?_
    simp only [List.length_cons, List.length_nil, List.cons_append, List.nil_append, List.replicate]
    repeat' (first
      | refine aw_seq ?_
      | (refine aw_run [2] ?_; simp -implicitDefEqProofs (maxSteps := 1000000) [bsizeL, wi])
      | (refine aw_ymix [2] draws (by decide +kernel) ?_; simp -implicitDefEqProofs (maxSteps := 1000000) [bsizeL, wi])
      | (refine aw_yrun draws (by kernel_rfl) ?_; simp -implicitDefEqProofs (maxSteps := 1000000) [bsizeL, wi])
      | (refine awl_skip' [2] rfl ?_; simp -implicitDefEqProofs (maxSteps := 1000000) [bsizeL, wi])
      | (refine awl_pure_guard [2] rfl rfl rfl (by first | assumption | kernel_rfl) rfl (fun hc => by first | exact hfg | exact hlt | exact hpr | exact hmk) (by simp) (by simp) (by simp) ?_; simp -implicitDefEqProofs (maxSteps := 1000000) [bsizeL, wi])
      | (refine yl_pureG rfl rfl rfl (by first | assumption | kernel_rfl) rfl (fun hc => by first | exact hfg | exact hlt | exact hpr | exact hmk) (by simp) (by simp) (by simp) ?_; simp -implicitDefEqProofs (maxSteps := 1000000) [bsizeL, wi])
      | (refine awl_pure' [2] rfl rfl rfl (by first | assumption | kernel_rfl) rfl (by first | exact hfg | exact hlt | exact hpr | exact hmk) (by simp) (by simp) ?_; simp -implicitDefEqProofs (maxSteps := 1000000) [bsizeL, wi])
      | (refine yl_pure rfl rfl rfl (by first | assumption | kernel_rfl) rfl (by first | exact hfg | exact hlt | exact hpr | exact hmk) (by simp) (by simp) ?_; simp -implicitDefEqProofs (maxSteps := 1000000) [bsizeL, wi])
      | (refine aw_cond rfl (fun h => ?_) (fun h => ?_) <;> try (with_reducible first | exact ff_tt h | exact tt_ff h))
      | (refine aw_skip ?_; simp -implicitDefEqProofs (maxSteps := 1000000) [bsizeL, wi])
      | refine aw_block ?_
      | (refine aw_exit ?_; simp -implicitDefEqProofs (maxSteps := 1000000) [bsizeL, wi])
      | refine aw_ret (ret_of (.inr rfl) (by simp [Tryd.results11]; rfl) (Fin.of ?_)))
    rfl
end Go.AL
