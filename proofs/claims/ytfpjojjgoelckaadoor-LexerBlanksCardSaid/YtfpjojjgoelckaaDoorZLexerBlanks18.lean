/- Parts of the proof of LexerBlanks: the logic, contracts, plain laws. -/
import Derived.Test.YtfpjojjgoelckaaDoorZLexerBlanks14
import Derived.Test.YtfpjojjgoelckaaDoorZLexerBlanks16
import Derived.Test.YtfpjojjgoelckaaDoorYDec
/-! Contracts: place.Parse. -/
namespace Go.AL
open Go.Proofs Go.Proofs.YtfpjojjgoelckaaDoor.Dec Go.Lib
set_option linter.unusedSimpArgs false
set_option linter.unusedVariables false
theorem itoa_pos {n : Int} (h : 0 ≤ n) : itoa n = decDigits n.toNat := by unfold itoa; rw [if_neg (by omega)]
theorem textP_list {x y : Int} (h : rightP x y = true) : (textP x y).data.toList = UInt8.ofNat (65 + x).toNat :: decDigits (y + 1).toNat := by
  have hb := rightP_iff'.1 h
  rw [← textQ_eq, textQ, if_pos h, itoa_pos (by omega)]
  simp [strOf]
theorem fig_digit (x : UInt8) : digitB x = fig x := by
  unfold digitB fig
  by_cases h : 48 ≤ x.toNat <;> by_cases h2 : x.toNat ≤ 57 <;> simp [h, h2] <;> omega
theorem textP_iff {s : ByteArray} {c : UInt8} {d : List UInt8} (e : s.data.toList = c :: d) (hd : d ≠ []) (hl : d.length ≤ 3) (hf : d.all fig = true) (h48 : ∀ x, d.head? = some x → x.toNat ≠ 48) {x y : Int} (hp : rightP x y = true) :
    textP x y = s ↔ (x = (c.toNat : Int) - 65 ∧ y = (fval 0 d : Int) - 1) := by
  have hb := rightP_iff'.1 hp
  have hc : decDigits (fval 0 d) = d := dec_canon d.length d rfl hd hf (fun z hz h => absurd h (h48 z hz))
  have hq : textP x y = s ↔ (textP x y).data.toList = s.data.toList := ⟨fun h => by rw [h], fun h => by
    cases hs : s; cases ht : textP x y
    rw [hs, ht] at h
    simpa using h⟩
  rw [hq, e, textP_list hp]
  constructor
  · intro h
    obtain ⟨h1, h2⟩ := List.cons.inj h
    have h3 : (UInt8.ofNat (65 + x).toNat).toNat = c.toNat := by rw [h1]
    rw [u8_of _ (by omega)] at h3
    have h4 := congrArg (fval 0) h2
    rw [dec_val] at h4
    exact ⟨by omega, by omega⟩
  · rintro ⟨h1, h2⟩
    rw [u8_eq (c := c) (by omega) (by omega), show (y + 1).toNat = fval 0 d from by omega, hc]
theorem atC_nat {i : Nat} (h : i < 1024) : atC (i : Int) = ((i % 16 : Nat) : Int) := by unfold atC; rw [if_pos (by omega)]; omega
theorem atR_nat {i : Nat} (h : i < 1024) : atR (i : Int) = ((i / 16 : Nat) : Int) := by unfold atR; rw [if_pos (by omega)]; omega
theorem at_right {i : Nat} (h : i < 1024) : rightP (atC (i : Int)) (atR (i : Int)) = true := by rw [atC_nat h, atR_nat h]; exact rightP_iff'.2 (by omega)
theorem findT_yes {s : ByteArray} {c : UInt8} {d : List UInt8} (e : s.data.toList = c :: d) (hd : d ≠ []) (hl : d.length ≤ 3) (hf : d.all fig = true) (h48 : ∀ x, d.head? = some x → x.toNat ≠ 48)
    (hr : rightP ((c.toNat : Int) - 65) ((fval 0 d : Int) - 1) = true) : findT s = some ((fval 0 d - 1) * 16 + (c.toNat - 65)) := by
  have hb := rightP_iff'.1 hr
  unfold findT
  rw [List.find?_range_eq_some]
  refine ⟨?_, by simp; omega, fun j hj => ?_⟩
  · refine decide_eq_true ((textP_iff e hd hl hf h48 (at_right (by omega))).2 ?_)
    rw [atC_nat (by omega), atR_nat (by omega)]
    omega
  · have : ¬ textP (atC (j : Int)) (atR (j : Int)) = s := fun hh => by
      have := (textP_iff e hd hl hf h48 (at_right (by omega))).1 hh
      rw [atC_nat (by omega), atR_nat (by omega)] at this
      omega
    simp [isText, this]
theorem findT_no {s : ByteArray} {c : UInt8} {d : List UInt8} (e : s.data.toList = c :: d) (hd : d ≠ []) (hl : d.length ≤ 3) (hf : d.all fig = true) (h48 : ∀ x, d.head? = some x → x.toNat ≠ 48)
    (hr : rightP ((c.toNat : Int) - 65) ((fval 0 d : Int) - 1) = false) : findT s = none := by
  unfold findT
  rw [List.find?_range_eq_none]
  intro j hj
  have : ¬ textP (atC (j : Int)) (atR (j : Int)) = s := fun hh => by
    have h1 := at_right hj
    obtain ⟨g1, g2⟩ := (textP_iff e hd hl hf h48 h1).1 hh
    rw [g1, g2, hr] at h1
    cases h1
  simp [isText, this]
set_option maxRecDepth 100000 in
theorem parse_ok (s : ByteArray) (hsz : s.size ≤ 9223372036854775807) : APure Tryd.prog 35 [vs s] (.tup [place (z (parseB s) (atC (parseI s))) (z (parseB s) (atR (parseI s))), vi (parseE s)]) := by
  cases hF : formedP s with
  | false =>
    refine apure_of Tryd.func35 Tryd.ntmps35 rfl ?_
    simp only [List.length_cons, List.length_nil, List.cons_append, List.nil_append, List.replicate]
    repeat' (first
      | refine aw_seq ?_
      | (refine aw_run [2, 6] ?_; simp -implicitDefEqProofs (maxSteps := 1000000) [hF])
      | (refine aw_ymix [2, 6] draws (by decide +kernel) ?_; simp -implicitDefEqProofs (maxSteps := 1000000) [hF])
      | (refine aw_yrun draws (by kernel_rfl) ?_; simp -implicitDefEqProofs (maxSteps := 1000000) [hF])
      | (refine awl_skip' [2, 6] rfl ?_; simp -implicitDefEqProofs (maxSteps := 1000000) [hF])
      | (refine awl_pure_guard [2, 6] rfl rfl rfl (by first | assumption | kernel_rfl) rfl (fun hc => by first | exact formed_ok s hsz) (by simp) (by simp) (by simp) ?_; simp -implicitDefEqProofs (maxSteps := 1000000) [hF])
      | (refine yl_pureG rfl rfl rfl (by first | assumption | kernel_rfl) rfl (fun hc => by first | exact formed_ok s hsz) (by simp) (by simp) (by simp) ?_; simp -implicitDefEqProofs (maxSteps := 1000000) [hF])
      | (refine awl_pure' [2, 6] rfl rfl rfl (by first | assumption | kernel_rfl) rfl (by first | exact formed_ok s hsz) (by simp) (by simp) ?_; simp -implicitDefEqProofs (maxSteps := 1000000) [hF])
      | (refine yl_pure rfl rfl rfl (by first | assumption | kernel_rfl) rfl (by first | exact formed_ok s hsz) (by simp) (by simp) ?_; simp -implicitDefEqProofs (maxSteps := 1000000) [hF])
      | (refine aw_cond rfl (fun h => ?_) (fun h => ?_) <;> try (with_reducible first | exact ff_tt h | exact tt_ff h))
      | (refine aw_skip ?_; simp -implicitDefEqProofs (maxSteps := 1000000) [hF])
      | refine aw_block ?_
      | (refine aw_exit ?_; simp -implicitDefEqProofs (maxSteps := 1000000) [hF])
      | refine aw_ret (ret_of (.inr rfl) (by simp [Tryd.results35]; rfl) (Fin.of ?_)))
    simp [tupOf, parseB, parseE, hF]
  | true =>
    have hform := formed_ok s hsz
    rw [hF] at hform
    obtain ⟨⟨l⟩⟩ := s
    have hF' := hF
    unfold formedP at hF'
    match l, hF' with
    | c :: b :: t, hF' =>
      have hd : b :: t ≠ [] := by simp
      simp [formedL] at hF'
      have hl : (b :: t).length ≤ 3 := by simp; omega
      have hf : (b :: t).all fig = true := by
        simp [← fig_digit]; exact ⟨hF'.2.1, hF'.2.2⟩
      have h48 : ∀ x, (b :: t).head? = some x → x.toNat ≠ 48 := by
        intro x hx; simp at hx; subst hx; omega
      have e : (⟨⟨c :: b :: t⟩⟩ : ByteArray).data.toList = c :: b :: t := rfl
      have hv := fval_lt 0 (b :: t) hf
      have hp : 10 ^ (b :: t).length ≤ 10 ^ 3 := Nat.pow_le_pow_right (by omega) hl
      have hat : Lib.atoiAll (b :: t) = .ok (fval 0 (b :: t) : Int) := by rw [atoi_plain hd hf (by omega), if_neg (by omega)]
      obtain ⟨v, hvv⟩ : ∃ v, v = fval 0 (b :: t) := ⟨_, rfl⟩
      rw [← hvv] at hat hv
      have hw : IntKind.i64.wrap ((v : Int) - 1) = (v : Int) - 1 := wrap_id (by omega) (by omega)
      have hw2 : IntKind.u8.wrap ((c.toNat : Int) - 65) = (c.toNat : Int) - 65 := bwrap_id (by omega) (by omega)
      have hw3 : IntKind.i64.wrap ((c.toNat : Int) - 65) = (c.toNat : Int) - 65 := wrap_id (by omega) (by omega)
      refine apure_of Tryd.func35 Tryd.ntmps35 rfl ?_
      simp only [List.length_cons, List.length_nil, List.cons_append, List.nil_append, List.replicate]
      have hex : (⟨⟨c :: b :: t⟩⟩ : ByteArray).extract 1 (t.length + 1 + 1) = ⟨⟨b :: t⟩⟩ := by
        rw [show t.length + 1 + 1 = (⟨⟨c :: b :: t⟩⟩ : ByteArray).size from rfl]
        apply ByteArray.ext
        simp [ByteArray.data_extract, bsize_mk]
      have hatoi := atoi_ok ⟨⟨b :: t⟩⟩ (by simp [bsize_mk] at hsz ⊢; omega) v hat
      repeat' (first
        | refine aw_seq ?_
        | (refine aw_run [2, 6] ?_; simp -implicitDefEqProofs (maxSteps := 1000000) [bsize_mk, bytesAV])
        | (refine aw_ymix [2, 6] draws (by decide +kernel) ?_; simp -implicitDefEqProofs (maxSteps := 1000000) [bsize_mk, bytesAV])
        | (refine aw_yrun draws (by kernel_rfl) ?_; simp -implicitDefEqProofs (maxSteps := 1000000) [bsize_mk, bytesAV])
        | (refine awl_skip' [2, 6] rfl ?_; simp -implicitDefEqProofs (maxSteps := 1000000) [bsize_mk, bytesAV])
        | (refine awl_pure_guard [2, 6] rfl rfl rfl (by first | assumption | kernel_rfl) rfl (fun hc => by first | exact hform) (by simp) (by simp) (by simp) ?_; simp -implicitDefEqProofs (maxSteps := 1000000) [bsize_mk, bytesAV])
        | (refine yl_pureG rfl rfl rfl (by first | assumption | kernel_rfl) rfl (fun hc => by first | exact hform) (by simp) (by simp) (by simp) ?_; simp -implicitDefEqProofs (maxSteps := 1000000) [bsize_mk, bytesAV])
        | (refine awl_pure' [2, 6] rfl rfl rfl (by first | assumption | kernel_rfl) rfl (by first | exact hform) (by simp) (by simp) ?_; simp -implicitDefEqProofs (maxSteps := 1000000) [bsize_mk, bytesAV])
        | (refine yl_pure rfl rfl rfl (by first | assumption | kernel_rfl) rfl (by first | exact hform) (by simp) (by simp) ?_; simp -implicitDefEqProofs (maxSteps := 1000000) [bsize_mk, bytesAV])
        | (refine aw_cond rfl (fun h => ?_) (fun h => ?_) <;> try (with_reducible first | exact ff_tt h | exact tt_ff h))
        | (refine aw_skip ?_; simp -implicitDefEqProofs (maxSteps := 1000000) [bsize_mk, bytesAV])
        | refine aw_block ?_
        | (refine aw_exit ?_; simp -implicitDefEqProofs (maxSteps := 1000000) [bsize_mk, bytesAV])
        | refine aw_ret (ret_of (.inr rfl) (by simp [Tryd.results35]; rfl) (Fin.of ?_)))
      rw [hex]
      refine awl_pure' [2] rfl rfl rfl (by kernel_rfl) rfl hatoi (by simp) (by simp) ?_
      simp -implicitDefEqProofs
      repeat' (first
        | refine aw_seq ?_
        | (refine aw_run [2, 6] ?_; simp -implicitDefEqProofs (maxSteps := 1000000) [bsize_mk, bytesAV, hw, hw2, hw3])
        | (refine aw_ymix [2, 6] draws (by decide +kernel) ?_; simp -implicitDefEqProofs (maxSteps := 1000000) [bsize_mk, bytesAV, hw, hw2, hw3])
        | (refine aw_yrun draws (by kernel_rfl) ?_; simp -implicitDefEqProofs (maxSteps := 1000000) [bsize_mk, bytesAV, hw, hw2, hw3])
        | (refine awl_skip' [2, 6] rfl ?_; simp -implicitDefEqProofs (maxSteps := 1000000) [bsize_mk, bytesAV, hw, hw2, hw3])
        | (refine awl_pure_guard [2, 6] rfl rfl rfl (by first | assumption | kernel_rfl) rfl (fun hc => by first | exact right_ok _ _) (by simp) (by simp) (by simp) ?_; simp -implicitDefEqProofs (maxSteps := 1000000) [bsize_mk, bytesAV, hw, hw2, hw3])
        | (refine yl_pureG rfl rfl rfl (by first | assumption | kernel_rfl) rfl (fun hc => by first | exact right_ok _ _) (by simp) (by simp) (by simp) ?_; simp -implicitDefEqProofs (maxSteps := 1000000) [bsize_mk, bytesAV, hw, hw2, hw3])
        | (refine awl_pure' [2, 6] rfl rfl rfl (by first | assumption | kernel_rfl) rfl (by first | exact right_ok _ _) (by simp) (by simp) ?_; simp -implicitDefEqProofs (maxSteps := 1000000) [bsize_mk, bytesAV, hw, hw2, hw3])
        | (refine yl_pure rfl rfl rfl (by first | assumption | kernel_rfl) rfl (by first | exact right_ok _ _) (by simp) (by simp) ?_; simp -implicitDefEqProofs (maxSteps := 1000000) [bsize_mk, bytesAV, hw, hw2, hw3])
        | (refine aw_cond rfl (fun h => ?_) (fun h => ?_) <;> try (with_reducible first | exact ff_tt h | exact tt_ff h))
        | (refine aw_skip ?_; simp -implicitDefEqProofs (maxSteps := 1000000) [bsize_mk, bytesAV, hw, hw2, hw3])
        | refine aw_block ?_
        | (refine aw_exit ?_; simp -implicitDefEqProofs (maxSteps := 1000000) [bsize_mk, bytesAV, hw, hw2, hw3])
        | refine aw_ret (ret_of (.inr rfl) (by simp [Tryd.results35]; rfl) (Fin.of ?_)))
      · have hr : rightP ((c.toNat : Int) - 65) ((fval 0 (b :: t) : Int) - 1) = false := by rw [← hvv]; simpa using h
        have hfd := findT_no e hd hl hf h48 hr
        simp [tupOf, parseB, parseE, hF, hfd]
      · have hr : rightP ((c.toNat : Int) - 65) ((fval 0 (b :: t) : Int) - 1) = true := by rw [← hvv]; simpa using h
        have hfd := findT_yes e hd hl hf h48 hr
        have hb := rightP_iff'.1 hr
        rw [← hvv] at hfd hb
        have hi : parseI ⟨⟨c :: b :: t⟩⟩ = (v - 1) * 16 + (c.toNat - 65) := by rw [parseI, hfd]; rfl
        have h1 : atC (parseI ⟨⟨c :: b :: t⟩⟩ : Nat) = (c.toNat : Int) - 65 := by rw [hi, atC_nat (by omega)]; omega
        have h2 : atR (parseI ⟨⟨c :: b :: t⟩⟩ : Nat) = (v : Int) - 1 := by rw [hi, atR_nat (by omega)]; omega
        have h3 : parseB ⟨⟨c :: b :: t⟩⟩ = true := by simp [parseB, hF, hfd]
        rw [h1, h2, h3]
        simp [tupOf, parseE, hF, hfd]
end Go.AL
