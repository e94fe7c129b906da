import Derived.Test.YtcicdckjlkekdaaDoorK01d
/-! Contracts: num.Parse. -/
namespace Go.AL
open Go.Proofs Go.Proofs.YtcicdckjlkekdaaDoor.Dec Go.Lib
set_option linter.unusedSimpArgs false
set_option linter.unusedVariables false
instance (a : Int) : Decidable (In64 a) := by unfold In64; infer_instance
def sgnL (m : Bool) (d : List UInt8) : List UInt8 := if m = true then 45 :: d else d
theorem splitS_eq (l : List UInt8) : sgnL (splitS l).1 (splitS l).2 = l := by
  unfold splitS; split <;> rfl
theorem splitS_fig {d : List UInt8} (m : Bool) (h : d.all fig = true) : splitS (sgnL m d) = (m, d) := by
  cases m with
  | true => rfl
  | false =>
    show splitS d = (false, d)
    unfold splitS; split
    · exact absurd (fig_head h (c := 45) rfl) (by decide)
    · rfl
theorem itoa_sgnL (v : Int) : itoa v = sgnL (decide (v < 0)) (decDigits v.natAbs) := by
  unfold itoa sgnL
  by_cases h : v < 0
  · rw [if_pos h, if_pos (by simpa using h)]
  · rw [if_neg h, if_neg (by simpa using h), show v.natAbs = v.toNat from by omega]
theorem canon_of {v : Int} (h : In64 v) : canonB (decide (v < 0)) (decDigits v.natAbs) = true := by
  unfold In64 at h
  refine canon_iff.2 ⟨dec_ne _, dec_len 18 _ (by simp only [Nat.reduceAdd, Nat.reducePow]; omega), fun hh => ?_, dec_all _⟩
  by_cases z : v = 0
  · subst z
    refine ⟨by decide, ?_⟩
    rw [show (0 : Int).natAbs = 0 from rfl, decDigits]; simp
  · have := dec_head v.natAbs (by omega) 48 hh
    exact absurd this (by decide)
theorem canon_atoi {m : Bool} {d : List UInt8} (h : canonB m d = true) :
    itoa (sgn m (fval 0 d)) = sgnL m d ∧ atoiAll (sgnL m d) = (if In64 (sgn m (fval 0 d)) then NumEnd.ok (sgn m (fval 0 d)) else NumEnd.range) := by
  obtain ⟨h0, h1, h2, h3⟩ := canon_iff.1 h
  have hv := fval_lt 0 d h3
  have hp : 10 ^ d.length ≤ 10 ^ 19 := Nat.pow_le_pow_right (by omega) h1
  simp only [Nat.reducePow] at hp
  have hd := dec_canon _ d rfl h0 h3 (fun c hc e => (h2 (by rw [hc]; congr 1; exact UInt8.toNat_inj.1 e)).2)
  constructor
  · cases m with
    | false =>
      rw [sgn, if_neg (by decide), itoa_sgnL, show decide ((fval 0 d : Int) < 0) = false from decide_eq_false (by omega)]
      show decDigits (fval 0 d : Int).natAbs = d
      rw [show (fval 0 d : Int).natAbs = fval 0 d from by omega, hd]
    | true =>
      have hpos : 0 < fval 0 d := by
        rcases Nat.eq_zero_or_pos (fval 0 d) with z | z
        · rw [z] at hd
          have : d = [48] := by rw [← hd, decDigits]; rfl
          have := h2 (by rw [this]; rfl)
          exact absurd this.1 (by decide)
        · exact z
      rw [sgn, if_pos rfl, itoa_sgnL, show decide (-(fval 0 d : Int) < 0) = true from decide_eq_true (by omega)]
      show 45 :: decDigits (-(fval 0 d : Int)).natAbs = 45 :: d
      rw [show (-(fval 0 d : Int)).natAbs = fval 0 d from by omega, hd]
  · cases m with
    | false =>
      show atoiAll d = _
      rw [atoi_plain h0 h3 (by omega), show sgn false (fval 0 d) = (fval 0 d : Int) from rfl]
      by_cases hI : In64 (fval 0 d : Int)
      · rw [if_pos hI]; unfold In64 at hI; rw [if_neg (by omega)]
      · rw [if_neg hI]; unfold In64 at hI; rw [if_pos (by omega)]
    | true =>
      show atoiAll (45 :: d) = _
      rw [atoi_minus h0 h3 (by omega), show sgn true (fval 0 d) = -(fval 0 d : Int) from rfl]
      by_cases hI : In64 (-(fval 0 d : Int))
      · rw [if_pos hI]; unfold In64 at hI; rw [if_neg (by omega)]
      · rw [if_neg hI]; unfold In64 at hI; rw [if_pos (by omega)]
theorem pB_yes {l : List UInt8} (h : pB l = true) : atoiAll l = .ok (pV l) ∧ itoa (pV l) = l := by
  have hv : pV l = sgn (splitS l).1 (fval 0 (splitS l).2) := by unfold pV; rw [h]; rfl
  unfold pB at h
  rw [Bool.and_eq_true, inI_iff] at h
  obtain ⟨h1, h2⟩ := canon_atoi h.1
  rw [if_pos h.2, splitS_eq] at h2
  rw [splitS_eq] at h1
  rw [hv]
  exact ⟨h2, h1⟩
theorem pB_no {l : List UInt8} (h : pB l = false) {v : Int} (hv : atoiAll l = .ok v) : itoa v ≠ l := by
  intro e
  have hb := atoiAll_bounds hv
  have hs := splitS_fig (decide (v < 0)) (dec_all v.natAbs)
  rw [← itoa_sgnL, e] at hs
  have hc := canon_of hb
  have hi : sgn (decide (v < 0)) (fval 0 (decDigits v.natAbs)) = v := by
    rw [dec_val]; unfold sgn; split <;> rename_i h3 <;> simp at h3 <;> omega
  have : pB l = true := by
    unfold pB
    rw [hs, hc, hi, inI_iff.2 hb]; rfl
  rw [h] at this; cases this
theorem bytes_iff (l : List UInt8) (s : ByteArray) : (⟨l.toArray⟩ : ByteArray) = s ↔ l = s.data.toList := by
  constructor
  · rintro rfl; rfl
  · rintro rfl; cases s; rfl
set_option maxRecDepth 100000 in
theorem nparse_ok (s : ByteArray) (hsz : s.size ≤ 281474976710656) : APure Tryd.prog 31 [vs s] (.tup [vi (pV s.data.toList), vb (pB s.data.toList)]) := by
  by_cases hok : ∃ v, atoiAll s.data.toList = .ok v
  · obtain ⟨v, hv⟩ := hok
    have ha := atoi_ok s hsz v hv
    have hb := atoiAll_bounds hv
    have ht := ntext_ok (a := v) hb
    have e : AV.tup [vi (z (true && decide ((⟨(itoa v).toArray⟩ : ByteArray) = s)) v), vb (true && decide ((⟨(itoa v).toArray⟩ : ByteArray) = s))] = .tup [vi (pV s.data.toList), vb (pB s.data.toList)] := by
      cases hp : pB s.data.toList with
      | true =>
        obtain ⟨h1, h2⟩ := pB_yes hp
        rw [hv] at h1
        cases h1
        rw [decide_eq_true ((bytes_iff _ _).2 h2)]
        rfl
      | false =>
        have h1 := pB_no hp hv
        rw [decide_eq_false (fun h => h1 ((bytes_iff _ _).1 h)), pV, hp]
        rfl
    rw [← e]
    refine apure_of Tryd.func31 Tryd.ntmps31 rfl ?_
    simp only [List.length_cons, List.length_nil, List.cons_append, List.nil_append, List.replicate]
    repeat' (first
      | refine aw_seq ?_
      | (refine aw_run [] ?_; simp -implicitDefEqProofs)
      | (refine aw_ymix [] draws (by decide +kernel) ?_; simp -implicitDefEqProofs)
      | (refine aw_yrun draws (by kernel_rfl) ?_; simp -implicitDefEqProofs)
      | (refine awl_skip' [] rfl ?_; simp -implicitDefEqProofs)
      | (refine awl_pure_guard [] rfl rfl rfl (by first | assumption | kernel_rfl) rfl (fun hc => by first | exact ha | exact ht | exact told2 _ _ _) (by simp) (by simp) (by simp) ?_; simp -implicitDefEqProofs)
      | (refine yl_pureG rfl rfl rfl (by first | assumption | kernel_rfl) rfl (fun hc => by first | exact ha | exact ht | exact told2 _ _ _) (by simp) (by simp) (by simp) ?_; simp -implicitDefEqProofs)
      | (refine awl_pure' [] rfl rfl rfl (by first | assumption | kernel_rfl) rfl (by first | exact ha | exact ht | exact told2 _ _ _) (by simp) (by simp) ?_; simp -implicitDefEqProofs)
      | (refine yl_pure rfl rfl rfl (by first | assumption | kernel_rfl) rfl (by first | exact ha | exact ht | exact told2 _ _ _) (by simp) (by simp) ?_; simp -implicitDefEqProofs)
      | (refine aw_cond rfl (fun h => ?_) (fun h => ?_) <;> try (with_reducible first | exact ff_tt h | exact tt_ff h))
      | (refine aw_skip ?_; simp -implicitDefEqProofs)
      | refine aw_block ?_
      | (refine aw_exit ?_; simp -implicitDefEqProofs)
      | refine aw_ret (ret_of (.inr rfl) (by simp [Tryd.results31]; rfl) (Fin.of ?_)))
    rfl
  · have hn : ∀ v, atoiAll s.data.toList ≠ .ok v := fun v h => hok ⟨v, h⟩
    obtain ⟨v, t, h1, h2, ha⟩ := atoi_no s hsz hn
    have ht := ntext_ok (a := v) ⟨h1, h2⟩
    have hp : pB s.data.toList = false := by
      cases hp : pB s.data.toList with
      | false => rfl
      | true => exact absurd (pB_yes hp).1 (hn _)
    have hq : pV s.data.toList = 0 := by rw [pV, hp]; rfl
    rw [hp, hq]
    refine apure_of Tryd.func31 Tryd.ntmps31 rfl ?_
    simp only [List.length_cons, List.length_nil, List.cons_append, List.nil_append, List.replicate]
    repeat' (first
      | refine aw_seq ?_
      | (refine aw_run [] ?_; simp -implicitDefEqProofs)
      | (refine aw_ymix [] draws (by decide +kernel) ?_; simp -implicitDefEqProofs)
      | (refine aw_yrun draws (by kernel_rfl) ?_; simp -implicitDefEqProofs)
      | (refine awl_skip' [] rfl ?_; simp -implicitDefEqProofs)
      | (refine awl_pure_guard [] rfl rfl rfl (by first | assumption | kernel_rfl) rfl (fun hc => by first | exact ha | exact ht | exact told2 _ _ _) (by simp) (by simp) (by simp) ?_; simp -implicitDefEqProofs)
      | (refine yl_pureG rfl rfl rfl (by first | assumption | kernel_rfl) rfl (fun hc => by first | exact ha | exact ht | exact told2 _ _ _) (by simp) (by simp) (by simp) ?_; simp -implicitDefEqProofs)
      | (refine awl_pure' [] rfl rfl rfl (by first | assumption | kernel_rfl) rfl (by first | exact ha | exact ht | exact told2 _ _ _) (by simp) (by simp) ?_; simp -implicitDefEqProofs)
      | (refine yl_pure rfl rfl rfl (by first | assumption | kernel_rfl) rfl (by first | exact ha | exact ht | exact told2 _ _ _) (by simp) (by simp) ?_; simp -implicitDefEqProofs)
      | (refine aw_cond rfl (fun h => ?_) (fun h => ?_) <;> try (with_reducible first | exact ff_tt h | exact tt_ff h))
      | (refine aw_skip ?_; simp -implicitDefEqProofs)
      | refine aw_block ?_
      | (refine aw_exit ?_; simp -implicitDefEqProofs)
      | refine aw_ret (ret_of (.inr rfl) (by simp [Tryd.results31]; rfl) (Fin.of ?_)))
    rfl
end Go.AL
