import Derived.Test.YtcicdckjlkekdaaDoorK01c
import Derived.Test.YtcicdckjlkekdaaDoorYDec
/-! Contracts: the number of a text. -/
namespace Go.AL
open Go.Proofs Go.Proofs.YtcicdckjlkekdaaDoor.Dec Go.Lib
set_option linter.unusedSimpArgs false
set_option linter.unusedVariables false
theorem bsize_mk' (a : Array UInt8) : (⟨a⟩ : ByteArray).size = a.size := rfl
/-- What a text's sign is, and what stands behind it. -/
def splitS : List UInt8 → Bool × List UInt8
  | 45 :: r => (true, r)
  | l => (false, l)
def canonB (m : Bool) (d : List UInt8) : Bool := !d.isEmpty && decide (d.length ≤ 19) && (!decide (d.head? = some 48) || !m && decide (d.length = 1)) && d.all fig
def pB (l : List UInt8) : Bool := canonB (splitS l).1 (splitS l).2 && inI (sgn (splitS l).1 (fval 0 (splitS l).2))
def pV (l : List UInt8) : Int := z (pB l) (sgn (splitS l).1 (fval 0 (splitS l).2))
theorem canon_iff {m : Bool} {d : List UInt8} : canonB m d = true ↔ d ≠ [] ∧ d.length ≤ 19 ∧ (d.head? = some 48 → m = false ∧ d.length = 1) ∧ d.all fig = true := by
  unfold canonB
  simp only [Bool.and_eq_true, Bool.or_eq_true, decide_eq_true_eq, Bool.not_eq_true', decide_eq_false_iff_not, List.isEmpty_eq_false_iff]
  constructor
  · rintro ⟨⟨⟨a, b⟩, c⟩, e⟩
    exact ⟨a, b, fun h => c.elim (fun c => absurd h c) id, e⟩
  · rintro ⟨a, b, c, e⟩
    refine ⟨⟨⟨a, b⟩, ?_⟩, e⟩
    by_cases h : d.head? = some 48
    · exact .inr (c h)
    · exact .inl h
def figA (l : List UInt8) : Bool := l.all fig
theorem figA_snoc (l : List UInt8) (x : UInt8) : figA (l ++ [x]) = (figA l && fig x) := by simp [figA]
set_option maxHeartbeats 4000000 in
set_option maxRecDepth 100000 in
theorem rparse1_ok (s : ByteArray) (hsz : s.size ≤ 281474976710656) : APure Tryd.prog 32 [vs s] (.tup [vi (pV s.data.toList), vb (pB s.data.toList)]) := by
  obtain ⟨⟨l⟩⟩ := s
  match l, hsz with
  | [], _ =>
    refine apure_of Tryd.func32 Tryd.ntmps32 rfl ?_
    simp only [List.length_cons, List.length_nil, List.cons_append, List.nil_append, List.replicate]
    repeat' (first
      | refine aw_seq ?_
      | (refine aw_run [] ?_; simp -implicitDefEqProofs [bsize_mk'])
      | (refine aw_ymix [] draws (by decide +kernel) ?_; simp -implicitDefEqProofs [bsize_mk'])
      | (refine aw_yrun draws (by kernel_rfl) ?_; simp -implicitDefEqProofs [bsize_mk'])
      | (refine awl_skip' [] rfl ?_; simp -implicitDefEqProofs [bsize_mk'])
      | (refine aw_cond rfl (fun h => ?_) (fun h => ?_) <;> try (with_reducible first | exact ff_tt h | exact tt_ff h))
      | (refine aw_skip ?_; simp -implicitDefEqProofs [bsize_mk'])
      | refine aw_block ?_
      | (refine aw_exit ?_; simp -implicitDefEqProofs [bsize_mk'])
      | refine aw_ret (ret_of (.inr rfl) (by simp [Tryd.results32]; rfl) (Fin.of ?_)))
    rfl
  | c :: r, hsz =>
    by_cases h45 : c = 45
    · subst h45
      match r, hsz with
      | [], _ =>
        refine apure_of Tryd.func32 Tryd.ntmps32 rfl ?_
        simp only [List.length_cons, List.length_nil, List.cons_append, List.nil_append, List.replicate]
        repeat' (first
          | refine aw_seq ?_
          | (refine aw_run [] ?_; simp -implicitDefEqProofs [bsize_mk'])
          | (refine aw_ymix [] draws (by decide +kernel) ?_; simp -implicitDefEqProofs [bsize_mk'])
          | (refine aw_yrun draws (by kernel_rfl) ?_; simp -implicitDefEqProofs [bsize_mk'])
          | (refine awl_skip' [] rfl ?_; simp -implicitDefEqProofs [bsize_mk'])
          | (refine aw_cond rfl (fun h => ?_) (fun h => ?_) <;> try (with_reducible first | exact ff_tt h | exact tt_ff h))
          | (refine aw_skip ?_; simp -implicitDefEqProofs [bsize_mk'])
          | refine aw_block ?_
          | (refine aw_exit ?_; simp -implicitDefEqProofs [bsize_mk'])
          | refine aw_ret (ret_of (.inr rfl) (by simp [Tryd.results32]; rfl) (Fin.of ?_)))
        rfl
      | c :: r, hsz =>
        simp [bsize_mk'] at hsz
        have hp1 : (0 : Int) < (r.length : Int) + 1 + 1 := by omega
        have hp2 : ¬ (r.length : Int) + 1 = 0 := by omega
        have hex : (⟨⟨45 :: c :: r⟩⟩ : ByteArray).extract 1 (r.length + 1 + 1) = ⟨⟨c :: r⟩⟩ := by
          rw [show r.length + 1 + 1 = (⟨⟨45 :: c :: r⟩⟩ : ByteArray).size from rfl]
          apply ByteArray.ext
          simp [ByteArray.data_extract, bsize_mk']
        by_cases hl : (19 : Int) < (r.length : Int) + 1
        · refine apure_of Tryd.func32 Tryd.ntmps32 rfl ?_
          simp only [List.length_cons, List.length_nil, List.cons_append, List.nil_append, List.replicate]
          repeat' (first
            | refine aw_seq ?_
            | (refine aw_run [] ?_; simp -implicitDefEqProofs [bsize_mk', hex, hp1, hp2, hl])
            | (refine aw_ymix [] draws (by decide +kernel) ?_; simp -implicitDefEqProofs [bsize_mk', hex, hp1, hp2, hl])
            | (refine aw_yrun draws (by kernel_rfl) ?_; simp -implicitDefEqProofs [bsize_mk', hex, hp1, hp2, hl])
            | (refine awl_skip' [] rfl ?_; simp -implicitDefEqProofs [bsize_mk', hex, hp1, hp2, hl])
            | (refine aw_cond rfl (fun h => ?_) (fun h => ?_) <;> try (with_reducible first | exact ff_tt h | exact tt_ff h))
            | (refine aw_skip ?_; simp -implicitDefEqProofs [bsize_mk', hex, hp1, hp2, hl])
            | refine aw_block ?_
            | (refine aw_exit ?_; simp -implicitDefEqProofs [bsize_mk', hex, hp1, hp2, hl])
            | refine aw_ret (ret_of (.inr rfl) (by simp [Tryd.results32]; rfl) (Fin.of ?_)))
          have hnf : canonB true (c :: r) = false := by
            cases hq : canonB true (c :: r) with
            | false => rfl
            | true =>
              obtain ⟨q1, q2, q3, q4⟩ := canon_iff.1 hq
              first
              | (simp at q2; omega)
              | (have hc : c = 48 := UInt8.toNat_inj.1 (by simpa using (by omega : c.toNat = 48))
                 subst hc
                 have q5 := q3 rfl
                 simp at q5
                 try (subst q5; simp at hr))
          simp [tupOf, pV, pB, splitS, hnf]
        by_cases h48 : (c.toNat : Int) = 48
        · refine apure_of Tryd.func32 Tryd.ntmps32 rfl ?_
          simp only [List.length_cons, List.length_nil, List.cons_append, List.nil_append, List.replicate]
          repeat' (first
            | refine aw_seq ?_
            | (refine aw_run [] ?_; simp -implicitDefEqProofs [bsize_mk', hex, hp1, hp2, hl, h48])
            | (refine aw_ymix [] draws (by decide +kernel) ?_; simp -implicitDefEqProofs [bsize_mk', hex, hp1, hp2, hl, h48])
            | (refine aw_yrun draws (by kernel_rfl) ?_; simp -implicitDefEqProofs [bsize_mk', hex, hp1, hp2, hl, h48])
            | (refine awl_skip' [] rfl ?_; simp -implicitDefEqProofs [bsize_mk', hex, hp1, hp2, hl, h48])
            | (refine aw_cond rfl (fun h => ?_) (fun h => ?_) <;> try (with_reducible first | exact ff_tt h | exact tt_ff h))
            | (refine aw_skip ?_; simp -implicitDefEqProofs [bsize_mk', hex, hp1, hp2, hl, h48])
            | refine aw_block ?_
            | (refine aw_exit ?_; simp -implicitDefEqProofs [bsize_mk', hex, hp1, hp2, hl, h48])
            | refine aw_ret (ret_of (.inr rfl) (by simp [Tryd.results32]; rfl) (Fin.of ?_)))
          have hnf : canonB true (c :: r) = false := by
            cases hq : canonB true (c :: r) with
            | false => rfl
            | true =>
              obtain ⟨q1, q2, q3, q4⟩ := canon_iff.1 hq
              first
              | (simp at q2; omega)
              | (have hc : c = 48 := UInt8.toNat_inj.1 (by simpa using (by omega : c.toNat = 48))
                 subst hc
                 have q5 := q3 rfl
                 simp at q5
                 try (subst q5; simp at hr))
          simp [tupOf, pV, pB, splitS, hnf]
        · refine apure_of Tryd.func32 Tryd.ntmps32 rfl ?_
          simp only [List.length_cons, List.length_nil, List.cons_append, List.nil_append, List.replicate]
          repeat' (first
            | refine aw_seq ?_
            | (refine aw_run [] ?_; simp -implicitDefEqProofs [bsize_mk', hex, hp1, hp2, hl, h48])
            | (refine aw_ymix [] draws (by decide +kernel) ?_; simp -implicitDefEqProofs [bsize_mk', hex, hp1, hp2, hl, h48])
            | (refine aw_yrun draws (by kernel_rfl) ?_; simp -implicitDefEqProofs [bsize_mk', hex, hp1, hp2, hl, h48])
            | (refine awl_skip' [] rfl ?_; simp -implicitDefEqProofs [bsize_mk', hex, hp1, hp2, hl, h48])
            | (refine aw_cond rfl (fun h => ?_) (fun h => ?_) <;> try (with_reducible first | exact ff_tt h | exact tt_ff h))
            | (refine aw_skip ?_; simp -implicitDefEqProofs [bsize_mk', hex, hp1, hp2, hl, h48])
            | refine aw_block ?_
            | (refine aw_exit ?_; simp -implicitDefEqProofs [bsize_mk', hex, hp1, hp2, hl, h48])
            | refine aw_ret (ret_of (.inr rfl) (by simp [Tryd.results32]; rfl) (Fin.of ?_)))
          have hdl : r.length + 1 ≤ 19 := by omega
          have hfv : ∀ i, i ≤ r.length + 1 → figA ((c :: r).take i) = true → fval 0 ((c :: r).take i) < 10000000000000000000 := by
            intro i hi ha
            have hv := fval_lt 0 ((c :: r).take i) ha
            have hp : 10 ^ ((c :: r).take i).length ≤ 10 ^ 19 := Nat.pow_le_pow_right (by omega) (by rw [List.length_take]; omega)
            simp only [Nat.reducePow] at hp
            omega
          refine aw_loopK [4, 5, 6, 7] (fun n fr σ => σ = σ0 ∧ ∃ i : Nat, i + n = r.length + 1 ∧ figA ((c :: r).take i) = true ∧ fr = frm 70 [(4, vb true), (5, vs ⟨⟨c :: r⟩⟩), (6, vu (fval 0 ((c :: r).take i) : Nat)), (7, vi (i : Nat))]) (r.length + 1) ?_ ?_
          · refine ⟨rfl, 0, by omega, rfl, by simp [fval_nil]⟩
          · rintro n fr σ ⟨rfl, i, hi, hall, rfl⟩
            simp
            refine aw_seq (aw_seq (aw_run [] ?_))
            simp -implicitDefEqProofs [bsize_mk']
            refine aw_cond rfl (fun h => aw_skip ?_) (fun h => aw_exit ?_)
            · have hlt : i < r.length + 1 := by simp at h; omega
              obtain ⟨x, hx⟩ : ∃ x, (c :: r)[i]? = some x := ⟨(c :: r)[i], by simp [hlt]⟩
              have hnx : IntKind.i64.wrap ((i : Int) + 1) = ((i + 1 : Nat) : Int) := by rw [wrap_id (by omega) (by omega)]; simp
              simp -implicitDefEqProofs
              refine aw_seq (aw_block (aw_seq (aw_seq (aw_run [] ?_))))
              simp -implicitDefEqProofs [hx]
              refine aw_cond rfl (fun h2 => ?_) (fun h2 => aw_skip ?_)
              · repeat' (first
                  | refine aw_seq ?_
                  | (refine aw_run [] ?_; simp -implicitDefEqProofs)
                  | (refine aw_ymix [] draws (by decide +kernel) ?_; simp -implicitDefEqProofs)
                  | (refine aw_yrun draws (by kernel_rfl) ?_; simp -implicitDefEqProofs)
                  | (refine awl_skip' [] rfl ?_; simp -implicitDefEqProofs)
                  | (refine aw_cond rfl (fun h => ?_) (fun h => ?_) <;> try (with_reducible first | exact ff_tt h | exact tt_ff h))
                  | (refine aw_skip ?_; simp -implicitDefEqProofs)
                  | refine aw_block ?_
                  | (refine aw_exit ?_; simp -implicitDefEqProofs)
                  | refine aw_ret (ret_of (.inr rfl) (by simp [Tryd.results32]; rfl) (Fin.of ?_)))
                have hnf : canonB true (c :: r) = false := by
                  cases hq : canonB true (c :: r) with
                  | false => rfl
                  | true =>
                    have := of_fig (List.all_eq_true.1 (canon_iff.1 hq).2.2.2 x (List.mem_of_getElem? hx))
                    simp at h2
                    omega
                simp [tupOf, pV, pB, splitS, hnf]
              · have fx : fig x = true := by
                  simp at h2
                  unfold fig
                  simp
                  omega
                have fc := of_fig fx
                have he : (c :: r).take (i + 1) = (c :: r).take i ++ [x] := by rw [List.take_add_one, hx]; rfl
                have hall' : figA ((c :: r).take (i + 1)) = true := by rw [he, figA_snoc, hall, fx]; rfl
                have hb := hfv (i + 1) (by omega) hall'
                have hb0 := hfv i (by omega) hall
                rw [he, fval_append, fval_cons, fval_nil] at hb
                have b1 : IntKind.u8.wrap ((x.toNat : Int) - 48) = (x.toNat : Int) - 48 := bwrap_id (by omega) (by omega)
                have b2 : IntKind.u64.wrap ((x.toNat : Int) - 48) = (x.toNat : Int) - 48 := uwrap_id (by omega) (by omega)
                simp -implicitDefEqProofs [hx]
                refine aw_run [] ?_
                simp -implicitDefEqProofs [hx, b1, b2, hnx]
                refine aw_run [] ?_
                simp -implicitDefEqProofs [hx, b1, b2, hnx]
                refine ⟨n - 1, by omega, i + 1, by omega, hall', ?_, by omega⟩
                rw [he, fval_append, fval_cons, fval_nil, wrap_u (x := 10 * _) (by omega) (by omega), wrap_u (by omega) (by omega)]
                omega
            · have hi2 : i = r.length + 1 := by simp at h; omega
              subst hi2
              have hl9 : (c :: r).take (r.length + 1) = c :: r := List.take_of_length_le (by simp)
              rw [hl9] at hall
              have hb := hfv (r.length + 1) (by omega) (by rw [hl9]; exact hall)
              rw [hl9] at hb
              simp -implicitDefEqProofs [hl9]
              repeat' (first
                | refine aw_seq ?_
                | (refine aw_run [] ?_; simp -implicitDefEqProofs)
                | (refine aw_ymix [] draws (by decide +kernel) ?_; simp -implicitDefEqProofs)
                | (refine aw_yrun draws (by kernel_rfl) ?_; simp -implicitDefEqProofs)
                | (refine awl_skip' [] rfl ?_; simp -implicitDefEqProofs)
                | (refine awl_pure_guard [] rfl rfl rfl (by first | assumption | kernel_rfl) rfl (fun hc => by first | exact signed_ok _ _ (by omega) (by omega)) (by simp) (by simp) (by simp) ?_; simp -implicitDefEqProofs)
                | (refine yl_pureG rfl rfl rfl (by first | assumption | kernel_rfl) rfl (fun hc => by first | exact signed_ok _ _ (by omega) (by omega)) (by simp) (by simp) (by simp) ?_; simp -implicitDefEqProofs)
                | (refine awl_pure' [] rfl rfl rfl (by first | assumption | kernel_rfl) rfl (by first | exact signed_ok _ _ (by omega) (by omega)) (by simp) (by simp) ?_; simp -implicitDefEqProofs)
                | (refine yl_pure rfl rfl rfl (by first | assumption | kernel_rfl) rfl (by first | exact signed_ok _ _ (by omega) (by omega)) (by simp) (by simp) ?_; simp -implicitDefEqProofs)
                | (refine aw_cond rfl (fun h => ?_) (fun h => ?_) <;> try (with_reducible first | exact ff_tt h | exact tt_ff h))
                | (refine aw_skip ?_; simp -implicitDefEqProofs)
                | refine aw_block ?_
                | (refine aw_exit ?_; simp -implicitDefEqProofs)
                | refine aw_ret (ret_of (.inr rfl) (by simp [Tryd.results32]; rfl) (Fin.of ?_)))
              have hcan : canonB true (c :: r) = true := canon_iff.2 ⟨by simp, by simp; omega, fun hh => by
                simp at hh; subst hh
                first | exact absurd (by decide) h48 | exact ⟨rfl, congrArg (· + 1) (show r.length = 0 by omega)⟩, hall⟩
              simp [tupOf, pV, pB, splitS, hcan]
    simp [bsize_mk'] at hsz
    have hne : ¬ (c.toNat : Int) = 45 := fun e => h45 (UInt8.toNat_inj.1 (by simpa using (by omega : c.toNat = 45)))
    have hp1 : (0 : Int) < (r.length : Int) + 1 := by omega
    have hp2 : ¬ (r.length : Int) + 1 = 0 := by omega
    have hsp : splitS (c :: r) = (false, c :: r) := by
      unfold splitS; split
      · rename_i h; exact absurd (List.cons.inj h).1 h45
      · rfl
    by_cases hl : (19 : Int) < (r.length : Int) + 1
    · refine apure_of Tryd.func32 Tryd.ntmps32 rfl ?_
      simp only [List.length_cons, List.length_nil, List.cons_append, List.nil_append, List.replicate]
      repeat' (first
        | refine aw_seq ?_
        | (refine aw_run [] ?_; simp -implicitDefEqProofs [bsize_mk', hne, hp1, hp2, hl])
        | (refine aw_ymix [] draws (by decide +kernel) ?_; simp -implicitDefEqProofs [bsize_mk', hne, hp1, hp2, hl])
        | (refine aw_yrun draws (by kernel_rfl) ?_; simp -implicitDefEqProofs [bsize_mk', hne, hp1, hp2, hl])
        | (refine awl_skip' [] rfl ?_; simp -implicitDefEqProofs [bsize_mk', hne, hp1, hp2, hl])
        | (refine aw_cond rfl (fun h => ?_) (fun h => ?_) <;> try (with_reducible first | exact ff_tt h | exact tt_ff h))
        | (refine aw_skip ?_; simp -implicitDefEqProofs [bsize_mk', hne, hp1, hp2, hl])
        | refine aw_block ?_
        | (refine aw_exit ?_; simp -implicitDefEqProofs [bsize_mk', hne, hp1, hp2, hl])
        | refine aw_ret (ret_of (.inr rfl) (by simp [Tryd.results32]; rfl) (Fin.of ?_)))
      have hnf : canonB false (c :: r) = false := by
        cases hq : canonB false (c :: r) with
        | false => rfl
        | true =>
          obtain ⟨q1, q2, q3, q4⟩ := canon_iff.1 hq
          first
          | (simp at q2; omega)
          | (have hc : c = 48 := UInt8.toNat_inj.1 (by simpa using (by omega : c.toNat = 48))
             subst hc
             have q5 := q3 rfl
             simp at q5
             try (subst q5; simp at hr))
      simp [tupOf, pV, pB, hsp, hnf]
    by_cases h48 : (c.toNat : Int) = 48
    · by_cases hr : (1 : Int) < (r.length : Int) + 1
      · refine apure_of Tryd.func32 Tryd.ntmps32 rfl ?_
        simp only [List.length_cons, List.length_nil, List.cons_append, List.nil_append, List.replicate]
        repeat' (first
          | refine aw_seq ?_
          | (refine aw_run [] ?_; simp -implicitDefEqProofs [bsize_mk', hne, hp1, hp2, hl, h48, hr])
          | (refine aw_ymix [] draws (by decide +kernel) ?_; simp -implicitDefEqProofs [bsize_mk', hne, hp1, hp2, hl, h48, hr])
          | (refine aw_yrun draws (by kernel_rfl) ?_; simp -implicitDefEqProofs [bsize_mk', hne, hp1, hp2, hl, h48, hr])
          | (refine awl_skip' [] rfl ?_; simp -implicitDefEqProofs [bsize_mk', hne, hp1, hp2, hl, h48, hr])
          | (refine aw_cond rfl (fun h => ?_) (fun h => ?_) <;> try (with_reducible first | exact ff_tt h | exact tt_ff h))
          | (refine aw_skip ?_; simp -implicitDefEqProofs [bsize_mk', hne, hp1, hp2, hl, h48, hr])
          | refine aw_block ?_
          | (refine aw_exit ?_; simp -implicitDefEqProofs [bsize_mk', hne, hp1, hp2, hl, h48, hr])
          | refine aw_ret (ret_of (.inr rfl) (by simp [Tryd.results32]; rfl) (Fin.of ?_)))
        have hnf : canonB false (c :: r) = false := by
          cases hq : canonB false (c :: r) with
          | false => rfl
          | true =>
            obtain ⟨q1, q2, q3, q4⟩ := canon_iff.1 hq
            first
            | (simp at q2; omega)
            | (have hc : c = 48 := UInt8.toNat_inj.1 (by simpa using (by omega : c.toNat = 48))
               subst hc
               have q5 := q3 rfl
               simp at q5
               try (subst q5; simp at hr))
        simp [tupOf, pV, pB, hsp, hnf]
      · refine apure_of Tryd.func32 Tryd.ntmps32 rfl ?_
        simp only [List.length_cons, List.length_nil, List.cons_append, List.nil_append, List.replicate]
        repeat' (first
          | refine aw_seq ?_
          | (refine aw_run [] ?_; simp -implicitDefEqProofs [bsize_mk', hne, hp1, hp2, hl, h48, hr])
          | (refine aw_ymix [] draws (by decide +kernel) ?_; simp -implicitDefEqProofs [bsize_mk', hne, hp1, hp2, hl, h48, hr])
          | (refine aw_yrun draws (by kernel_rfl) ?_; simp -implicitDefEqProofs [bsize_mk', hne, hp1, hp2, hl, h48, hr])
          | (refine awl_skip' [] rfl ?_; simp -implicitDefEqProofs [bsize_mk', hne, hp1, hp2, hl, h48, hr])
          | (refine aw_cond rfl (fun h => ?_) (fun h => ?_) <;> try (with_reducible first | exact ff_tt h | exact tt_ff h))
          | (refine aw_skip ?_; simp -implicitDefEqProofs [bsize_mk', hne, hp1, hp2, hl, h48, hr])
          | refine aw_block ?_
          | (refine aw_exit ?_; simp -implicitDefEqProofs [bsize_mk', hne, hp1, hp2, hl, h48, hr])
          | refine aw_ret (ret_of (.inr rfl) (by simp [Tryd.results32]; rfl) (Fin.of ?_)))
        have hdl : r.length + 1 ≤ 19 := by omega
        have hfv : ∀ i, i ≤ r.length + 1 → figA ((c :: r).take i) = true → fval 0 ((c :: r).take i) < 10000000000000000000 := by
          intro i hi ha
          have hv := fval_lt 0 ((c :: r).take i) ha
          have hp : 10 ^ ((c :: r).take i).length ≤ 10 ^ 19 := Nat.pow_le_pow_right (by omega) (by rw [List.length_take]; omega)
          simp only [Nat.reducePow] at hp
          omega
        refine aw_loopK [4, 5, 6, 7] (fun n fr σ => σ = σ0 ∧ ∃ i : Nat, i + n = r.length + 1 ∧ figA ((c :: r).take i) = true ∧ fr = frm 70 [(4, vb false), (5, vs ⟨⟨c :: r⟩⟩), (6, vu (fval 0 ((c :: r).take i) : Nat)), (7, vi (i : Nat))]) (r.length + 1) ?_ ?_
        · refine ⟨rfl, 0, by omega, rfl, by simp [fval_nil]⟩
        · rintro n fr σ ⟨rfl, i, hi, hall, rfl⟩
          simp
          refine aw_seq (aw_seq (aw_run [] ?_))
          simp -implicitDefEqProofs [bsize_mk']
          refine aw_cond rfl (fun h => aw_skip ?_) (fun h => aw_exit ?_)
          · have hlt : i < r.length + 1 := by simp at h; omega
            obtain ⟨x, hx⟩ : ∃ x, (c :: r)[i]? = some x := ⟨(c :: r)[i], by simp [hlt]⟩
            have hnx : IntKind.i64.wrap ((i : Int) + 1) = ((i + 1 : Nat) : Int) := by rw [wrap_id (by omega) (by omega)]; simp
            simp -implicitDefEqProofs
            refine aw_seq (aw_block (aw_seq (aw_seq (aw_run [] ?_))))
            simp -implicitDefEqProofs [hx]
            refine aw_cond rfl (fun h2 => ?_) (fun h2 => aw_skip ?_)
            · repeat' (first
                | refine aw_seq ?_
                | (refine aw_run [] ?_; simp -implicitDefEqProofs)
                | (refine aw_ymix [] draws (by decide +kernel) ?_; simp -implicitDefEqProofs)
                | (refine aw_yrun draws (by kernel_rfl) ?_; simp -implicitDefEqProofs)
                | (refine awl_skip' [] rfl ?_; simp -implicitDefEqProofs)
                | (refine aw_cond rfl (fun h => ?_) (fun h => ?_) <;> try (with_reducible first | exact ff_tt h | exact tt_ff h))
                | (refine aw_skip ?_; simp -implicitDefEqProofs)
                | refine aw_block ?_
                | (refine aw_exit ?_; simp -implicitDefEqProofs)
                | refine aw_ret (ret_of (.inr rfl) (by simp [Tryd.results32]; rfl) (Fin.of ?_)))
              have hnf : canonB false (c :: r) = false := by
                cases hq : canonB false (c :: r) with
                | false => rfl
                | true =>
                  have := of_fig (List.all_eq_true.1 (canon_iff.1 hq).2.2.2 x (List.mem_of_getElem? hx))
                  simp at h2
                  omega
              simp [tupOf, pV, pB, hsp, hnf]
            · have fx : fig x = true := by
                simp at h2
                unfold fig
                simp
                omega
              have fc := of_fig fx
              have he : (c :: r).take (i + 1) = (c :: r).take i ++ [x] := by rw [List.take_add_one, hx]; rfl
              have hall' : figA ((c :: r).take (i + 1)) = true := by rw [he, figA_snoc, hall, fx]; rfl
              have hb := hfv (i + 1) (by omega) hall'
              have hb0 := hfv i (by omega) hall
              rw [he, fval_append, fval_cons, fval_nil] at hb
              have b1 : IntKind.u8.wrap ((x.toNat : Int) - 48) = (x.toNat : Int) - 48 := bwrap_id (by omega) (by omega)
              have b2 : IntKind.u64.wrap ((x.toNat : Int) - 48) = (x.toNat : Int) - 48 := uwrap_id (by omega) (by omega)
              simp -implicitDefEqProofs [hx]
              refine aw_run [] ?_
              simp -implicitDefEqProofs [hx, b1, b2, hnx]
              refine aw_run [] ?_
              simp -implicitDefEqProofs [hx, b1, b2, hnx]
              refine ⟨n - 1, by omega, i + 1, by omega, hall', ?_, by omega⟩
              rw [he, fval_append, fval_cons, fval_nil, wrap_u (x := 10 * _) (by omega) (by omega), wrap_u (by omega) (by omega)]
              omega
          · have hi2 : i = r.length + 1 := by simp at h; omega
            subst hi2
            have hl9 : (c :: r).take (r.length + 1) = c :: r := List.take_of_length_le (by simp)
            rw [hl9] at hall
            have hb := hfv (r.length + 1) (by omega) (by rw [hl9]; exact hall)
            rw [hl9] at hb
            simp -implicitDefEqProofs [hl9]
            repeat' (first
              | refine aw_seq ?_
              | (refine aw_run [] ?_; simp -implicitDefEqProofs)
              | (refine aw_ymix [] draws (by decide +kernel) ?_; simp -implicitDefEqProofs)
              | (refine aw_yrun draws (by kernel_rfl) ?_; simp -implicitDefEqProofs)
              | (refine awl_skip' [] rfl ?_; simp -implicitDefEqProofs)
              | (refine awl_pure_guard [] rfl rfl rfl (by first | assumption | kernel_rfl) rfl (fun hc => by first | exact signed_ok _ _ (by omega) (by omega)) (by simp) (by simp) (by simp) ?_; simp -implicitDefEqProofs)
              | (refine yl_pureG rfl rfl rfl (by first | assumption | kernel_rfl) rfl (fun hc => by first | exact signed_ok _ _ (by omega) (by omega)) (by simp) (by simp) (by simp) ?_; simp -implicitDefEqProofs)
              | (refine awl_pure' [] rfl rfl rfl (by first | assumption | kernel_rfl) rfl (by first | exact signed_ok _ _ (by omega) (by omega)) (by simp) (by simp) ?_; simp -implicitDefEqProofs)
              | (refine yl_pure rfl rfl rfl (by first | assumption | kernel_rfl) rfl (by first | exact signed_ok _ _ (by omega) (by omega)) (by simp) (by simp) ?_; simp -implicitDefEqProofs)
              | (refine aw_cond rfl (fun h => ?_) (fun h => ?_) <;> try (with_reducible first | exact ff_tt h | exact tt_ff h))
              | (refine aw_skip ?_; simp -implicitDefEqProofs)
              | refine aw_block ?_
              | (refine aw_exit ?_; simp -implicitDefEqProofs)
              | refine aw_ret (ret_of (.inr rfl) (by simp [Tryd.results32]; rfl) (Fin.of ?_)))
            have hcan : canonB false (c :: r) = true := canon_iff.2 ⟨by simp, by simp; omega, fun hh => by
              simp at hh; subst hh
              first | exact absurd (by decide) h48 | exact ⟨rfl, congrArg (· + 1) (show r.length = 0 by omega)⟩, hall⟩
            simp [tupOf, pV, pB, hsp, hcan]
    · refine apure_of Tryd.func32 Tryd.ntmps32 rfl ?_
      simp only [List.length_cons, List.length_nil, List.cons_append, List.nil_append, List.replicate]
      repeat' (first
        | refine aw_seq ?_
        | (refine aw_run [] ?_; simp -implicitDefEqProofs [bsize_mk', hne, hp1, hp2, hl, h48])
        | (refine aw_ymix [] draws (by decide +kernel) ?_; simp -implicitDefEqProofs [bsize_mk', hne, hp1, hp2, hl, h48])
        | (refine aw_yrun draws (by kernel_rfl) ?_; simp -implicitDefEqProofs [bsize_mk', hne, hp1, hp2, hl, h48])
        | (refine awl_skip' [] rfl ?_; simp -implicitDefEqProofs [bsize_mk', hne, hp1, hp2, hl, h48])
        | (refine aw_cond rfl (fun h => ?_) (fun h => ?_) <;> try (with_reducible first | exact ff_tt h | exact tt_ff h))
        | (refine aw_skip ?_; simp -implicitDefEqProofs [bsize_mk', hne, hp1, hp2, hl, h48])
        | refine aw_block ?_
        | (refine aw_exit ?_; simp -implicitDefEqProofs [bsize_mk', hne, hp1, hp2, hl, h48])
        | refine aw_ret (ret_of (.inr rfl) (by simp [Tryd.results32]; rfl) (Fin.of ?_)))
      have hdl : r.length + 1 ≤ 19 := by omega
      have hfv : ∀ i, i ≤ r.length + 1 → figA ((c :: r).take i) = true → fval 0 ((c :: r).take i) < 10000000000000000000 := by
        intro i hi ha
        have hv := fval_lt 0 ((c :: r).take i) ha
        have hp : 10 ^ ((c :: r).take i).length ≤ 10 ^ 19 := Nat.pow_le_pow_right (by omega) (by rw [List.length_take]; omega)
        simp only [Nat.reducePow] at hp
        omega
      refine aw_loopK [4, 5, 6, 7] (fun n fr σ => σ = σ0 ∧ ∃ i : Nat, i + n = r.length + 1 ∧ figA ((c :: r).take i) = true ∧ fr = frm 70 [(4, vb false), (5, vs ⟨⟨c :: r⟩⟩), (6, vu (fval 0 ((c :: r).take i) : Nat)), (7, vi (i : Nat))]) (r.length + 1) ?_ ?_
      · refine ⟨rfl, 0, by omega, rfl, by simp [fval_nil]⟩
      · rintro n fr σ ⟨rfl, i, hi, hall, rfl⟩
        simp
        refine aw_seq (aw_seq (aw_run [] ?_))
        simp -implicitDefEqProofs [bsize_mk']
        refine aw_cond rfl (fun h => aw_skip ?_) (fun h => aw_exit ?_)
        · have hlt : i < r.length + 1 := by simp at h; omega
          obtain ⟨x, hx⟩ : ∃ x, (c :: r)[i]? = some x := ⟨(c :: r)[i], by simp [hlt]⟩
          have hnx : IntKind.i64.wrap ((i : Int) + 1) = ((i + 1 : Nat) : Int) := by rw [wrap_id (by omega) (by omega)]; simp
          simp -implicitDefEqProofs
          refine aw_seq (aw_block (aw_seq (aw_seq (aw_run [] ?_))))
          simp -implicitDefEqProofs [hx]
          refine aw_cond rfl (fun h2 => ?_) (fun h2 => aw_skip ?_)
          · repeat' (first
              | refine aw_seq ?_
              | (refine aw_run [] ?_; simp -implicitDefEqProofs)
              | (refine aw_ymix [] draws (by decide +kernel) ?_; simp -implicitDefEqProofs)
              | (refine aw_yrun draws (by kernel_rfl) ?_; simp -implicitDefEqProofs)
              | (refine awl_skip' [] rfl ?_; simp -implicitDefEqProofs)
              | (refine aw_cond rfl (fun h => ?_) (fun h => ?_) <;> try (with_reducible first | exact ff_tt h | exact tt_ff h))
              | (refine aw_skip ?_; simp -implicitDefEqProofs)
              | refine aw_block ?_
              | (refine aw_exit ?_; simp -implicitDefEqProofs)
              | refine aw_ret (ret_of (.inr rfl) (by simp [Tryd.results32]; rfl) (Fin.of ?_)))
            have hnf : canonB false (c :: r) = false := by
              cases hq : canonB false (c :: r) with
              | false => rfl
              | true =>
                have := of_fig (List.all_eq_true.1 (canon_iff.1 hq).2.2.2 x (List.mem_of_getElem? hx))
                simp at h2
                omega
            simp [tupOf, pV, pB, hsp, hnf]
          · have fx : fig x = true := by
              simp at h2
              unfold fig
              simp
              omega
            have fc := of_fig fx
            have he : (c :: r).take (i + 1) = (c :: r).take i ++ [x] := by rw [List.take_add_one, hx]; rfl
            have hall' : figA ((c :: r).take (i + 1)) = true := by rw [he, figA_snoc, hall, fx]; rfl
            have hb := hfv (i + 1) (by omega) hall'
            have hb0 := hfv i (by omega) hall
            rw [he, fval_append, fval_cons, fval_nil] at hb
            have b1 : IntKind.u8.wrap ((x.toNat : Int) - 48) = (x.toNat : Int) - 48 := bwrap_id (by omega) (by omega)
            have b2 : IntKind.u64.wrap ((x.toNat : Int) - 48) = (x.toNat : Int) - 48 := uwrap_id (by omega) (by omega)
            simp -implicitDefEqProofs [hx]
            refine aw_run [] ?_
            simp -implicitDefEqProofs [hx, b1, b2, hnx]
            refine aw_run [] ?_
            simp -implicitDefEqProofs [hx, b1, b2, hnx]
            refine ⟨n - 1, by omega, i + 1, by omega, hall', ?_, by omega⟩
            rw [he, fval_append, fval_cons, fval_nil, wrap_u (x := 10 * _) (by omega) (by omega), wrap_u (by omega) (by omega)]
            omega
        · have hi2 : i = r.length + 1 := by simp at h; omega
          subst hi2
          have hl9 : (c :: r).take (r.length + 1) = c :: r := List.take_of_length_le (by simp)
          rw [hl9] at hall
          have hb := hfv (r.length + 1) (by omega) (by rw [hl9]; exact hall)
          rw [hl9] at hb
          simp -implicitDefEqProofs [hl9]
          repeat' (first
            | refine aw_seq ?_
            | (refine aw_run [] ?_; simp -implicitDefEqProofs)
            | (refine aw_ymix [] draws (by decide +kernel) ?_; simp -implicitDefEqProofs)
            | (refine aw_yrun draws (by kernel_rfl) ?_; simp -implicitDefEqProofs)
            | (refine awl_skip' [] rfl ?_; simp -implicitDefEqProofs)
            | (refine awl_pure_guard [] rfl rfl rfl (by first | assumption | kernel_rfl) rfl (fun hc => by first | exact signed_ok _ _ (by omega) (by omega)) (by simp) (by simp) (by simp) ?_; simp -implicitDefEqProofs)
            | (refine yl_pureG rfl rfl rfl (by first | assumption | kernel_rfl) rfl (fun hc => by first | exact signed_ok _ _ (by omega) (by omega)) (by simp) (by simp) (by simp) ?_; simp -implicitDefEqProofs)
            | (refine awl_pure' [] rfl rfl rfl (by first | assumption | kernel_rfl) rfl (by first | exact signed_ok _ _ (by omega) (by omega)) (by simp) (by simp) ?_; simp -implicitDefEqProofs)
            | (refine yl_pure rfl rfl rfl (by first | assumption | kernel_rfl) rfl (by first | exact signed_ok _ _ (by omega) (by omega)) (by simp) (by simp) ?_; simp -implicitDefEqProofs)
            | (refine aw_cond rfl (fun h => ?_) (fun h => ?_) <;> try (with_reducible first | exact ff_tt h | exact tt_ff h))
            | (refine aw_skip ?_; simp -implicitDefEqProofs)
            | refine aw_block ?_
            | (refine aw_exit ?_; simp -implicitDefEqProofs)
            | refine aw_ret (ret_of (.inr rfl) (by simp [Tryd.results32]; rfl) (Fin.of ?_)))
          have hcan : canonB false (c :: r) = true := canon_iff.2 ⟨by simp, by simp; omega, fun hh => by
            simp at hh; subst hh
            first | exact absurd (by decide) h48 | exact ⟨rfl, congrArg (· + 1) (show r.length = 0 by omega)⟩, hall⟩
          simp [tupOf, pV, pB, hsp, hcan]
end Go.AL
