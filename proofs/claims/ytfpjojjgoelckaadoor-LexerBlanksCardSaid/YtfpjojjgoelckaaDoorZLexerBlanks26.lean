/- Parts of the proof of LexerBlanks: the logic, contracts, plain laws. -/
import Derived.Test.YtfpjojjgoelckaaDoorZLexerBlanks25
/-! Contracts: gridironref04.Scan. -/
namespace Go.AL
open Go.Proofs
set_option linter.unusedSimpArgs false
set_option linter.unusedVariables false
theorem scanL_32 (sz n : Nat) (l : List UInt8) : scanL sz (n + 1) (32 :: l) = scanL sz n l := by rw [scanL, if_pos rfl]
set_option maxHeartbeats 4000000 in
set_option maxRecDepth 100000 in
theorem rscan_ok (s : ByteArray) (hs : s.size ≤ 281474976710656) : APure Tryd.prog 7 [vs s] (.tup [.vsl ((scanS s).1.map tokA), vi ((scanS s).2.1 : Nat), vi (scanS s).2.2]) := by
  by_cases h2 : 200 < s.size
  · have e : scanS s = ([], 0, 3) := if_pos h2
    rw [e]
    refine apure_of Tryd.func7 Tryd.ntmps7 rfl ?_
    simp only [List.length_cons, List.length_nil, List.cons_append, List.nil_append, List.replicate]
    repeat' (first
      | refine aw_seq ?_
      | (refine aw_run [7] ?_; simp -implicitDefEqProofs (maxSteps := 1000000))
      | (refine aw_ymix [7] draws (by decide +kernel) ?_; simp -implicitDefEqProofs (maxSteps := 1000000))
      | (refine aw_yrun draws (by kernel_rfl) ?_; simp -implicitDefEqProofs (maxSteps := 1000000))
      | (refine awl_skip' [7] rfl ?_; simp -implicitDefEqProofs (maxSteps := 1000000))
      | (refine aw_cond rfl (fun h => ?_) (fun h => ?_) <;> try (with_reducible first | exact ff_tt h | exact tt_ff h))
      | (refine aw_skip ?_; simp -implicitDefEqProofs (maxSteps := 1000000))
      | refine aw_block ?_
      | (refine aw_exit ?_; simp -implicitDefEqProofs (maxSteps := 1000000))
      | refine aw_ret (ret_of (.inr rfl) (by simp [Tryd.results7]; rfl) (Fin.close (Fin.of ?_))))
    · simp [tupOf]
    · simp at h; omega
  have e : scanS s = scanL s.size s.size s.data.toList := if_neg h2
  rw [e]
  obtain ⟨⟨L⟩⟩ := s
  have hsz : (⟨⟨L⟩⟩ : ByteArray).size = L.length := rfl
  rw [hsz] at h2 hs ⊢
  show APure _ _ _ (.tup [.vsl ((scanL L.length L.length L).1.map tokA), vi ((scanL L.length L.length L).2.1 : Nat), vi (scanL L.length L.length L).2.2])
  have h2i : ¬ (200 : Int) < L.length := by omega
  refine apure_of Tryd.func7 Tryd.ntmps7 rfl ?_
  simp only [List.length_cons, List.length_nil, List.cons_append, List.nil_append, List.replicate]
  repeat' (first
    | refine aw_seq ?_
    | (refine aw_run [7] ?_; simp -implicitDefEqProofs (maxSteps := 1000000) [bsizeL, h2i])
    | (refine aw_ymix [7] draws (by decide +kernel) ?_; simp -implicitDefEqProofs (maxSteps := 1000000) [bsizeL, h2i])
    | (refine aw_yrun draws (by kernel_rfl) ?_; simp -implicitDefEqProofs (maxSteps := 1000000) [bsizeL, h2i])
    | (refine awl_skip' [7] rfl ?_; simp -implicitDefEqProofs (maxSteps := 1000000) [bsizeL, h2i])
    | (refine aw_cond rfl (fun h => ?_) (fun h => ?_) <;> try (with_reducible first | exact ff_tt h | exact tt_ff h))
    | (refine aw_skip ?_; simp -implicitDefEqProofs (maxSteps := 1000000) [bsizeL, h2i])
    | refine aw_block ?_
    | (refine aw_exit ?_; simp -implicitDefEqProofs (maxSteps := 1000000) [bsizeL, h2i])
    | refine aw_ret (ret_of (.inr rfl) (by simp [Tryd.results7]; rfl) (Fin.of ?_)))
  refine aw_open (i := 5) rfl ?_
  refine aw_loopW [0, 5, 6] (fun n fr σ => ∃ (k m : Nat) (ts : List (Tok × Nat)) (pre l : List UInt8), k < m ∧ l.length = n ∧ L = pre ++ l ∧ ts.length ≤ pre.length ∧ scanL L.length L.length L = scanAcc ts (scanL L.length l.length l) ∧ σ = oneSl k (ts.map tokA) m ∧ fr = frm 39 [(0, vs ⟨⟨L⟩⟩), (5, .hsl k 0 ts.length), (6, vi (pre.length : Nat))]) L.length ?_ ?_
  · refine ⟨oneSl 0 [] 1, le_oneSl rfl (by decide), 0, 1, [], [], L, by decide, rfl, rfl, by simp, (scanAcc_nil _ _ _).symm, rfl, ?_⟩
    simp [σ0]
  · rintro n fr σ ⟨k, m, ts, pre, l, hkm, hn, hL, htl, hsc, rfl, rfl⟩
    simp
    have hlen : L.length = pre.length + l.length := by rw [hL]; simp
    have hp : (0 : Int) ≤ pre.length := by omega
    have w1 : IntKind.i64.wrap ((pre.length : Int) + 1) = (pre.length : Int) + 1 := wrap_id (by omega) (by omega)
    match l, hn, hL, hsc, hlen with
    | [], hn, hL, hsc, hlen =>
      have hnl : ¬ pre.length < L.length := by simp at hlen; omega
      repeat' (first
        | refine aw_seq ?_
        | (refine aw_run [7] ?_; simp -implicitDefEqProofs (maxSteps := 1000000) [bsizeL, hnl])
        | (refine aw_ymix [7] draws (by decide +kernel) ?_; simp -implicitDefEqProofs (maxSteps := 1000000) [bsizeL, hnl])
        | (refine aw_yrun draws (by kernel_rfl) ?_; simp -implicitDefEqProofs (maxSteps := 1000000) [bsizeL, hnl])
        | (refine awl_skip' [7] rfl ?_; simp -implicitDefEqProofs (maxSteps := 1000000) [bsizeL, hnl])
        | (refine aw_cond rfl (fun h => ?_) (fun h => ?_) <;> try (with_reducible first | exact ff_tt h | exact tt_ff h))
        | (refine aw_skip ?_; simp -implicitDefEqProofs (maxSteps := 1000000) [bsizeL, hnl])
        | refine aw_block ?_
        | (refine aw_exit ?_; simp -implicitDefEqProofs (maxSteps := 1000000) [bsizeL, hnl])
        | refine aw_ret (ret_of (.inr rfl) (by simp [Tryd.results7]; rfl) (Fin.close (Fin.of ?_))))
      rw [hsc]
      simp [tupOf, scanAcc, scanL, List.take_of_length_le]
    | b :: l, hn, hL, hsc, hlen =>
      simp only [List.length_cons] at hn hlen hsc
      have hlt : pre.length < L.length := by omega
      have hget : L[pre.length] = b := by
        have := at0 pre b l
        rw [← hL, List.getElem?_eq_getElem hlt] at this
        exact Option.some.inj this
      by_cases hb : b = 32
      · subst hb
        rw [scanL_32] at hsc
        repeat' (first
          | refine aw_seq ?_
          | (refine aw_run [7] ?_; simp -implicitDefEqProofs (maxSteps := 1000000) [bsizeL, hlt, hget, w1])
          | (refine aw_ymix [7] draws (by decide +kernel) ?_; simp -implicitDefEqProofs (maxSteps := 1000000) [bsizeL, hlt, hget, w1])
          | (refine aw_yrun draws (by kernel_rfl) ?_; simp -implicitDefEqProofs (maxSteps := 1000000) [bsizeL, hlt, hget, w1])
          | (refine awl_skip' [7] rfl ?_; simp -implicitDefEqProofs (maxSteps := 1000000) [bsizeL, hlt, hget, w1])
          | (refine aw_cond rfl (fun h => ?_) (fun h => ?_) <;> try (with_reducible first | exact ff_tt h | exact tt_ff h))
          | (refine aw_skip ?_; simp -implicitDefEqProofs (maxSteps := 1000000) [bsizeL, hlt, hget, w1])
          | refine aw_block ?_
          | (refine aw_exit ?_; simp -implicitDefEqProofs (maxSteps := 1000000) [bsizeL, hlt, hget, w1])
          | refine aw_ret (ret_of (.inr rfl) (by simp [Tryd.results7]; rfl) (Fin.of ?_)))
        refine ⟨l.length, by omega, oneSl k (ts.map tokA) m, le_oneSl (by simp) (by simp), k, m, hkm, ts, pre ++ [32], l, rfl, by rw [hL]; simp, by simp; omega, hsc, rfl, ?_⟩
        simp
      · have hb2 : ¬ (b.toNat : Int) = 32 := fun h => hb (u8c.1 h)
        have hone := rone_ok pre b l (by rw [← hL]; omega) _ rfl
        have hnl := nextT_len b l
        have hst : scanL L.length (l.length + 1) (b :: l) = if (nextT ⟨⟨b :: l⟩⟩ b).len = 0 then ([], L.length - (l.length + 1), 2) else scanK (nextT ⟨⟨b :: l⟩⟩ b, L.length - (l.length + 1)) (scanL L.length l.length ((b :: l).drop (nextT ⟨⟨b :: l⟩⟩ b).len)) := by
          rw [scanL, if_neg hb]
        rw [← hL] at hone
        rw [show L.length - (l.length + 1) = pre.length from by omega] at hst
        generalize nextT ⟨⟨b :: l⟩⟩ b = x at *
        by_cases hx : x.len = 0
        · rw [if_pos hx] at hst
          rw [hst] at hsc
          rw [hx] at hone
          repeat' (first
            | refine aw_seq ?_
            | (refine aw_run [7] ?_; simp -implicitDefEqProofs (maxSteps := 1000000) [bsizeL, hlt, hget, hb2])
            | (refine aw_ymix [7] draws (by decide +kernel) ?_; simp -implicitDefEqProofs (maxSteps := 1000000) [bsizeL, hlt, hget, hb2])
            | (refine aw_yrun draws (by kernel_rfl) ?_; simp -implicitDefEqProofs (maxSteps := 1000000) [bsizeL, hlt, hget, hb2])
            | (refine awl_skip' [7] rfl ?_; simp -implicitDefEqProofs (maxSteps := 1000000) [bsizeL, hlt, hget, hb2])
            | (refine awl_pure_guard [7] rfl rfl rfl (by first | assumption | kernel_rfl) rfl (fun hc => by first | exact hone) (by simp) (by simp) (by simp) ?_; simp -implicitDefEqProofs (maxSteps := 1000000) [bsizeL, hlt, hget, hb2])
            | (refine yl_pureG rfl rfl rfl (by first | assumption | kernel_rfl) rfl (fun hc => by first | exact hone) (by simp) (by simp) (by simp) ?_; simp -implicitDefEqProofs (maxSteps := 1000000) [bsizeL, hlt, hget, hb2])
            | (refine awl_pure' [7] rfl rfl rfl (by first | assumption | kernel_rfl) rfl (by first | exact hone) (by simp) (by simp) ?_; simp -implicitDefEqProofs (maxSteps := 1000000) [bsizeL, hlt, hget, hb2])
            | (refine yl_pure rfl rfl rfl (by first | assumption | kernel_rfl) rfl (by first | exact hone) (by simp) (by simp) ?_; simp -implicitDefEqProofs (maxSteps := 1000000) [bsizeL, hlt, hget, hb2])
            | (refine aw_cond rfl (fun h => ?_) (fun h => ?_) <;> try (with_reducible first | exact ff_tt h | exact tt_ff h))
            | (refine aw_skip ?_; simp -implicitDefEqProofs (maxSteps := 1000000) [bsizeL, hlt, hget, hb2])
            | refine aw_block ?_
            | (refine aw_exit ?_; simp -implicitDefEqProofs (maxSteps := 1000000) [bsizeL, hlt, hget, hb2])
            | refine aw_ret (ret_of (.inr rfl) (by simp [Tryd.results7]; rfl) (Fin.close (Fin.of ?_))))
          rw [hsc]
          simp [tupOf, scanAcc]
        · rw [if_neg hx] at hst
          rw [if_neg hx] at hone
          simp only [Tok.av] at hone
          have w2 : IntKind.i64.wrap ((pre.length : Int) + (x.len : Int)) = (pre.length : Int) + (x.len : Int) := wrap_id (by omega) (by omega)
          repeat' (first
            | refine aw_seq ?_
            | (refine aw_run [7] ?_; simp -implicitDefEqProofs (maxSteps := 1000000) [bsizeL, hlt, hget, hb2, hx])
            | (refine aw_ymix [7] draws (by decide +kernel) ?_; simp -implicitDefEqProofs (maxSteps := 1000000) [bsizeL, hlt, hget, hb2, hx])
            | (refine aw_yrun draws (by kernel_rfl) ?_; simp -implicitDefEqProofs (maxSteps := 1000000) [bsizeL, hlt, hget, hb2, hx])
            | (refine awl_skip' [7] rfl ?_; simp -implicitDefEqProofs (maxSteps := 1000000) [bsizeL, hlt, hget, hb2, hx])
            | (refine awl_pure_guard [7] rfl rfl rfl (by first | assumption | kernel_rfl) rfl (fun hc => by first | exact hone) (by simp) (by simp) (by simp) ?_; simp -implicitDefEqProofs (maxSteps := 1000000) [bsizeL, hlt, hget, hb2, hx])
            | (refine yl_pureG rfl rfl rfl (by first | assumption | kernel_rfl) rfl (fun hc => by first | exact hone) (by simp) (by simp) (by simp) ?_; simp -implicitDefEqProofs (maxSteps := 1000000) [bsizeL, hlt, hget, hb2, hx])
            | (refine awl_pure' [7] rfl rfl rfl (by first | assumption | kernel_rfl) rfl (by first | exact hone) (by simp) (by simp) ?_; simp -implicitDefEqProofs (maxSteps := 1000000) [bsizeL, hlt, hget, hb2, hx])
            | (refine yl_pure rfl rfl rfl (by first | assumption | kernel_rfl) rfl (by first | exact hone) (by simp) (by simp) ?_; simp -implicitDefEqProofs (maxSteps := 1000000) [bsizeL, hlt, hget, hb2, hx])
            | (refine aw_cond rfl (fun h => ?_) (fun h => ?_) <;> try (with_reducible first | exact ff_tt h | exact tt_ff h))
            | (refine aw_skip ?_; simp -implicitDefEqProofs (maxSteps := 1000000) [bsizeL, hlt, hget, hb2, hx])
            | refine aw_block ?_
            | (refine aw_exit ?_; simp -implicitDefEqProofs (maxSteps := 1000000) [bsizeL, hlt, hget, hb2, hx])
            | refine aw_ret (ret_of (.inr rfl) (by simp [Tryd.results7]; rfl) (Fin.of ?_)))
          refine awl_append [7] rfl rfl rfl (xs := ts.map tokA) (by simp) (by simp) rfl (by simp) te27 tet27 tz43 rfl ?_ (by simp) (by simp; omega) (by simp; omega) ?_
          · intro y hy
            obtain ⟨p, _, rfl⟩ := List.mem_map.1 hy
            rfl
          simp -implicitDefEqProofs
          repeat' (first
            | refine aw_seq ?_
            | (refine aw_run [7] ?_; simp -implicitDefEqProofs (maxSteps := 1000000) [w2])
            | (refine aw_ymix [7] draws (by decide +kernel) ?_; simp -implicitDefEqProofs (maxSteps := 1000000) [w2])
            | (refine aw_yrun draws (by kernel_rfl) ?_; simp -implicitDefEqProofs (maxSteps := 1000000) [w2])
            | (refine awl_skip' [7] rfl ?_; simp -implicitDefEqProofs (maxSteps := 1000000) [w2])
            | (refine aw_cond rfl (fun h => ?_) (fun h => ?_) <;> try (with_reducible first | exact ff_tt h | exact tt_ff h))
            | (refine aw_skip ?_; simp -implicitDefEqProofs (maxSteps := 1000000) [w2])
            | refine aw_block ?_
            | (refine aw_exit ?_; simp -implicitDefEqProofs (maxSteps := 1000000) [w2])
            | refine aw_ret (ret_of (.inr rfl) (by simp [Tryd.results7]; rfl) (Fin.of ?_)))
          refine ⟨l.length + 1 - x.len, by omega, oneSl (m + 1) ((ts ++ [(x, pre.length)]).map tokA) (m + 2), le_oneSl (by simp [List.take_of_length_le, tokA, Tok.av]) (by simp), m + 1, m + 2, by omega, ts ++ [(x, pre.length)], pre ++ (b :: l).take x.len, (b :: l).drop x.len, ?_, ?_, ?_, ?_, rfl, ?_⟩
          · simp
          · rw [List.append_assoc, List.take_append_drop]; exact hL
          · simp; omega
          · rw [hsc, hst, scanAcc_K, scanL_fuel _ l.length ((b :: l).drop x.len).length _ (by simp; omega) (Nat.le_refl _)]
          · have : min x.len (l.length + 1) = x.len := by omega
            simp [this]
end Go.AL
