/- Parts of the proof of LexerBlanks: the logic, contracts, plain laws. -/
import Derived.Test.YtfpjojjgoelckaaDoorZLexerBlanks30
/-! LexerBlanks. -/
namespace Go.AL
open Go.Proofs
set_option linter.unusedSimpArgs false
set_option linter.unusedVariables false
theorem scanL_err (sz : Nat) : ∀ (n : Nat) (l : List UInt8), (scanL sz n l).2.2 ≠ 0 → (scanL sz n l).1 = []
  | 0, _, h => rfl
  | _ + 1, [], h => rfl
  | n + 1, b :: l, h => by
    unfold scanL at h ⊢
    split
    · rename_i hb; rw [if_pos hb] at h; exact scanL_err sz n l h
    · rename_i hb
      rw [if_neg hb] at h
      split
      · rfl
      · rename_i hx
        rw [if_neg hx] at h
        unfold scanK at h ⊢
        split
        · rename_i hr; rw [if_pos hr] at h; simp at h
        · rfl
theorem scanS_err (s : ByteArray) (h : (scanS s).2.2 ≠ 0) : (scanS s).1 = [] := by
  unfold scanS at h ⊢
  split
  · rfl
  · rename_i hs; rw [if_neg hs] at h; exact scanL_err _ _ _ h
theorem scanS_Sc (L : List UInt8) (hL : L.length ≤ 200) (h : (scanS ⟨⟨L⟩⟩).2.2 = 0) : ∃ rs, Sc L rs ∧ (scanS ⟨⟨L⟩⟩) = (rs.map fun p => (p.1, L.length - p.2), 0, 0) := by
  have e : scanS ⟨⟨L⟩⟩ = scanL L.length L.length L := if_neg (by show ¬ 200 < L.length; omega)
  rw [e] at h ⊢
  obtain ⟨rs, h1, h2⟩ := scan_Sc L.length L.length L (Nat.le_refl _) h
  exact ⟨rs, h1, Sc_scan L.length h1 L.length (Nat.le_refl _)⟩
theorem Sc_scanS {L : List UInt8} {rs : List (Tok × Nat)} (hL : L.length ≤ 200) (h : Sc L rs) : scanS ⟨⟨L⟩⟩ = (rs.map fun p => (p.1, L.length - p.2), 0, 0) := by
  have e : scanS ⟨⟨L⟩⟩ = scanL L.length L.length L := if_neg (by show ¬ 200 < L.length; omega)
  rw [e]; exact Sc_scan L.length h L.length (Nat.le_refl _)
theorem xsub (L : List UInt8) (f g : Nat) : (⟨⟨L⟩⟩ : ByteArray).extract f g = ⟨⟨(L.take g).drop f⟩⟩ := by
  apply ByteArray.ext
  simp [ByteArray.data_extract, List.drop_take]
theorem bapp (a b : List UInt8) : (⟨⟨a⟩⟩ : ByteArray) ++ ⟨⟨b⟩⟩ = ⟨⟨a ++ b⟩⟩ := by
  apply ByteArray.ext
  simp
/-- What the law needs to know of a text that is scanned without a fault. -/
theorem blanks_facts (L : List UInt8) (hL : L.length ≤ 90) (h : (scanS ⟨⟨L⟩⟩).2.2 = 0) (k : Nat) (hk : k < 8) :
    ∃ (ts : List (Tok × Nat)) (O : List (Tok × Nat)), scanS ⟨⟨L⟩⟩ = (ts, 0, 0) ∧ scanS ⟨⟨List.replicate k 32 ++ L ++ List.replicate k 32⟩⟩ = (ts.map fun p => (p.1, p.2 + k), 0, 0) ∧
      scanS ⟨⟨apG L (ts.map (·.2))⟩⟩ = (O, 0, 0) ∧ O.map (·.1) = ts.map (·.1) ∧ (apG L (ts.map (·.2))).length ≤ 180 ∧ (∀ p ∈ ts, p.2 < L.length) ∧ ts.Pairwise (fun p q => p.2 < q.2) ∧ ts.length ≤ L.length := by
  obtain ⟨rs, h1, h2⟩ := scanS_Sc L (by omega) h
  have hle := h1.le
  have hrise := h1.rises
  obtain ⟨us, h3, h4⟩ := h1.apart []
  rw [List.nil_append] at h3
  have hfs : (rs.map fun p => (p.1, L.length - p.2)).map (·.2) = rs.map fun p => L.length - p.2 := by rw [List.map_map]; rfl
  have hlen : rs.length ≤ L.length := by
    have := scanS_len ⟨⟨L⟩⟩
    rw [h2] at this
    simpa [bsizeL] using this
  have hpw : (rs.map fun p => (p.1, L.length - p.2)).Pairwise (fun p q => p.2 < q.2) := by
    rw [List.pairwise_map]
    refine List.Pairwise.imp_of_mem (fun {p q} hp hq hpq => ?_) hrise
    have := hle p hp; have := hle q hq
    simp only; omega
  have hal : (apG L (rs.map fun p => L.length - p.2)).length ≤ 180 := by
    have := apG_len L (rs.map fun p => L.length - p.2) (fun f hf => by
      obtain ⟨p, _, rfl⟩ := List.mem_map.1 hf; omega) (by
      rw [← hfs, List.pairwise_map]; exact hpw) 0 (fun f _ => Nat.zero_le _) (Nat.zero_le _)
    rw [List.length_map] at this
    omega
  refine ⟨rs.map fun p => (p.1, L.length - p.2), us.map fun p => (p.1, (apG L (rs.map fun p => L.length - p.2)).length - p.2), h2, ?_, ?_, ?_, ?_, ?_, hpw, ?_⟩
  · have h5 := (h1.ahead k).behind k
    rw [Sc_scanS (by simp; omega) h5, List.map_map, List.map_map]
    refine Prod.ext (List.map_congr_left fun p hp => ?_) rfl
    have := hle p hp
    simp only [Function.comp, Prod.mk.injEq, true_and, List.length_append, List.length_replicate]
    omega
  · rw [hfs]; exact Sc_scanS (by omega) h3
  · rw [List.map_map, List.map_map]; exact h4
  · rw [hfs]; exact hal
  · intro p hp
    obtain ⟨q, hq, rfl⟩ := List.mem_map.1 hp
    have := hle q hq
    simp only; omega
  · simpa using hlen
set_option maxHeartbeats 8000000 in
set_option maxRecDepth 100000 in
theorem lexerBlanks_ok (s : ByteArray) (hs : s.size ≤ 281474976710656) (n : Int) (hn : 0 ≤ n ∧ n < 256) : APure Tryd.prog 4 [vs s, .p (.int .u8 n)] (vb true) := by
  have h1 := scan_ok s hs
  have ha := alive4_ok
  by_cases h300 : 300 < s.size
  · have h3i : (300 : Int) < s.size := by omega
    refine apure_of Tryd.func4 Tryd.ntmps4 rfl ?_
    simp only [List.length_cons, List.length_nil, List.cons_append, List.nil_append, List.replicate]
    repeat' (first
      | refine aw_seq ?_
      | (refine aw_run [20, 21, 22] ?_; simp -implicitDefEqProofs (maxSteps := 1000000) [h3i])
      | (refine aw_ymix [20, 21, 22] draws (by decide +kernel) ?_; simp -implicitDefEqProofs (maxSteps := 1000000) [h3i])
      | (refine aw_zrun [20, 21, 22] [] draws (by decide +kernel) (by decide +kernel) ?_; simp -implicitDefEqProofs (maxSteps := 1000000) [h3i]; repeat refine zcur (by decide +kernel) ?_)
      | (refine aw_yrun draws (by kernel_rfl) ?_; simp -implicitDefEqProofs (maxSteps := 1000000) [h3i])
      | (refine awl_skip' [20, 21, 22] rfl ?_; simp -implicitDefEqProofs (maxSteps := 1000000) [h3i])
      | (refine awl_pure_guard [20, 21, 22] rfl rfl rfl (by first | assumption | kernel_rfl) rfl (fun hc => by first | exact ha) (by simp) (by simp) (by simp) ?_; simp -implicitDefEqProofs (maxSteps := 1000000) [h3i])
      | (refine yl_pureG rfl rfl rfl (by first | assumption | kernel_rfl) rfl (fun hc => by first | exact ha) (by simp) (by simp) (by simp) ?_; simp -implicitDefEqProofs (maxSteps := 1000000) [h3i])
      | (refine awl_pure' [20, 21, 22] rfl rfl rfl (by first | assumption | kernel_rfl) rfl (by first | exact ha) (by simp) (by simp) ?_; simp -implicitDefEqProofs (maxSteps := 1000000) [h3i])
      | (refine yl_pure rfl rfl rfl (by first | assumption | kernel_rfl) rfl (by first | exact ha) (by simp) (by simp) ?_; simp -implicitDefEqProofs (maxSteps := 1000000) [h3i])
      | (refine zl_pure_guard (by simp) rfl rfl rfl (by first | assumption | kernel_rfl) rfl (fun hc => by first | exact ha) (by simp) (by simp) (by simp) ?_; simp -implicitDefEqProofs (maxSteps := 1000000) [h3i]; repeat refine zcur (by decide +kernel) ?_)
      | (refine zl_pure (by simp) rfl rfl rfl (by first | assumption | kernel_rfl) rfl (by first | exact ha) (by simp) (by simp) ?_; simp -implicitDefEqProofs (maxSteps := 1000000) [h3i]; repeat refine zcur (by decide +kernel) ?_)
      | (refine aw_cond rfl (fun h => ?_) (fun h => ?_) <;> try (with_reducible first | exact ff_tt h | exact tt_ff h))
      | (refine aw_skip ?_; simp -implicitDefEqProofs (maxSteps := 1000000) [h3i])
      | refine aw_block ?_
      | (refine aw_exit ?_; simp -implicitDefEqProofs (maxSteps := 1000000) [h3i])
      | refine aw_ret (ret_of (.inr rfl) (by simp [Tryd.results4]; rfl) (Fin.of ?_)))
    simp [tupOf]
  have h3i : ¬ (300 : Int) < s.size := by omega
  have wm : IntKind.u8.wrap (n.tmod 8) = n.tmod 8 := by rw [Int.tmod_eq_emod_of_nonneg hn.1]; exact bwrap_id (by omega) (by omega)
  have wc : IntKind.i64.wrap (n.tmod 8) = n.tmod 8 := by rw [Int.tmod_eq_emod_of_nonneg hn.1]; exact wrap_id (by omega) (by omega)
  by_cases he : (scanS s).2.2 = 0
  · by_cases h90 : 90 < s.size
    · have h9i : (90 : Int) < s.size := by omega
      rw [he] at h1
      generalize scanS s = r at *
      refine apure_of Tryd.func4 Tryd.ntmps4 rfl ?_
      simp only [List.length_cons, List.length_nil, List.cons_append, List.nil_append, List.replicate]
      repeat' (first
        | refine aw_seq ?_
        | (refine aw_run [20, 21, 22] ?_; simp -implicitDefEqProofs (maxSteps := 1000000) [h3i, h9i, wm, wc])
        | (refine aw_ymix [20, 21, 22] draws (by decide +kernel) ?_; simp -implicitDefEqProofs (maxSteps := 1000000) [h3i, h9i, wm, wc])
        | (refine aw_zrun [20, 21, 22] [] draws (by decide +kernel) (by decide +kernel) ?_; simp -implicitDefEqProofs (maxSteps := 1000000) [h3i, h9i, wm, wc]; repeat refine zcur (by decide +kernel) ?_)
        | (refine aw_yrun draws (by kernel_rfl) ?_; simp -implicitDefEqProofs (maxSteps := 1000000) [h3i, h9i, wm, wc])
        | (refine awl_skip' [20, 21, 22] rfl ?_; simp -implicitDefEqProofs (maxSteps := 1000000) [h3i, h9i, wm, wc])
        | (refine awl_pure_guard [20, 21, 22] rfl rfl rfl (by first | assumption | kernel_rfl) rfl (fun hc => by first | exact h1 | exact ha) (by simp) (by simp) (by simp) ?_; simp -implicitDefEqProofs (maxSteps := 1000000) [h3i, h9i, wm, wc])
        | (refine yl_pureG rfl rfl rfl (by first | assumption | kernel_rfl) rfl (fun hc => by first | exact h1 | exact ha) (by simp) (by simp) (by simp) ?_; simp -implicitDefEqProofs (maxSteps := 1000000) [h3i, h9i, wm, wc])
        | (refine awl_pure' [20, 21, 22] rfl rfl rfl (by first | assumption | kernel_rfl) rfl (by first | exact h1 | exact ha) (by simp) (by simp) ?_; simp -implicitDefEqProofs (maxSteps := 1000000) [h3i, h9i, wm, wc])
        | (refine yl_pure rfl rfl rfl (by first | assumption | kernel_rfl) rfl (by first | exact h1 | exact ha) (by simp) (by simp) ?_; simp -implicitDefEqProofs (maxSteps := 1000000) [h3i, h9i, wm, wc])
        | (refine zl_pure_guard (by simp) rfl rfl rfl (by first | assumption | kernel_rfl) rfl (fun hc => by first | exact h1 | exact ha) (by simp) (by simp) (by simp) ?_; simp -implicitDefEqProofs (maxSteps := 1000000) [h3i, h9i, wm, wc]; repeat refine zcur (by decide +kernel) ?_)
        | (refine zl_pure (by simp) rfl rfl rfl (by first | assumption | kernel_rfl) rfl (by first | exact h1 | exact ha) (by simp) (by simp) ?_; simp -implicitDefEqProofs (maxSteps := 1000000) [h3i, h9i, wm, wc]; repeat refine zcur (by decide +kernel) ?_)
        | (refine aw_cond rfl (fun h => ?_) (fun h => ?_) <;> try (with_reducible first | exact ff_tt h | exact tt_ff h))
        | (refine aw_skip ?_; simp -implicitDefEqProofs (maxSteps := 1000000) [h3i, h9i, wm, wc])
        | refine aw_block ?_
        | (refine aw_exit ?_; simp -implicitDefEqProofs (maxSteps := 1000000) [h3i, h9i, wm, wc])
        | refine aw_ret (ret_of (.inr rfl) (by simp [Tryd.results4]; rfl) (Fin.of ?_)))
      rfl
    · obtain ⟨⟨L⟩⟩ := s
      have hsz : (⟨⟨L⟩⟩ : ByteArray).size = L.length := rfl
      rw [hsz] at h90
      obtain ⟨k, hk⟩ : ∃ k : Nat, n.tmod 8 = (k : Int) := ⟨(n.tmod 8).toNat, by rw [Int.tmod_eq_emod_of_nonneg hn.1]; omega⟩
      have hk8 : k < 8 := by rw [Int.tmod_eq_emod_of_nonneg hn.1] at hk; omega
      rw [hk] at wm wc
      obtain ⟨ts, O, f1, f2, f3, f4, f5, f6, f7, f8⟩ := blanks_facts L (by omega) he k hk8
      have h2 := scan_ok ⟨⟨List.replicate k 32 ++ L ++ List.replicate k 32⟩⟩ (by simp [bsizeL]; omega)
      have h3 := scan_ok ⟨⟨apG L (ts.map (·.2))⟩⟩ (by simp only [bsizeL, List.size_toArray]; omega)
      rw [f1] at h1
      rw [f2] at h2
      rw [f3] at h3
      have hOl : O.length = ts.length := by have := congrArg List.length f4; simpa using this
      have h9i : ¬ (90 : Int) < L.length := by omega
      have h3l : ¬ (300 : Int) < L.length := by omega
      have hb8 : (⟨#[32, 32, 32, 32, 32, 32, 32, 32]⟩ : ByteArray).extract 0 k = ⟨⟨List.replicate k 32⟩⟩ := by
        rw [extract_take, show [32, 32, 32, 32, 32, 32, 32, 32] = List.replicate 8 (32 : UInt8) from rfl, List.take_replicate, Nat.min_eq_left (by omega)]
      have hk8i : k ≤ 8 := by omega
      obtain ⟨M, hM⟩ : ∃ M, M = ts.map fun p => (p.1, p.2 + k) := ⟨_, rfl⟩
      rw [← hM] at h2
      have hMl : M.length = ts.length := by rw [hM]; simp
      have hMi : ∀ i (h : i < ts.length) (h' : i < M.length), M[i] = (ts[i].1, ts[i].2 + k) := by subst hM; intro i h h'; simp
      have hOi : ∀ i (h : i < ts.length) (h' : i < O.length), O[i].1 = ts[i].1 := fun i h h' => by
        have := congrArg (fun l => l[i]?) f4
        simpa [h, h'] using this
      obtain ⟨B, hB⟩ : ∃ B, B = List.replicate k (32 : UInt8) := ⟨_, rfl⟩
      have hBl : B.length = k := by rw [hB]; simp
      rw [← hB] at h2 hb8
      have e1 := bapp B L
      have e2 := bapp (B ++ L) B
      simp only [List.append_assoc] at e1 e2 h2
      have g1 : B.length + L.length ≤ 9223372036854775807 := by omega
      have g2 : B.length + L.length + B.length ≤ 9223372036854775807 := by omega
      have g3 : B.length + (L.length + B.length) ≤ 9223372036854775807 := by omega
      refine apure_of Tryd.func4 Tryd.ntmps4 rfl ?_
      simp only [List.length_cons, List.length_nil, List.cons_append, List.nil_append, List.replicate]
      repeat' (first
        | refine aw_seq ?_
        | (refine aw_run [20, 21, 22] ?_; simp -implicitDefEqProofs (maxSteps := 1000000) [bsizeL, h3l, h9i, wm, wc, hk, hb8, hk8i, e1, e2, g1, g2, g3])
        | (refine aw_ymix [20, 21, 22] draws (by decide +kernel) ?_; simp -implicitDefEqProofs (maxSteps := 1000000) [bsizeL, h3l, h9i, wm, wc, hk, hb8, hk8i, e1, e2, g1, g2, g3])
        | (refine aw_zrun [20, 21, 22] [] draws (by decide +kernel) (by decide +kernel) ?_; simp -implicitDefEqProofs (maxSteps := 1000000) [bsizeL, h3l, h9i, wm, wc, hk, hb8, hk8i, e1, e2, g1, g2, g3]; repeat refine zcur (by decide +kernel) ?_)
        | (refine aw_yrun draws (by kernel_rfl) ?_; simp -implicitDefEqProofs (maxSteps := 1000000) [bsizeL, h3l, h9i, wm, wc, hk, hb8, hk8i, e1, e2, g1, g2, g3])
        | (refine awl_skip' [20, 21, 22] rfl ?_; simp -implicitDefEqProofs (maxSteps := 1000000) [bsizeL, h3l, h9i, wm, wc, hk, hb8, hk8i, e1, e2, g1, g2, g3])
        | (refine awl_pure_guard [20, 21, 22] rfl rfl rfl (by first | assumption | kernel_rfl) rfl (fun hc => by first | exact h1 | exact h2 | exact ha) (by simp) (by simp) (by simp) ?_; simp -implicitDefEqProofs (maxSteps := 1000000) [bsizeL, h3l, h9i, wm, wc, hk, hb8, hk8i, e1, e2, g1, g2, g3])
        | (refine yl_pureG rfl rfl rfl (by first | assumption | kernel_rfl) rfl (fun hc => by first | exact h1 | exact h2 | exact ha) (by simp) (by simp) (by simp) ?_; simp -implicitDefEqProofs (maxSteps := 1000000) [bsizeL, h3l, h9i, wm, wc, hk, hb8, hk8i, e1, e2, g1, g2, g3])
        | (refine awl_pure' [20, 21, 22] rfl rfl rfl (by first | assumption | kernel_rfl) rfl (by first | exact h1 | exact h2 | exact ha) (by simp) (by simp) ?_; simp -implicitDefEqProofs (maxSteps := 1000000) [bsizeL, h3l, h9i, wm, wc, hk, hb8, hk8i, e1, e2, g1, g2, g3])
        | (refine yl_pure rfl rfl rfl (by first | assumption | kernel_rfl) rfl (by first | exact h1 | exact h2 | exact ha) (by simp) (by simp) ?_; simp -implicitDefEqProofs (maxSteps := 1000000) [bsizeL, h3l, h9i, wm, wc, hk, hb8, hk8i, e1, e2, g1, g2, g3])
        | (refine zl_pure_guard (by simp) rfl rfl rfl (by first | assumption | kernel_rfl) rfl (fun hc => by first | exact h1 | exact h2 | exact ha) (by simp) (by simp) (by simp) ?_; simp -implicitDefEqProofs (maxSteps := 1000000) [bsizeL, h3l, h9i, wm, wc, hk, hb8, hk8i, e1, e2, g1, g2, g3]; repeat refine zcur (by decide +kernel) ?_)
        | (refine zl_pure (by simp) rfl rfl rfl (by first | assumption | kernel_rfl) rfl (by first | exact h1 | exact h2 | exact ha) (by simp) (by simp) ?_; simp -implicitDefEqProofs (maxSteps := 1000000) [bsizeL, h3l, h9i, wm, wc, hk, hb8, hk8i, e1, e2, g1, g2, g3]; repeat refine zcur (by decide +kernel) ?_)
        | (refine aw_cond rfl (fun h => ?_) (fun h => ?_) <;> try (with_reducible first | exact ff_tt h | exact tt_ff h))
        | (refine aw_skip ?_; simp -implicitDefEqProofs (maxSteps := 1000000) [bsizeL, h3l, h9i, wm, wc, hk, hb8, hk8i, e1, e2, g1, g2, g3])
        | refine aw_block ?_
        | (refine aw_exit ?_; simp -implicitDefEqProofs (maxSteps := 1000000) [bsizeL, h3l, h9i, wm, wc, hk, hb8, hk8i, e1, e2, g1, g2, g3])
        | refine aw_ret (ret_of (.inr rfl) (by simp [Tryd.results4]; rfl) (Fin.of ?_)))
      refine aw_loopW [0, 5, 8, 10, 12, 13, 14] (fun m fr σ => ∃ (i N : Nat) (p : List UInt8), i + m = ts.length ∧ apG L (ts.map (·.2)) = p ++ apG L ((ts.map (·.2)).drop i) ∧ σ = mkSt [] [] N ∧ fr = frm 179 [(0, vs ⟨⟨L⟩⟩), (5, .vsl (ts.map tokA)), (8, vi k), (10, .vsl (M.map tokA)), (12, vi 0), (13, vs ⟨⟨p⟩⟩), (14, vi (i : Nat))]) ts.length ?_ ?_
      · exact ⟨mkSt [] [] 0, le_mkSt (by simp) (by simp) (by simp [σ0]), 0, 0, [], by omega, by simp, rfl, by simp⟩
      · rintro m fr σ ⟨i, N, p, hi, hp, rfl, rfl⟩
        simp
        have wi : IntKind.i64.wrap ((i : Int) + 1) = (i : Int) + 1 := wrap_id (by omega) (by omega)
        have wp : ((i : Int) + 1).toNat = i + 1 := by omega
        have wq : (0 : Int) ≤ (i : Int) + 1 := by omega
        by_cases hlt : i < ts.length
        · obtain ⟨q, hq⟩ : ∃ q, ts[i] = q := ⟨_, rfl⟩
          have hqm : q ∈ ts := hq ▸ List.getElem_mem hlt
          have hq2 := f6 q hqm
          have hfs : (ts.map (·.2)).drop i = q.2 :: (ts.map (·.2)).drop (i + 1) := by
            rw [List.drop_eq_getElem_cons (by simpa using hlt)]; simp [hq]
          rw [hfs, apG] at hp
          have q0 : ¬ (q.2 : Int) < 0 := by omega
          by_cases hl2 : i + 1 < ts.length
          · obtain ⟨q', hq'⟩ : ∃ q', ts[i + 1] = q' := ⟨_, rfl⟩
            have hqm' : q' ∈ ts := hq' ▸ List.getElem_mem hl2
            have hq2' := f6 q' hqm'
            have hqq : q.2 < q'.2 := by rw [← hq, ← hq']; exact List.pairwise_iff_getElem.1 f7 i (i + 1) hlt hl2 (by omega)
            have hqi : ¬ (q'.2 : Int) ≤ q.2 := by omega
            have hh : ((ts.map (·.2)).drop (i + 1)).head?.getD L.length = q'.2 := by
              rw [List.head?_drop, List.getElem?_map, List.getElem?_eq_getElem hl2, hq']; rfl
            rw [hh] at hp
            have hl2i : (i : Int) + 1 < ts.length := by omega
            obtain ⟨D, hD⟩ : ∃ D, D = (L.take q'.2).drop q.2 := ⟨_, rfl⟩
            have hx := xsub L q.2 q'.2
            rw [← hD] at hx
            have hDl : D.length ≤ L.length := by rw [hD, List.length_drop, List.length_take]; omega
            have hpl : p.length ≤ 180 := by have := congrArg List.length hp; rw [List.length_append] at this; omega
            have b1 := bapp p D
            have b2 := bapp (p ++ D) [32]
            simp only [List.append_assoc] at b2
            have c1 : q.2 ≤ q'.2 ∧ q'.2 ≤ L.length := by omega
            have c2 : p.length + D.length ≤ 9223372036854775807 := by omega
            have c3 : p.length + D.length + 1 ≤ 9223372036854775807 := by omega
            have c4 : p.length + (D.length + 1) ≤ 9223372036854775807 := by omega
            repeat' (first
              | refine aw_seq ?_
              | (refine aw_run [20, 21, 22] ?_; simp -implicitDefEqProofs (maxSteps := 1000000) [bsizeL, hlt, hq, hl2, hl2i, hq', wi, wp, wq, q0, hqi, tokA, Tok.av, c1.1, c1.2, c2, c3, c4, hx, b1, b2])
              | (refine aw_ymix [20, 21, 22] draws (by decide +kernel) ?_; simp -implicitDefEqProofs (maxSteps := 1000000) [bsizeL, hlt, hq, hl2, hl2i, hq', wi, wp, wq, q0, hqi, tokA, Tok.av, c1.1, c1.2, c2, c3, c4, hx, b1, b2])
              | (refine aw_zrun [20, 21, 22] [] draws (by decide +kernel) (by decide +kernel) ?_; simp -implicitDefEqProofs (maxSteps := 1000000) [bsizeL, hlt, hq, hl2, hl2i, hq', wi, wp, wq, q0, hqi, tokA, Tok.av, c1.1, c1.2, c2, c3, c4, hx, b1, b2]; repeat refine zcur (by decide +kernel) ?_)
              | (refine aw_yrun draws (by kernel_rfl) ?_; simp -implicitDefEqProofs (maxSteps := 1000000) [bsizeL, hlt, hq, hl2, hl2i, hq', wi, wp, wq, q0, hqi, tokA, Tok.av, c1.1, c1.2, c2, c3, c4, hx, b1, b2])
              | (refine awl_skip' [20, 21, 22] rfl ?_; simp -implicitDefEqProofs (maxSteps := 1000000) [bsizeL, hlt, hq, hl2, hl2i, hq', wi, wp, wq, q0, hqi, tokA, Tok.av, c1.1, c1.2, c2, c3, c4, hx, b1, b2])
              | (refine aw_cond rfl (fun h => ?_) (fun h => ?_) <;> try (with_reducible first | exact ff_tt h | exact tt_ff h))
              | (refine aw_skip ?_; simp -implicitDefEqProofs (maxSteps := 1000000) [bsizeL, hlt, hq, hl2, hl2i, hq', wi, wp, wq, q0, hqi, tokA, Tok.av, c1.1, c1.2, c2, c3, c4, hx, b1, b2])
              | refine aw_block ?_
              | (refine aw_exit ?_; simp -implicitDefEqProofs (maxSteps := 1000000) [bsizeL, hlt, hq, hl2, hl2i, hq', wi, wp, wq, q0, hqi, tokA, Tok.av, c1.1, c1.2, c2, c3, c4, hx, b1, b2])
              | refine aw_ret (ret_of (.inr rfl) (by simp [Tryd.results4]; rfl) (Fin.of ?_)))
            exact ⟨m - 1, by omega, mkSt [] [] N, le_mkSt (by simp) (by simp) (Nat.le_refl _), i + 1, by omega, N, p ++ (D ++ [32]), by rw [hp, seg, ← hD]; simp, rfl, rfl, by omega⟩
          · have hh : ((ts.map (·.2)).drop (i + 1)).head?.getD L.length = L.length := by
              rw [List.head?_drop, List.getElem?_eq_none (by simp; omega)]; rfl
            rw [hh] at hp
            have hl2i : ¬ (i : Int) + 1 < ts.length := by omega
            have hqi : ¬ (L.length : Int) ≤ q.2 := by omega
            obtain ⟨D, hD⟩ : ∃ D, D = (L.take L.length).drop q.2 := ⟨_, rfl⟩
            have hx := xsub L q.2 L.length
            rw [← hD] at hx
            have hq2' : L.length ≤ L.length := Nat.le_refl _
            have hqq := hq2
            have hDl : D.length ≤ L.length := by rw [hD, List.length_drop, List.length_take]; omega
            have hpl : p.length ≤ 180 := by have := congrArg List.length hp; rw [List.length_append] at this; omega
            have b1 := bapp p D
            have b2 := bapp (p ++ D) [32]
            simp only [List.append_assoc] at b2
            have c1 : q.2 ≤ L.length ∧ L.length ≤ L.length := by omega
            have c2 : p.length + D.length ≤ 9223372036854775807 := by omega
            have c3 : p.length + D.length + 1 ≤ 9223372036854775807 := by omega
            have c4 : p.length + (D.length + 1) ≤ 9223372036854775807 := by omega
            repeat' (first
              | refine aw_seq ?_
              | (refine aw_run [20, 21, 22] ?_; simp -implicitDefEqProofs (maxSteps := 1000000) [bsizeL, hlt, hq, hl2, hl2i, wi, wp, wq, q0, hqi, tokA, Tok.av, c1.1, c1.2, c2, c3, c4, hx, b1, b2])
              | (refine aw_ymix [20, 21, 22] draws (by decide +kernel) ?_; simp -implicitDefEqProofs (maxSteps := 1000000) [bsizeL, hlt, hq, hl2, hl2i, wi, wp, wq, q0, hqi, tokA, Tok.av, c1.1, c1.2, c2, c3, c4, hx, b1, b2])
              | (refine aw_zrun [20, 21, 22] [] draws (by decide +kernel) (by decide +kernel) ?_; simp -implicitDefEqProofs (maxSteps := 1000000) [bsizeL, hlt, hq, hl2, hl2i, wi, wp, wq, q0, hqi, tokA, Tok.av, c1.1, c1.2, c2, c3, c4, hx, b1, b2]; repeat refine zcur (by decide +kernel) ?_)
              | (refine aw_yrun draws (by kernel_rfl) ?_; simp -implicitDefEqProofs (maxSteps := 1000000) [bsizeL, hlt, hq, hl2, hl2i, wi, wp, wq, q0, hqi, tokA, Tok.av, c1.1, c1.2, c2, c3, c4, hx, b1, b2])
              | (refine awl_skip' [20, 21, 22] rfl ?_; simp -implicitDefEqProofs (maxSteps := 1000000) [bsizeL, hlt, hq, hl2, hl2i, wi, wp, wq, q0, hqi, tokA, Tok.av, c1.1, c1.2, c2, c3, c4, hx, b1, b2])
              | (refine aw_cond rfl (fun h => ?_) (fun h => ?_) <;> try (with_reducible first | exact ff_tt h | exact tt_ff h))
              | (refine aw_skip ?_; simp -implicitDefEqProofs (maxSteps := 1000000) [bsizeL, hlt, hq, hl2, hl2i, wi, wp, wq, q0, hqi, tokA, Tok.av, c1.1, c1.2, c2, c3, c4, hx, b1, b2])
              | refine aw_block ?_
              | (refine aw_exit ?_; simp -implicitDefEqProofs (maxSteps := 1000000) [bsizeL, hlt, hq, hl2, hl2i, wi, wp, wq, q0, hqi, tokA, Tok.av, c1.1, c1.2, c2, c3, c4, hx, b1, b2])
              | refine aw_ret (ret_of (.inr rfl) (by simp [Tryd.results4]; rfl) (Fin.of ?_)))
            exact ⟨m - 1, by omega, mkSt [] [] N, le_mkSt (by simp) (by simp) (Nat.le_refl _), i + 1, by omega, N, p ++ (D ++ [32]), by rw [hp, seg, ← hD]; simp, rfl, rfl, by omega⟩
        · have hil : i = ts.length := by omega
          subst hil
          simp only [List.drop_of_length_le, List.length_map, Nat.le_refl, apG, List.append_nil] at hp
          rw [hp] at h3
          repeat' (first
            | refine aw_seq ?_
            | (refine aw_run [20, 21, 22] ?_; simp -implicitDefEqProofs (maxSteps := 1000000) [bsizeL, hlt, hOl, hMl])
            | (refine aw_ymix [20, 21, 22] draws (by decide +kernel) ?_; simp -implicitDefEqProofs (maxSteps := 1000000) [bsizeL, hlt, hOl, hMl])
            | (refine aw_zrun [20, 21, 22] [] draws (by decide +kernel) (by decide +kernel) ?_; simp -implicitDefEqProofs (maxSteps := 1000000) [bsizeL, hlt, hOl, hMl]; repeat refine zcur (by decide +kernel) ?_)
            | (refine aw_yrun draws (by kernel_rfl) ?_; simp -implicitDefEqProofs (maxSteps := 1000000) [bsizeL, hlt, hOl, hMl])
            | (refine awl_skip' [20, 21, 22] rfl ?_; simp -implicitDefEqProofs (maxSteps := 1000000) [bsizeL, hlt, hOl, hMl])
            | (refine awl_pure_guard [20, 21, 22] rfl rfl rfl (by first | assumption | kernel_rfl) rfl (fun hc => by first | exact h3) (by simp) (by simp) (by simp) ?_; simp -implicitDefEqProofs (maxSteps := 1000000) [bsizeL, hlt, hOl, hMl])
            | (refine yl_pureG rfl rfl rfl (by first | assumption | kernel_rfl) rfl (fun hc => by first | exact h3) (by simp) (by simp) (by simp) ?_; simp -implicitDefEqProofs (maxSteps := 1000000) [bsizeL, hlt, hOl, hMl])
            | (refine awl_pure' [20, 21, 22] rfl rfl rfl (by first | assumption | kernel_rfl) rfl (by first | exact h3) (by simp) (by simp) ?_; simp -implicitDefEqProofs (maxSteps := 1000000) [bsizeL, hlt, hOl, hMl])
            | (refine yl_pure rfl rfl rfl (by first | assumption | kernel_rfl) rfl (by first | exact h3) (by simp) (by simp) ?_; simp -implicitDefEqProofs (maxSteps := 1000000) [bsizeL, hlt, hOl, hMl])
            | (refine zl_pure_guard (by simp) rfl rfl rfl (by first | assumption | kernel_rfl) rfl (fun hc => by first | exact h3) (by simp) (by simp) (by simp) ?_; simp -implicitDefEqProofs (maxSteps := 1000000) [bsizeL, hlt, hOl, hMl]; repeat refine zcur (by decide +kernel) ?_)
            | (refine zl_pure (by simp) rfl rfl rfl (by first | assumption | kernel_rfl) rfl (by first | exact h3) (by simp) (by simp) ?_; simp -implicitDefEqProofs (maxSteps := 1000000) [bsizeL, hlt, hOl, hMl]; repeat refine zcur (by decide +kernel) ?_)
            | (refine aw_cond rfl (fun h => ?_) (fun h => ?_) <;> try (with_reducible first | exact ff_tt h | exact tt_ff h))
            | (refine aw_skip ?_; simp -implicitDefEqProofs (maxSteps := 1000000) [bsizeL, hlt, hOl, hMl])
            | refine aw_block ?_
            | (refine aw_exit ?_; simp -implicitDefEqProofs (maxSteps := 1000000) [bsizeL, hlt, hOl, hMl])
            | refine aw_ret (ret_of (.inr rfl) (by simp [Tryd.results4]; rfl) (Fin.of ?_)))
          refine aw_loopW [5, 8, 10, 16, 19] (fun m fr σ => ∃ (i N : Nat), i + m = ts.length ∧ σ = mkSt [] [] N ∧ fr = frm 179 [(5, .vsl (ts.map tokA)), (8, vi k), (10, .vsl (M.map tokA)), (16, .vsl (O.map tokA)), (19, vi (i : Nat))]) ts.length ?_ ?_
          · exact ⟨mkSt [] [] N, le_mkSt (by simp) (by simp) (by simp), 0, N, by omega, rfl, by simp⟩
          · rintro m fr σ ⟨i, N, hi, rfl, rfl⟩
            simp
            have wi : IntKind.i64.wrap ((i : Int) + 1) = (i : Int) + 1 := wrap_id (by omega) (by omega)
            by_cases hlt : i < ts.length
            · obtain ⟨q, hq⟩ : ∃ q, ts[i] = q := ⟨_, rfl⟩
              have hq2 := f6 q (hq ▸ List.getElem_mem hlt)
              have hlM : i < M.length := by omega
              have hlO : i < O.length := by omega
              have hqM := hMi i hlt hlM
              rw [hq] at hqM
              obtain ⟨⟨ox, of⟩, hqO⟩ : ∃ q, O[i] = q := ⟨_, rfl⟩
              have hox := hOi i hlt hlO
              rw [hqO, hq] at hox
              simp only at hox
              subst hox
              have wk : IntKind.i64.wrap ((q.2 : Int) + (k : Int)) = (q.2 : Int) + (k : Int) := wrap_id (by omega) (by omega)
              have n1 : ¬ N = N + 1 := by omega
              have n2 : ¬ N = N + 1 + 1 := by omega
              have n3 : ¬ N + 1 = N + 1 + 1 := by omega
              repeat' (first
                | refine aw_seq ?_
                | (refine aw_run [20, 21, 22] ?_; simp -implicitDefEqProofs (maxSteps := 1000000) [hlt, hlM, hlO, hq, hqM, hqO, tokA, Tok.av, wk, wi, n1, n2, n3])
                | (refine aw_ymix [20, 21, 22] draws (by decide +kernel) ?_; simp -implicitDefEqProofs (maxSteps := 1000000) [hlt, hlM, hlO, hq, hqM, hqO, tokA, Tok.av, wk, wi, n1, n2, n3])
                | (refine aw_zrun [20, 21, 22] [] draws (by decide +kernel) (by decide +kernel) ?_; simp -implicitDefEqProofs (maxSteps := 1000000) [hlt, hlM, hlO, hq, hqM, hqO, tokA, Tok.av, wk, wi, n1, n2, n3]; repeat refine zcur (by decide +kernel) ?_)
                | (refine aw_yrun draws (by kernel_rfl) ?_; simp -implicitDefEqProofs (maxSteps := 1000000) [hlt, hlM, hlO, hq, hqM, hqO, tokA, Tok.av, wk, wi, n1, n2, n3])
                | (refine awl_skip' [20, 21, 22] rfl ?_; simp -implicitDefEqProofs (maxSteps := 1000000) [hlt, hlM, hlO, hq, hqM, hqO, tokA, Tok.av, wk, wi, n1, n2, n3])
                | (refine aw_cond rfl (fun h => ?_) (fun h => ?_) <;> try (with_reducible first | exact ff_tt h | exact tt_ff h))
                | (refine aw_skip ?_; simp -implicitDefEqProofs (maxSteps := 1000000) [hlt, hlM, hlO, hq, hqM, hqO, tokA, Tok.av, wk, wi, n1, n2, n3])
                | refine aw_block ?_
                | (refine aw_exit ?_; simp -implicitDefEqProofs (maxSteps := 1000000) [hlt, hlM, hlO, hq, hqM, hqO, tokA, Tok.av, wk, wi, n1, n2, n3])
                | refine aw_ret (ret_of (.inr rfl) (by simp [Tryd.results4]; rfl) (Fin.of ?_)))
              exact ⟨m - 1, by omega, mkSt [] [] (N + 3), le_mkSt (by simp) (by simp) (by simp), i + 1, by omega, ⟨_, rfl⟩, by omega⟩
            · repeat' (first
                | refine aw_seq ?_
                | (refine aw_run [20, 21, 22] ?_; simp -implicitDefEqProofs (maxSteps := 1000000) [hlt])
                | (refine aw_ymix [20, 21, 22] draws (by decide +kernel) ?_; simp -implicitDefEqProofs (maxSteps := 1000000) [hlt])
                | (refine aw_zrun [20, 21, 22] [] draws (by decide +kernel) (by decide +kernel) ?_; simp -implicitDefEqProofs (maxSteps := 1000000) [hlt]; repeat refine zcur (by decide +kernel) ?_)
                | (refine aw_yrun draws (by kernel_rfl) ?_; simp -implicitDefEqProofs (maxSteps := 1000000) [hlt])
                | (refine awl_skip' [20, 21, 22] rfl ?_; simp -implicitDefEqProofs (maxSteps := 1000000) [hlt])
                | (refine awl_pure_guard [20, 21, 22] rfl rfl rfl (by first | assumption | kernel_rfl) rfl (fun hc => by first | exact ha) (by simp) (by simp) (by simp) ?_; simp -implicitDefEqProofs (maxSteps := 1000000) [hlt])
                | (refine yl_pureG rfl rfl rfl (by first | assumption | kernel_rfl) rfl (fun hc => by first | exact ha) (by simp) (by simp) (by simp) ?_; simp -implicitDefEqProofs (maxSteps := 1000000) [hlt])
                | (refine awl_pure' [20, 21, 22] rfl rfl rfl (by first | assumption | kernel_rfl) rfl (by first | exact ha) (by simp) (by simp) ?_; simp -implicitDefEqProofs (maxSteps := 1000000) [hlt])
                | (refine yl_pure rfl rfl rfl (by first | assumption | kernel_rfl) rfl (by first | exact ha) (by simp) (by simp) ?_; simp -implicitDefEqProofs (maxSteps := 1000000) [hlt])
                | (refine zl_pure_guard (by simp) rfl rfl rfl (by first | assumption | kernel_rfl) rfl (fun hc => by first | exact ha) (by simp) (by simp) (by simp) ?_; simp -implicitDefEqProofs (maxSteps := 1000000) [hlt]; repeat refine zcur (by decide +kernel) ?_)
                | (refine zl_pure (by simp) rfl rfl rfl (by first | assumption | kernel_rfl) rfl (by first | exact ha) (by simp) (by simp) ?_; simp -implicitDefEqProofs (maxSteps := 1000000) [hlt]; repeat refine zcur (by decide +kernel) ?_)
                | (refine aw_cond rfl (fun h => ?_) (fun h => ?_) <;> try (with_reducible first | exact ff_tt h | exact tt_ff h))
                | (refine aw_skip ?_; simp -implicitDefEqProofs (maxSteps := 1000000) [hlt])
                | refine aw_block ?_
                | (refine aw_exit ?_; simp -implicitDefEqProofs (maxSteps := 1000000) [hlt])
                | refine aw_ret (ret_of (.inr rfl) (by simp [Tryd.results4]; rfl) (Fin.of ?_)))
              rfl
  · rw [scanS_err s he] at h1
    generalize scanS s = r at *
    refine apure_of Tryd.func4 Tryd.ntmps4 rfl ?_
    simp only [List.length_cons, List.length_nil, List.cons_append, List.nil_append, List.replicate]
    repeat' (first
      | refine aw_seq ?_
      | (refine aw_run [20, 21, 22] ?_; simp -implicitDefEqProofs (maxSteps := 1000000) [h3i, he, wm, wc])
      | (refine aw_ymix [20, 21, 22] draws (by decide +kernel) ?_; simp -implicitDefEqProofs (maxSteps := 1000000) [h3i, he, wm, wc])
      | (refine aw_zrun [20, 21, 22] [] draws (by decide +kernel) (by decide +kernel) ?_; simp -implicitDefEqProofs (maxSteps := 1000000) [h3i, he, wm, wc]; repeat refine zcur (by decide +kernel) ?_)
      | (refine aw_yrun draws (by kernel_rfl) ?_; simp -implicitDefEqProofs (maxSteps := 1000000) [h3i, he, wm, wc])
      | (refine awl_skip' [20, 21, 22] rfl ?_; simp -implicitDefEqProofs (maxSteps := 1000000) [h3i, he, wm, wc])
      | (refine awl_pure_guard [20, 21, 22] rfl rfl rfl (by first | assumption | kernel_rfl) rfl (fun hc => by first | exact h1 | exact ha) (by simp) (by simp) (by simp) ?_; simp -implicitDefEqProofs (maxSteps := 1000000) [h3i, he, wm, wc])
      | (refine yl_pureG rfl rfl rfl (by first | assumption | kernel_rfl) rfl (fun hc => by first | exact h1 | exact ha) (by simp) (by simp) (by simp) ?_; simp -implicitDefEqProofs (maxSteps := 1000000) [h3i, he, wm, wc])
      | (refine awl_pure' [20, 21, 22] rfl rfl rfl (by first | assumption | kernel_rfl) rfl (by first | exact h1 | exact ha) (by simp) (by simp) ?_; simp -implicitDefEqProofs (maxSteps := 1000000) [h3i, he, wm, wc])
      | (refine yl_pure rfl rfl rfl (by first | assumption | kernel_rfl) rfl (by first | exact h1 | exact ha) (by simp) (by simp) ?_; simp -implicitDefEqProofs (maxSteps := 1000000) [h3i, he, wm, wc])
      | (refine zl_pure_guard (by simp) rfl rfl rfl (by first | assumption | kernel_rfl) rfl (fun hc => by first | exact h1 | exact ha) (by simp) (by simp) (by simp) ?_; simp -implicitDefEqProofs (maxSteps := 1000000) [h3i, he, wm, wc]; repeat refine zcur (by decide +kernel) ?_)
      | (refine zl_pure (by simp) rfl rfl rfl (by first | assumption | kernel_rfl) rfl (by first | exact h1 | exact ha) (by simp) (by simp) ?_; simp -implicitDefEqProofs (maxSteps := 1000000) [h3i, he, wm, wc]; repeat refine zcur (by decide +kernel) ?_)
      | (refine aw_cond rfl (fun h => ?_) (fun h => ?_) <;> try (with_reducible first | exact ff_tt h | exact tt_ff h))
      | (refine aw_skip ?_; simp -implicitDefEqProofs (maxSteps := 1000000) [h3i, he, wm, wc])
      | refine aw_block ?_
      | (refine aw_exit ?_; simp -implicitDefEqProofs (maxSteps := 1000000) [h3i, he, wm, wc])
      | refine aw_ret (ret_of (.inr rfl) (by simp [Tryd.results4]; rfl) (Fin.of ?_)))
    rfl
theorem LexerBlanks_all (s : ByteArray) (n : Int) (hs : s.size ≤ 140737488351232) (hn : (Lit.int .u8 n).wf = true) : APure Tryd.prog 4 [vs s, .p (.int .u8 n)] (vb true) :=
  lexerBlanks_ok s (by omega) n (by simp [Lit.wf, IntKind.min, IntKind.max, IntKind.bits, IntKind.signed] at hn; omega)
end Go.AL
