/- Parts of the proof of LexerBlanks: the logic, contracts, plain laws. -/
import Derived.Test.YtfpjojjgoelckaaDoorZLexerBlanks26
import Derived.Test.YtfpjojjgoelckaaDoorZLexerBlanks27
/-! Contracts: gridironlaw04's small functions. -/
namespace Go.AL
open Go.Proofs
set_option linter.unusedSimpArgs false
set_option linter.unusedVariables false
def txt1 : ByteArray := ⟨#[32, 66, 50, 60, 61, 48, 48, 55, 32, 35, 82, 69, 70, 32, 83, 85, 77, 40, 81, 49]⟩
def txt2 : ByteArray := ⟨#[49, 43, 32, 83, 85, 77, 50]⟩
theorem scan1 : (scanS txt1).1.map (fun p => (p.1.k, p.1.n, p.1.c, p.1.r, p.1.t, p.2)) = [(2, 0, 1, 1, ⟨#[]⟩, 1), (5, 0, 0, 0, ⟨#[60, 61]⟩, 3), (1, 7, 0, 0, ⟨#[]⟩, 5), (3, 0, 0, 0, ⟨#[]⟩, 9), (4, 0, 0, 0, ⟨#[83, 85, 77]⟩, 14), (5, 0, 0, 0, ⟨#[40]⟩, 17), (3, 0, 0, 0, ⟨#[]⟩, 18)] := by decide +kernel
theorem scan1b : (scanS txt1).2 = (0, 0) := by decide +kernel
theorem scan2 : (scanS txt2).1.length = 0 ∧ (scanS txt2).2 = (3, 2) := by decide +kernel
theorem tokA_of (l : List (Tok × Nat)) : l.map tokA = (l.map (fun p => (p.1.k, p.1.n, p.1.c, p.1.r, p.1.t, p.2))).map fun q => token q.1 q.2.1 q.2.2.1 q.2.2.2.1 q.2.2.2.2.1 (q.2.2.2.2.2 : Nat) := by
  rw [List.map_map]; rfl
theorem lscan1 : APure Tryd.prog 6 [vs txt1] (.tup [.vsl [token 2 0 1 1 ⟨#[]⟩ 1, token 5 0 0 0 ⟨#[60, 61]⟩ 3, token 1 7 0 0 ⟨#[]⟩ 5, token 3 0 0 0 ⟨#[]⟩ 9, token 4 0 0 0 ⟨#[83, 85, 77]⟩ 14, token 5 0 0 0 ⟨#[40]⟩ 17, token 3 0 0 0 ⟨#[]⟩ 18], vi 0, vi 0]) := by
  have h := scan_ok txt1 (by decide)
  rw [tokA_of, scan1, scan1b] at h
  exact h
theorem lscan2 : APure Tryd.prog 6 [vs txt2] (.tup [.vsl [], vi 3, vi 2]) := by
  have h := scan_ok txt2 (by decide)
  rw [List.eq_nil_of_length_eq_zero scan2.1, scan2.2] at h
  exact h
set_option maxHeartbeats 4000000 in
set_option maxRecDepth 100000 in
theorem alive4_ok : APure Tryd.prog 5 [] (vb true) := by
  have h1 := lscan1
  have h2 := lscan2
  unfold txt1 at h1
  unfold txt2 at h2
  refine apure_of Tryd.func5 Tryd.ntmps5 rfl ?_
  simp only [List.length_cons, List.length_nil, List.cons_append, List.nil_append, List.replicate]
  repeat' (first
    | refine aw_seq ?_
    | (refine aw_run [] ?_; simp -implicitDefEqProofs (maxSteps := 1000000))
    | (refine aw_ymix [] draws (by decide +kernel) ?_; simp -implicitDefEqProofs (maxSteps := 1000000))
    | (refine aw_zrun [] [] draws (by decide +kernel) (by decide +kernel) ?_; simp -implicitDefEqProofs (maxSteps := 1000000); repeat refine zcur (by decide +kernel) ?_)
    | (refine aw_yrun draws (by kernel_rfl) ?_; simp -implicitDefEqProofs (maxSteps := 1000000))
    | (refine awl_skip' [] rfl ?_; simp -implicitDefEqProofs (maxSteps := 1000000))
    | (refine awl_pure_guard [] rfl rfl rfl (by first | assumption | kernel_rfl) rfl (fun hc => by first | exact h1 | exact h2) (by simp) (by simp) (by simp) ?_; simp -implicitDefEqProofs (maxSteps := 1000000))
    | (refine yl_pureG rfl rfl rfl (by first | assumption | kernel_rfl) rfl (fun hc => by first | exact h1 | exact h2) (by simp) (by simp) (by simp) ?_; simp -implicitDefEqProofs (maxSteps := 1000000))
    | (refine awl_pure' [] rfl rfl rfl (by first | assumption | kernel_rfl) rfl (by first | exact h1 | exact h2) (by simp) (by simp) ?_; simp -implicitDefEqProofs (maxSteps := 1000000))
    | (refine yl_pure rfl rfl rfl (by first | assumption | kernel_rfl) rfl (by first | exact h1 | exact h2) (by simp) (by simp) ?_; simp -implicitDefEqProofs (maxSteps := 1000000))
    | (refine zl_pure_guard (by simp) rfl rfl rfl (by first | assumption | kernel_rfl) rfl (fun hc => by first | exact h1 | exact h2) (by simp) (by simp) (by simp) ?_; simp -implicitDefEqProofs (maxSteps := 1000000); repeat refine zcur (by decide +kernel) ?_)
    | (refine zl_pure (by simp) rfl rfl rfl (by first | assumption | kernel_rfl) rfl (by first | exact h1 | exact h2) (by simp) (by simp) ?_; simp -implicitDefEqProofs (maxSteps := 1000000); repeat refine zcur (by decide +kernel) ?_)
    | (refine aw_cond rfl (fun h => ?_) (fun h => ?_) <;> try (with_reducible first | exact ff_tt h | exact tt_ff h))
    | (refine aw_skip ?_; simp -implicitDefEqProofs (maxSteps := 1000000))
    | refine aw_block ?_
    | (refine aw_exit ?_; simp -implicitDefEqProofs (maxSteps := 1000000))
    | refine aw_ret (ret_of (.inr rfl) (by simp [Tryd.results5]; rfl) (Fin.of ?_)))
  simp [tupOf]
set_option maxHeartbeats 4000000 in
set_option maxRecDepth 100000 in
theorem lsame_ok (ts : List (Tok × Nat)) (hl : ts.length ≤ 281474976710656) : APure Tryd.prog 8 [.vsl (ts.map tokA), .vsl (ts.map tokA)] (vb true) := by
  refine apure_of Tryd.func8 Tryd.ntmps8 rfl ?_
  simp only [List.length_cons, List.length_nil, List.cons_append, List.nil_append, List.replicate]
  repeat' (first
    | refine aw_seq ?_
    | (refine aw_run [] ?_; simp -implicitDefEqProofs (maxSteps := 1000000))
    | (refine aw_ymix [] draws (by decide +kernel) ?_; simp -implicitDefEqProofs (maxSteps := 1000000))
    | (refine aw_zrun [] [] draws (by decide +kernel) (by decide +kernel) ?_; simp -implicitDefEqProofs (maxSteps := 1000000); repeat refine zcur (by decide +kernel) ?_)
    | (refine aw_yrun draws (by kernel_rfl) ?_; simp -implicitDefEqProofs (maxSteps := 1000000))
    | (refine awl_skip' [] rfl ?_; simp -implicitDefEqProofs (maxSteps := 1000000))
    | (refine aw_cond rfl (fun h => ?_) (fun h => ?_) <;> try (with_reducible first | exact ff_tt h | exact tt_ff h))
    | (refine aw_skip ?_; simp -implicitDefEqProofs (maxSteps := 1000000))
    | refine aw_block ?_
    | (refine aw_exit ?_; simp -implicitDefEqProofs (maxSteps := 1000000))
    | refine aw_ret (ret_of (.inr rfl) (by simp [Tryd.results8]; rfl) (Fin.of ?_)))
  refine aw_loopK [0, 1, 5] (fun n fr σ => σ = σ0 ∧ ∃ i : Nat, i + n = ts.length ∧ fr = frm 26 [(0, .vsl (ts.map tokA)), (1, .vsl (ts.map tokA)), (5, vi (i : Nat))]) ts.length ?_ ?_
  · exact ⟨rfl, 0, by omega, by simp⟩
  · rintro n fr σ ⟨rfl, i, hi, rfl⟩
    simp
    have w : IntKind.i64.wrap ((i : Int) + 1) = (i : Int) + 1 := wrap_id (by omega) (by omega)
    by_cases hlt : i < ts.length
    · obtain ⟨p, hp⟩ : ∃ p, ts[i] = p := ⟨_, rfl⟩
      repeat' (first
        | refine aw_seq ?_
        | (refine aw_run [] ?_; simp -implicitDefEqProofs (maxSteps := 1000000) [hlt, hp, tokA, Tok.av, w])
        | (refine aw_ymix [] draws (by decide +kernel) ?_; simp -implicitDefEqProofs (maxSteps := 1000000) [hlt, hp, tokA, Tok.av, w])
        | (refine aw_zrun [] [] draws (by decide +kernel) (by decide +kernel) ?_; simp -implicitDefEqProofs (maxSteps := 1000000) [hlt, hp, tokA, Tok.av, w]; repeat refine zcur (by decide +kernel) ?_)
        | (refine aw_yrun draws (by kernel_rfl) ?_; simp -implicitDefEqProofs (maxSteps := 1000000) [hlt, hp, tokA, Tok.av, w])
        | (refine awl_skip' [] rfl ?_; simp -implicitDefEqProofs (maxSteps := 1000000) [hlt, hp, tokA, Tok.av, w])
        | (refine aw_cond rfl (fun h => ?_) (fun h => ?_) <;> try (with_reducible first | exact ff_tt h | exact tt_ff h))
        | (refine aw_skip ?_; simp -implicitDefEqProofs (maxSteps := 1000000) [hlt, hp, tokA, Tok.av, w])
        | refine aw_block ?_
        | (refine aw_exit ?_; simp -implicitDefEqProofs (maxSteps := 1000000) [hlt, hp, tokA, Tok.av, w])
        | refine aw_ret (ret_of (.inr rfl) (by simp [Tryd.results8]; rfl) (Fin.of ?_)))
      exact ⟨n - 1, by omega, i + 1, by omega, by omega⟩
    · repeat' (first
        | refine aw_seq ?_
        | (refine aw_run [] ?_; simp -implicitDefEqProofs (maxSteps := 1000000) [hlt, w])
        | (refine aw_ymix [] draws (by decide +kernel) ?_; simp -implicitDefEqProofs (maxSteps := 1000000) [hlt, w])
        | (refine aw_zrun [] [] draws (by decide +kernel) (by decide +kernel) ?_; simp -implicitDefEqProofs (maxSteps := 1000000) [hlt, w]; repeat refine zcur (by decide +kernel) ?_)
        | (refine aw_yrun draws (by kernel_rfl) ?_; simp -implicitDefEqProofs (maxSteps := 1000000) [hlt, w])
        | (refine awl_skip' [] rfl ?_; simp -implicitDefEqProofs (maxSteps := 1000000) [hlt, w])
        | (refine aw_cond rfl (fun h => ?_) (fun h => ?_) <;> try (with_reducible first | exact ff_tt h | exact tt_ff h))
        | (refine aw_skip ?_; simp -implicitDefEqProofs (maxSteps := 1000000) [hlt, w])
        | refine aw_block ?_
        | (refine aw_exit ?_; simp -implicitDefEqProofs (maxSteps := 1000000) [hlt, w])
        | refine aw_ret (ret_of (.inr rfl) (by simp [Tryd.results8]; rfl) (Fin.of ?_)))
      rfl
set_option maxHeartbeats 4000000 in
set_option maxRecDepth 100000 in
theorem lof_ok (ts : List (Tok × Nat)) (hl : ts.length ≤ 281474976710) : APure Tryd.prog 9 [.vsl (ts.map tokA)] (.vsl (ts.map tokA)) := by
  refine apure_of Tryd.func9 Tryd.ntmps9 rfl ?_
  simp only [List.length_cons, List.length_nil, List.cons_append, List.nil_append, List.replicate]
  repeat' (first
    | refine aw_seq ?_
    | (refine aw_run [] ?_; simp -implicitDefEqProofs (maxSteps := 1000000))
    | (refine aw_ymix [] draws (by decide +kernel) ?_; simp -implicitDefEqProofs (maxSteps := 1000000))
    | (refine aw_zrun [] [] draws (by decide +kernel) (by decide +kernel) ?_; simp -implicitDefEqProofs (maxSteps := 1000000); repeat refine zcur (by decide +kernel) ?_)
    | (refine aw_yrun draws (by kernel_rfl) ?_; simp -implicitDefEqProofs (maxSteps := 1000000))
    | (refine awl_skip' [] rfl ?_; simp -implicitDefEqProofs (maxSteps := 1000000))
    | (refine aw_cond rfl (fun h => ?_) (fun h => ?_) <;> try (with_reducible first | exact ff_tt h | exact tt_ff h))
    | (refine aw_skip ?_; simp -implicitDefEqProofs (maxSteps := 1000000))
    | refine aw_block ?_
    | (refine aw_exit ?_; simp -implicitDefEqProofs (maxSteps := 1000000))
    | refine aw_ret (ret_of (.inr rfl) (by simp [Tryd.results9]; rfl) (Fin.of ?_)))
  refine aw_open (i := 3) rfl ?_
  refine aw_loopW [0, 3, 4] (fun n fr σ => ∃ (k m : Nat) (i : Nat), k < m ∧ i + n = ts.length ∧ σ = oneSl k ((ts.take i).map tokA) m ∧ fr = frm 41 [(0, .vsl (ts.map tokA)), (3, .hsl k 0 i), (4, vi (i : Nat))]) ts.length ?_ ?_
  · exact ⟨oneSl 0 [] 1, le_oneSl rfl (by decide), 0, 1, 0, by decide, by omega, rfl, by simp [σ0]⟩
  · rintro n fr σ ⟨k, m, i, hkm, hi, rfl, rfl⟩
    simp
    have w : IntKind.i64.wrap ((i : Int) + 1) = (i : Int) + 1 := wrap_id (by omega) (by omega)
    by_cases hlt : i < ts.length
    · obtain ⟨p, hp⟩ : ∃ p, ts[i] = p := ⟨_, rfl⟩
      repeat' (first
        | refine aw_seq ?_
        | (refine aw_run [] ?_; simp -implicitDefEqProofs (maxSteps := 1000000) [hlt, hp, tokA, Tok.av, w])
        | (refine aw_ymix [] draws (by decide +kernel) ?_; simp -implicitDefEqProofs (maxSteps := 1000000) [hlt, hp, tokA, Tok.av, w])
        | (refine aw_zrun [] [] draws (by decide +kernel) (by decide +kernel) ?_; simp -implicitDefEqProofs (maxSteps := 1000000) [hlt, hp, tokA, Tok.av, w]; repeat refine zcur (by decide +kernel) ?_)
        | (refine aw_yrun draws (by kernel_rfl) ?_; simp -implicitDefEqProofs (maxSteps := 1000000) [hlt, hp, tokA, Tok.av, w])
        | (refine awl_skip' [] rfl ?_; simp -implicitDefEqProofs (maxSteps := 1000000) [hlt, hp, tokA, Tok.av, w])
        | (refine aw_cond rfl (fun h => ?_) (fun h => ?_) <;> try (with_reducible first | exact ff_tt h | exact tt_ff h))
        | (refine aw_skip ?_; simp -implicitDefEqProofs (maxSteps := 1000000) [hlt, hp, tokA, Tok.av, w])
        | refine aw_block ?_
        | (refine aw_exit ?_; simp -implicitDefEqProofs (maxSteps := 1000000) [hlt, hp, tokA, Tok.av, w])
        | refine aw_ret (ret_of (.inr rfl) (by simp [Tryd.results9]; rfl) (Fin.of ?_)))
      refine zl_append (by simp) rfl rfl rfl (xs := (ts.take i).map tokA) (by simp [List.map_take]) (by simp; omega) rfl (by simp) te27 tet27 tz43 rfl ?_ (by simp) (by simp; omega) (by simp; omega) ?_
      · intro y hy
        obtain ⟨p, _, rfl⟩ := List.mem_map.1 hy
        rfl
      simp -implicitDefEqProofs
      repeat' (first
        | refine aw_seq ?_
        | (refine aw_run [] ?_; simp -implicitDefEqProofs (maxSteps := 1000000) [w])
        | (refine aw_ymix [] draws (by decide +kernel) ?_; simp -implicitDefEqProofs (maxSteps := 1000000) [w])
        | (refine aw_zrun [] [] draws (by decide +kernel) (by decide +kernel) ?_; simp -implicitDefEqProofs (maxSteps := 1000000) [w]; repeat refine zcur (by decide +kernel) ?_)
        | (refine aw_yrun draws (by kernel_rfl) ?_; simp -implicitDefEqProofs (maxSteps := 1000000) [w])
        | (refine awl_skip' [] rfl ?_; simp -implicitDefEqProofs (maxSteps := 1000000) [w])
        | (refine aw_cond rfl (fun h => ?_) (fun h => ?_) <;> try (with_reducible first | exact ff_tt h | exact tt_ff h))
        | (refine aw_skip ?_; simp -implicitDefEqProofs (maxSteps := 1000000) [w])
        | refine aw_block ?_
        | (refine aw_exit ?_; simp -implicitDefEqProofs (maxSteps := 1000000) [w])
        | refine aw_ret (ret_of (.inr rfl) (by simp [Tryd.results9]; rfl) (Fin.of ?_)))
      have hi1 : ((ts.take (i + 1)).map tokA).length = i + 1 := by simp; omega
      refine ⟨n - 1, by omega, oneSl m ((ts.map tokA).take (i + 1)) (m + 1), le_oneSl (by simp [List.take_add_one, hlt, hp, List.take_take, tokA, Tok.av]) (by simp), m, m + 1, by omega, i + 1, by omega, rfl, ⟨rfl, rfl⟩, by omega⟩
    · obtain rfl : i = ts.length := by omega
      repeat' (first
        | refine aw_seq ?_
        | (refine aw_run [] ?_; simp -implicitDefEqProofs (maxSteps := 1000000) [hlt, w])
        | (refine aw_ymix [] draws (by decide +kernel) ?_; simp -implicitDefEqProofs (maxSteps := 1000000) [hlt, w])
        | (refine aw_zrun [] [] draws (by decide +kernel) (by decide +kernel) ?_; simp -implicitDefEqProofs (maxSteps := 1000000) [hlt, w]; repeat refine zcur (by decide +kernel) ?_)
        | (refine aw_yrun draws (by kernel_rfl) ?_; simp -implicitDefEqProofs (maxSteps := 1000000) [hlt, w])
        | (refine awl_skip' [] rfl ?_; simp -implicitDefEqProofs (maxSteps := 1000000) [hlt, w])
        | (refine aw_cond rfl (fun h => ?_) (fun h => ?_) <;> try (with_reducible first | exact ff_tt h | exact tt_ff h))
        | (refine aw_skip ?_; simp -implicitDefEqProofs (maxSteps := 1000000) [hlt, w])
        | refine aw_block ?_
        | (refine aw_exit ?_; simp -implicitDefEqProofs (maxSteps := 1000000) [hlt, w])
        | refine aw_ret (ret_of (.inr rfl) (by simp [Tryd.results9]; rfl) (Fin.close (Fin.of ?_))))
      simp [tupOf, List.take_of_length_le]
theorem scanL_len (sz : Nat) : ∀ (n : Nat) (l : List UInt8), (scanL sz n l).1.length ≤ l.length
  | 0, l => by simp [scanL]
  | n + 1, [] => by simp [scanL]
  | n + 1, b :: l => by
    unfold scanL
    split
    · have := scanL_len sz n l; simp; omega
    · split
      · simp
      · rename_i h
        have := scanL_len sz n ((b :: l).drop (nextT ⟨⟨b :: l⟩⟩ b).len)
        unfold scanK
        split
        · simp at this ⊢; omega
        · simp
theorem scanS_len (s : ByteArray) : (scanS s).1.length ≤ s.size := by
  unfold scanS
  split
  · simp
  · have := scanL_len s.size s.size s.data.toList
    rw [Array.length_toList] at this
    exact this
@[simp high] theorem tokA_map (l : List (Tok × Nat)) : Cl (.vsl (l.map tokA)) := .vsl _ fun c hc => by
  obtain ⟨p, _, rfl⟩ := List.mem_map.1 hc
  exact tok_cl _ _
@[simp] theorem tokA_cl (x : Tok × Nat) : Cl (tokA x) := tok_cl _ _
set_option maxHeartbeats 4000000 in
set_option maxRecDepth 100000 in
theorem lexerTells_ok (s : ByteArray) (hs : s.size ≤ 281474976710656) : APure Tryd.prog 3 [vs s] (vb true) := by
  have h1 := scan_ok s hs
  have h2 := rscan_ok s hs
  by_cases h3 : 300 < s.size
  · have h3i : (300 : Int) < s.size := by omega
    refine apure_of Tryd.func3 Tryd.ntmps3 rfl ?_
    simp only [List.length_cons, List.length_nil, List.cons_append, List.nil_append, List.replicate]
    repeat' (first
      | refine aw_seq ?_
      | (refine aw_run [] ?_; simp -implicitDefEqProofs (maxSteps := 1000000) [h3i])
      | (refine aw_ymix [] draws (by decide +kernel) ?_; simp -implicitDefEqProofs (maxSteps := 1000000) [h3i])
      | (refine aw_zrun [] [] draws (by decide +kernel) (by decide +kernel) ?_; simp -implicitDefEqProofs (maxSteps := 1000000) [h3i]; repeat refine zcur (by decide +kernel) ?_)
      | (refine aw_yrun draws (by kernel_rfl) ?_; simp -implicitDefEqProofs (maxSteps := 1000000) [h3i])
      | (refine awl_skip' [] rfl ?_; simp -implicitDefEqProofs (maxSteps := 1000000) [h3i])
      | (refine awl_pure_guard [] rfl rfl rfl (by first | assumption | kernel_rfl) rfl (fun hc => by first | exact alive4_ok) (by simp) (by simp) (by simp) ?_; simp -implicitDefEqProofs (maxSteps := 1000000) [h3i])
      | (refine yl_pureG rfl rfl rfl (by first | assumption | kernel_rfl) rfl (fun hc => by first | exact alive4_ok) (by simp) (by simp) (by simp) ?_; simp -implicitDefEqProofs (maxSteps := 1000000) [h3i])
      | (refine awl_pure' [] rfl rfl rfl (by first | assumption | kernel_rfl) rfl (by first | exact alive4_ok) (by simp) (by simp) ?_; simp -implicitDefEqProofs (maxSteps := 1000000) [h3i])
      | (refine yl_pure rfl rfl rfl (by first | assumption | kernel_rfl) rfl (by first | exact alive4_ok) (by simp) (by simp) ?_; simp -implicitDefEqProofs (maxSteps := 1000000) [h3i])
      | (refine zl_pure_guard (by simp) rfl rfl rfl (by first | assumption | kernel_rfl) rfl (fun hc => by first | exact alive4_ok) (by simp) (by simp) (by simp) ?_; simp -implicitDefEqProofs (maxSteps := 1000000) [h3i]; repeat refine zcur (by decide +kernel) ?_)
      | (refine zl_pure (by simp) rfl rfl rfl (by first | assumption | kernel_rfl) rfl (by first | exact alive4_ok) (by simp) (by simp) ?_; simp -implicitDefEqProofs (maxSteps := 1000000) [h3i]; repeat refine zcur (by decide +kernel) ?_)
      | (refine aw_cond rfl (fun h => ?_) (fun h => ?_) <;> try (with_reducible first | exact ff_tt h | exact tt_ff h))
      | (refine aw_skip ?_; simp -implicitDefEqProofs (maxSteps := 1000000) [h3i])
      | refine aw_block ?_
      | (refine aw_exit ?_; simp -implicitDefEqProofs (maxSteps := 1000000) [h3i])
      | refine aw_ret (ret_of (.inr rfl) (by simp [Tryd.results3]; rfl) (Fin.of ?_)))
    simp [tupOf]
  · have h3i : ¬ (300 : Int) < s.size := by omega
    have hl := scanS_len s
    have h4 := lof_ok (scanS s).1 (by omega)
    have h5 := lsame_ok (scanS s).1 (by omega)
    generalize scanS s = r at *
    refine apure_of Tryd.func3 Tryd.ntmps3 rfl ?_
    simp only [List.length_cons, List.length_nil, List.cons_append, List.nil_append, List.replicate]
    repeat' (first
      | refine aw_seq ?_
      | (refine aw_run [] ?_; simp -implicitDefEqProofs (maxSteps := 1000000) [h3i])
      | (refine aw_ymix [] draws (by decide +kernel) ?_; simp -implicitDefEqProofs (maxSteps := 1000000) [h3i])
      | (refine aw_zrun [] [] draws (by decide +kernel) (by decide +kernel) ?_; simp -implicitDefEqProofs (maxSteps := 1000000) [h3i]; repeat refine zcur (by decide +kernel) ?_)
      | (refine aw_yrun draws (by kernel_rfl) ?_; simp -implicitDefEqProofs (maxSteps := 1000000) [h3i])
      | (refine awl_skip' [] rfl ?_; simp -implicitDefEqProofs (maxSteps := 1000000) [h3i])
      | (refine awl_pure_guard [] rfl rfl rfl (by first | assumption | kernel_rfl) rfl (fun hc => by first | exact alive4_ok | exact h1 | exact h2 | exact h4 | exact h5) (by simp) (by simp) (by simp) ?_; simp -implicitDefEqProofs (maxSteps := 1000000) [h3i])
      | (refine yl_pureG rfl rfl rfl (by first | assumption | kernel_rfl) rfl (fun hc => by first | exact alive4_ok | exact h1 | exact h2 | exact h4 | exact h5) (by simp) (by simp) (by simp) ?_; simp -implicitDefEqProofs (maxSteps := 1000000) [h3i])
      | (refine awl_pure' [] rfl rfl rfl (by first | assumption | kernel_rfl) rfl (by first | exact alive4_ok | exact h1 | exact h2 | exact h4 | exact h5) (by simp) (by simp) ?_; simp -implicitDefEqProofs (maxSteps := 1000000) [h3i])
      | (refine yl_pure rfl rfl rfl (by first | assumption | kernel_rfl) rfl (by first | exact alive4_ok | exact h1 | exact h2 | exact h4 | exact h5) (by simp) (by simp) ?_; simp -implicitDefEqProofs (maxSteps := 1000000) [h3i])
      | (refine zl_pure_guard (by simp) rfl rfl rfl (by first | assumption | kernel_rfl) rfl (fun hc => by first | exact alive4_ok | exact h1 | exact h2 | exact h4 | exact h5) (by simp) (by simp) (by simp) ?_; simp -implicitDefEqProofs (maxSteps := 1000000) [h3i]; repeat refine zcur (by decide +kernel) ?_)
      | (refine zl_pure (by simp) rfl rfl rfl (by first | assumption | kernel_rfl) rfl (by first | exact alive4_ok | exact h1 | exact h2 | exact h4 | exact h5) (by simp) (by simp) ?_; simp -implicitDefEqProofs (maxSteps := 1000000) [h3i]; repeat refine zcur (by decide +kernel) ?_)
      | (refine aw_cond rfl (fun h => ?_) (fun h => ?_) <;> try (with_reducible first | exact ff_tt h | exact tt_ff h))
      | (refine aw_skip ?_; simp -implicitDefEqProofs (maxSteps := 1000000) [h3i])
      | refine aw_block ?_
      | (refine aw_exit ?_; simp -implicitDefEqProofs (maxSteps := 1000000) [h3i])
      | refine aw_ret (ret_of (.inr rfl) (by simp [Tryd.results3]; rfl) (Fin.of ?_)))
    simp [tupOf]
theorem LexerTells_all (s : ByteArray) (hs : s.size ≤ 140737488351232) : APure Tryd.prog 3 [vs s] (vb true) := lexerTells_ok s (by omega)
end Go.AL
