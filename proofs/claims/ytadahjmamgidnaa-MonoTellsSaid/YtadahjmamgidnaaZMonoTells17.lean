/- Parts of the proof of MonoTells: the logic, contracts, plain laws. -/
import Derived.Test.YtadahjmamgidnaaZMonoTells16
import Derived.Test.YtadahjmamgidnaaZMonoTells15
/-! Contracts: gridironref04.one. -/
namespace Go.AL
open Go.Proofs Go.Proofs.Ytadahjmamgidnaa.Dec Go.Lib
set_option linter.unusedSimpArgs false
set_option linter.unusedVariables false
theorem leadL_at {p : Int → Bool} {L : List UInt8} {n : Nat} (h : ∀ x ∈ L.take n, p x.toNat = true) (hn : n ≤ L.length) (hs : n = L.length ∨ ∃ x, L[n]? = some x ∧ p x.toNat = false) : leadL p ⟨⟨L⟩⟩ = n := by
  show (L.takeWhile fun b => p b.toNat).length = n
  rw [← List.take_append_drop n L, List.takeWhile_append_of_pos h]
  rcases hs with h1 | ⟨x, hx, hp⟩
  · rw [h1, List.drop_length]; simp
  · have : L.drop n = x :: L.drop (n + 1) := by
      obtain ⟨hlt, he⟩ := List.getElem?_eq_some_iff.1 hx
      rw [List.drop_eq_getElem_cons hlt, he]
    rw [this, List.takeWhile_cons_of_neg (by simp [hp])]
    simp; omega
theorem leadS_eq (p : Int → Bool) (L : List UInt8) : leadS p ⟨⟨L⟩⟩ = ⟨⟨L.take (leadL p ⟨⟨L⟩⟩)⟩⟩ := extract_take _ _
theorem leadL_take (p : Int → Bool) (L : List UInt8) : ∀ x ∈ L.take (leadL p ⟨⟨L⟩⟩), p x.toNat = true := by
  intro x hx
  have key : ∀ L : List UInt8, ∀ x ∈ L.take (L.takeWhile fun b => p b.toNat).length, p x.toNat = true := by
    intro L
    induction L with
    | nil => intro x hx; simp at hx
    | cons b l ih =>
      intro x hx
      by_cases hb : p b.toNat = true
      · rw [List.takeWhile_cons_of_pos (by simpa using hb)] at hx
        simp at hx
        rcases hx with rfl | hx
        · exact hb
        · exact ih x hx
      · rw [List.takeWhile_cons_of_neg (by simpa using hb)] at hx
        simp at hx
  exact key L x hx
theorem leadL_pos {p : Int → Bool} {b : UInt8} {l : List UInt8} (h : p b.toNat = true) : 0 < leadL p ⟨⟨b :: l⟩⟩ := by
  show 0 < ((b :: l).takeWhile fun b => p b.toNat).length
  rw [List.takeWhile_cons_of_pos (by simpa using h)]; simp
theorem xmid (pre L : List UInt8) (n : Nat) : (⟨⟨pre ++ L⟩⟩ : ByteArray).extract pre.length (pre.length + n) = ⟨⟨L.take n⟩⟩ := by
  apply ByteArray.ext
  simp [ByteArray.data_extract]
theorem atN (pre L : List UInt8) (n : Nat) : (pre ++ L)[pre.length + n]? = L[n]? := by
  rw [List.getElem?_append_right (by omega)]; congr 1; omega
theorem take_snoc {p : Int → Bool} {L : List UInt8} {n : Nat} {x : UInt8} (h : ∀ x ∈ L.take n, p x.toNat = true) (hx : L[n]? = some x) (hp : p x.toNat = true) : ∀ x ∈ L.take (n + 1), p x.toNat = true := by
  intro y hy
  rw [List.take_add_one, hx] at hy
  simp at hy
  rcases hy with hy | rfl
  · exact h y hy
  · exact hp
set_option maxHeartbeats 4000000 in
set_option maxRecDepth 100000 in
theorem rone_num (pre : List UInt8) (b : UInt8) (l : List UInt8) (hs : (pre ++ b :: l).length ≤ 281474976710656) (hf : figR b.toNat = true) (x : Tok) (hx : x = nextT ⟨⟨b :: l⟩⟩ b) :
    APure Try.prog 94 [vs ⟨⟨pre ++ b :: l⟩⟩, vi (pre.length : Nat)] (.tup [x.av (if x.len = 0 then 0 else (pre.length : Nat)), vi (x.len : Nat)]) := by
  have hp : (0 : Int) ≤ pre.length := by omega
  have h0 := at0 pre b l
  obtain ⟨L, hL⟩ : ∃ L, L = b :: l := ⟨_, rfl⟩
  have hlL : L.length = l.length + 1 := by rw [hL]; rfl
  have hs2 : pre.length + L.length ≤ 281474976710656 := by simp at hs; omega
  have hfg := rfigure_ok b
  rw [hf] at hfg
  obtain ⟨N, hN⟩ : ∃ N, N = leadL figR ⟨⟨L⟩⟩ := ⟨_, rfl⟩
  have hNp : 0 < N := by rw [hN, hL]; exact leadL_pos hf
  have hNl : N ≤ L.length := by rw [hN]; have := leadL_le figR ⟨⟨L⟩⟩; have e : (⟨⟨L⟩⟩ : ByteArray).size = L.length := rfl; omega
  have hall : (L.take N).all fig = true := by
    rw [List.all_eq_true]; intro y hy; rw [fig_iff]; rw [hN] at hy; exact leadL_take _ _ y hy
  have hnum := rnumber_ok (L.take N) (by rw [List.length_take]; omega) hall
  have hat := atoi_figs (l := L.take N) (fun h => by have := congrArg List.length h; rw [List.length_take, List.length_nil] at this; omega) hall
  have hxx : x = (if fval 0 (L.take N) ≤ 9223372036854775807 then ⟨1, fval 0 (L.take N), 0, 0, ⟨#[]⟩, N⟩ else noTok) := by
    rw [hx, nextT, if_pos hf, leadS_eq, ← hL, ← hN]
    rcases hat with ⟨h1, h2⟩ | ⟨h1, h2⟩
    · rw [if_pos h1, show (ByteArray.data ⟨⟨L.take N⟩⟩).toList = L.take N from rfl, h2]
    · rw [if_neg (by omega)]
      split
      · rename_i v hv; exact absurd hv (h2 v)
      · rfl
  have hxm := xmid pre L N
  have wN : IntKind.i64.wrap ((pre.length : Int) + (N : Int)) = ((pre.length + N : Nat) : Int) := by rw [wrap_id (by omega) (by omega)]; omega
  rw [← hL] at h0 ⊢
  clear hs
  refine apure_of Try.func94 Try.ntmps94 rfl ?_
  simp only [List.length_cons, List.length_nil, List.cons_append, List.nil_append, List.replicate]
  repeat' (first
    | refine aw_seq ?_
    | (refine aw_run [4, 11] ?_; try simp -implicitDefEqProofs (maxSteps := 1000000) [bsizeL, hp, h0])
    | ((first | refine awl_skip' [4, 11] rfl ?_ | refine awl_pure_guard [4, 11] rfl rfl rfl (by first | assumption | kernel_rfl) rfl (fun hc => by first | exact hfg) (by simp) (by simp) (by simp) ?_ | refine awl_pure' [4, 11] rfl rfl rfl (by first | assumption | kernel_rfl) rfl (by first | exact hfg) (by simp) (by simp) ?_ | refine aw_skip ?_ | refine aw_exit ?_); try simp -implicitDefEqProofs (maxSteps := 1000000) [bsizeL, hp, h0])
    | (refine aw_cond rfl (fun h => ?_) (fun h => ?_) <;> try (with_reducible first | exact ff_tt h | exact tt_ff h))
    | refine aw_block ?_
    | refine aw_ret (ret_of (.inr rfl) (by simp [Try.results94]; rfl) (Fin.of ?_))
    | refine ret_of (.inl rfl) (by simp [Try.results94]; rfl) (Fin.of ?_))
  refine (aw_loopW [0, 1, 4, 6] (fun n fr σ => ∃ i m : Nat, i + n = L.length ∧ 1 ≤ m ∧ (∀ y ∈ L.take i, figR y.toNat = true) ∧ σ = mkSt [(0, [vi 0, vi 0, vi 0, vi 0, vs ⟨#[]⟩, vi 0])] [] m ∧ fr = frm 148 [(0, vs ⟨⟨pre ++ L⟩⟩), (1, vi (pre.length : Nat)), (4, .ptr 0 0), (6, vi (i : Nat))]) L.length ?_ ?_)
  · refine ⟨mkSt [(0, [vi 0, vi 0, vi 0, vi 0, vs ⟨#[]⟩, vi 0])] [] 1, le_mkSt (by simp [σ0]) (by simp) (by simp [σ0]), 0, 1, by omega, by omega, by simp, rfl, by simp [σ0]⟩
  · rintro n fr σ ⟨i, m, hi, hm, hall2, rfl, rfl⟩
    simp
    have w1 : IntKind.i64.wrap ((pre.length : Int) + (i : Int)) = (pre.length : Int) + (i : Int) := wrap_id (by omega) (by omega)
    have w3 : ((pre.length : Int) + (i : Int)).toNat = pre.length + i := by omega
    have hi0 : (0 : Int) ≤ (pre.length : Int) + (i : Int) := by omega
    have hai := atN pre L i
    have w2 : IntKind.i64.wrap ((i : Int) + 1) = ((i + 1 : Nat) : Int) := by rw [wrap_id (by omega) (by omega)]; omega
    by_cases hlt : i < L.length
    · obtain ⟨y, hy⟩ : ∃ y, L[i] = y := ⟨_, rfl⟩
      have hy2 : L[i]? = some y := by rw [List.getElem?_eq_getElem hlt, hy]
      rw [hy2] at hai
      by_cases hfy : figR y.toNat = true
      · have h48 : (48 : Int) ≤ y.toNat ∧ (y.toNat : Int) ≤ 57 := by simpa [figR] using hfy
        repeat' (first
          | refine aw_seq ?_
          | (refine aw_run [4, 11] ?_; try simp -implicitDefEqProofs (maxSteps := 1000000) [bsizeL, w1, w2, w3, hi0, hy, hlt, h48.1, h48.2])
          | ((first | refine awl_skip' [4, 11] rfl ?_ | refine aw_skip ?_ | refine aw_exit ?_); try simp -implicitDefEqProofs (maxSteps := 1000000) [bsizeL, w1, w2, w3, hi0, hy, hlt, h48.1, h48.2])
          | (refine aw_cond rfl (fun h => ?_) (fun h => ?_) <;> try (with_reducible first | exact ff_tt h | exact tt_ff h))
          | refine aw_block ?_
          | refine aw_ret (ret_of (.inr rfl) (by simp [Try.results94]; rfl) (Fin.of ?_))
          | refine ret_of (.inl rfl) (by simp [Try.results94]; rfl) (Fin.of ?_))
        exact ⟨n - 1, by omega, _, le_mkSt (bs := [(0, [vi 0, vi 0, vi 0, vi 0, vs ⟨#[]⟩, vi 0])]) (ss := []) (n := m) (by simp) (by simp) (by simp), i + 1, by omega, m, hm, take_snoc hall2 hy2 hfy, rfl, rfl⟩
      · have hn48 : ¬ ((48 : Int) ≤ y.toNat ∧ (y.toNat : Int) ≤ 57) := by simpa [figR] using hfy
        by_cases h48 : (48 : Int) ≤ y.toNat
        · have h57 : ¬ (y.toNat : Int) ≤ 57 := fun h => hn48 ⟨h48, h⟩
          have hNi : N = i := by rw [hN]; exact leadL_at hall2 (by omega) (.inr ⟨y, hy2, by simpa using hfy⟩)
          subst hNi
          rcases hat with ⟨h1, h2⟩ | ⟨h1, h2⟩
          · rw [if_pos h1, decide_eq_true h1] at hnum
            rw [if_pos h1] at hxx
            rw [hxx]
            have hNz : ¬ N = 0 := by omega
            repeat' (first
              | refine aw_seq ?_
              | (refine aw_run [4, 11] ?_; try simp -implicitDefEqProofs (maxSteps := 1000000) [bsizeL, w1, hp, w3, hi0, hlt, hy, h48, h57, hxm, hNl, hNp])
              | ((first | refine awl_skip' [4, 11] rfl ?_ | refine awl_pure_guard [4, 11] rfl rfl rfl (by first | assumption | kernel_rfl) rfl (fun hc => by first | exact hnum) (by simp) (by simp) (by simp) ?_ | refine awl_pure' [4, 11] rfl rfl rfl (by first | assumption | kernel_rfl) rfl (by first | exact hnum) (by simp) (by simp) ?_ | refine aw_skip ?_ | refine aw_exit ?_); try simp -implicitDefEqProofs (maxSteps := 1000000) [bsizeL, w1, hp, w3, hi0, hlt, hy, h48, h57, hxm, hNl, hNp])
              | (refine aw_cond rfl (fun h => ?_) (fun h => ?_) <;> try (with_reducible first | exact ff_tt h | exact tt_ff h))
              | refine aw_block ?_
              | refine aw_ret (ret_of (.inr rfl) (by simp [Try.results94]; rfl) (Fin.of ?_))
              | refine ret_of (.inl rfl) (by simp [Try.results94]; rfl) (Fin.of ?_))
            simp [tupOf, Tok.av, hNz]
          · rw [if_neg (by omega), decide_eq_false (by omega)] at hnum
            rw [if_neg (by omega)] at hxx
            rw [hxx]
            repeat' (first
              | refine aw_seq ?_
              | (refine aw_run [4, 11] ?_; try simp -implicitDefEqProofs (maxSteps := 1000000) [bsizeL, w1, hp, w3, hi0, hlt, hy, h48, h57, hxm, hNl, hNp])
              | ((first | refine awl_skip' [4, 11] rfl ?_ | refine awl_pure_guard [4, 11] rfl rfl rfl (by first | assumption | kernel_rfl) rfl (fun hc => by first | exact hnum) (by simp) (by simp) (by simp) ?_ | refine awl_pure' [4, 11] rfl rfl rfl (by first | assumption | kernel_rfl) rfl (by first | exact hnum) (by simp) (by simp) ?_ | refine aw_skip ?_ | refine aw_exit ?_); try simp -implicitDefEqProofs (maxSteps := 1000000) [bsizeL, w1, hp, w3, hi0, hlt, hy, h48, h57, hxm, hNl, hNp])
              | (refine aw_cond rfl (fun h => ?_) (fun h => ?_) <;> try (with_reducible first | exact ff_tt h | exact tt_ff h))
              | refine aw_block ?_
              | refine aw_ret (ret_of (.inr rfl) (by simp [Try.results94]; rfl) (Fin.of ?_))
              | refine ret_of (.inl rfl) (by simp [Try.results94]; rfl) (Fin.of ?_))
            simp [tupOf, Tok.av, noTok]
        · have h57 : True := trivial
          have hNi : N = i := by rw [hN]; exact leadL_at hall2 (by omega) (.inr ⟨y, hy2, by simpa using hfy⟩)
          subst hNi
          rcases hat with ⟨h1, h2⟩ | ⟨h1, h2⟩
          · rw [if_pos h1, decide_eq_true h1] at hnum
            rw [if_pos h1] at hxx
            rw [hxx]
            have hNz : ¬ N = 0 := by omega
            repeat' (first
              | refine aw_seq ?_
              | (refine aw_run [4, 11] ?_; try simp -implicitDefEqProofs (maxSteps := 1000000) [bsizeL, w1, hp, w3, hi0, hlt, hy, h48, h57, hxm, hNl, hNp])
              | ((first | refine awl_skip' [4, 11] rfl ?_ | refine awl_pure_guard [4, 11] rfl rfl rfl (by first | assumption | kernel_rfl) rfl (fun hc => by first | exact hnum) (by simp) (by simp) (by simp) ?_ | refine awl_pure' [4, 11] rfl rfl rfl (by first | assumption | kernel_rfl) rfl (by first | exact hnum) (by simp) (by simp) ?_ | refine aw_skip ?_ | refine aw_exit ?_); try simp -implicitDefEqProofs (maxSteps := 1000000) [bsizeL, w1, hp, w3, hi0, hlt, hy, h48, h57, hxm, hNl, hNp])
              | (refine aw_cond rfl (fun h => ?_) (fun h => ?_) <;> try (with_reducible first | exact ff_tt h | exact tt_ff h))
              | refine aw_block ?_
              | refine aw_ret (ret_of (.inr rfl) (by simp [Try.results94]; rfl) (Fin.of ?_))
              | refine ret_of (.inl rfl) (by simp [Try.results94]; rfl) (Fin.of ?_))
            simp [tupOf, Tok.av, hNz]
          · rw [if_neg (by omega), decide_eq_false (by omega)] at hnum
            rw [if_neg (by omega)] at hxx
            rw [hxx]
            repeat' (first
              | refine aw_seq ?_
              | (refine aw_run [4, 11] ?_; try simp -implicitDefEqProofs (maxSteps := 1000000) [bsizeL, w1, hp, w3, hi0, hlt, hy, h48, h57, hxm, hNl, hNp])
              | ((first | refine awl_skip' [4, 11] rfl ?_ | refine awl_pure_guard [4, 11] rfl rfl rfl (by first | assumption | kernel_rfl) rfl (fun hc => by first | exact hnum) (by simp) (by simp) (by simp) ?_ | refine awl_pure' [4, 11] rfl rfl rfl (by first | assumption | kernel_rfl) rfl (by first | exact hnum) (by simp) (by simp) ?_ | refine aw_skip ?_ | refine aw_exit ?_); try simp -implicitDefEqProofs (maxSteps := 1000000) [bsizeL, w1, hp, w3, hi0, hlt, hy, h48, h57, hxm, hNl, hNp])
              | (refine aw_cond rfl (fun h => ?_) (fun h => ?_) <;> try (with_reducible first | exact ff_tt h | exact tt_ff h))
              | refine aw_block ?_
              | refine aw_ret (ret_of (.inr rfl) (by simp [Try.results94]; rfl) (Fin.of ?_))
              | refine ret_of (.inl rfl) (by simp [Try.results94]; rfl) (Fin.of ?_))
            simp [tupOf, Tok.av, noTok]
    · have hil : i = L.length := by omega
      have hNi : N = i := by rw [hN]; exact leadL_at hall2 (by omega) (.inl hil)
      subst hNi
      rcases hat with ⟨h1, h2⟩ | ⟨h1, h2⟩
      · rw [if_pos h1, decide_eq_true h1] at hnum
        rw [if_pos h1] at hxx
        rw [hxx]
        have hNz : ¬ N = 0 := by omega
        repeat' (first
          | refine aw_seq ?_
          | (refine aw_run [4, 11] ?_; try simp -implicitDefEqProofs (maxSteps := 1000000) [bsizeL, w1, hp, w3, hi0, hlt, hxm, hNl, hNp])
          | ((first | refine awl_skip' [4, 11] rfl ?_ | refine awl_pure_guard [4, 11] rfl rfl rfl (by first | assumption | kernel_rfl) rfl (fun hc => by first | exact hnum) (by simp) (by simp) (by simp) ?_ | refine awl_pure' [4, 11] rfl rfl rfl (by first | assumption | kernel_rfl) rfl (by first | exact hnum) (by simp) (by simp) ?_ | refine aw_skip ?_ | refine aw_exit ?_); try simp -implicitDefEqProofs (maxSteps := 1000000) [bsizeL, w1, hp, w3, hi0, hlt, hxm, hNl, hNp])
          | (refine aw_cond rfl (fun h => ?_) (fun h => ?_) <;> try (with_reducible first | exact ff_tt h | exact tt_ff h))
          | refine aw_block ?_
          | refine aw_ret (ret_of (.inr rfl) (by simp [Try.results94]; rfl) (Fin.of ?_))
          | refine ret_of (.inl rfl) (by simp [Try.results94]; rfl) (Fin.of ?_))
        simp [tupOf, Tok.av, hNz]
      · rw [if_neg (by omega), decide_eq_false (by omega)] at hnum
        rw [if_neg (by omega)] at hxx
        rw [hxx]
        repeat' (first
          | refine aw_seq ?_
          | (refine aw_run [4, 11] ?_; try simp -implicitDefEqProofs (maxSteps := 1000000) [bsizeL, w1, hp, w3, hi0, hlt, hxm, hNl, hNp])
          | ((first | refine awl_skip' [4, 11] rfl ?_ | refine awl_pure_guard [4, 11] rfl rfl rfl (by first | assumption | kernel_rfl) rfl (fun hc => by first | exact hnum) (by simp) (by simp) (by simp) ?_ | refine awl_pure' [4, 11] rfl rfl rfl (by first | assumption | kernel_rfl) rfl (by first | exact hnum) (by simp) (by simp) ?_ | refine aw_skip ?_ | refine aw_exit ?_); try simp -implicitDefEqProofs (maxSteps := 1000000) [bsizeL, w1, hp, w3, hi0, hlt, hxm, hNl, hNp])
          | (refine aw_cond rfl (fun h => ?_) (fun h => ?_) <;> try (with_reducible first | exact ff_tt h | exact tt_ff h))
          | refine aw_block ?_
          | refine aw_ret (ret_of (.inr rfl) (by simp [Try.results94]; rfl) (Fin.of ?_))
          | refine ret_of (.inl rfl) (by simp [Try.results94]; rfl) (Fin.of ?_))
        simp [tupOf, Tok.av, noTok]
set_option maxHeartbeats 4000000 in
set_option maxRecDepth 100000 in
theorem rone_name (pre : List UInt8) (b : UInt8) (l : List UInt8) (hs : (pre ++ b :: l).length ≤ 281474976710656) (hf : figR b.toNat = false) (hle : letR b.toNat = true) (x : Tok) (hx : x = nextT ⟨⟨b :: l⟩⟩ b) :
    APure Try.prog 94 [vs ⟨⟨pre ++ b :: l⟩⟩, vi (pre.length : Nat)] (.tup [x.av (if x.len = 0 then 0 else (pre.length : Nat)), vi (x.len : Nat)]) := by
  have hp : (0 : Int) ≤ pre.length := by omega
  have h0 := at0 pre b l
  obtain ⟨L, hL⟩ : ∃ L, L = b :: l := ⟨_, rfl⟩
  have hlL : L.length = l.length + 1 := by rw [hL]; rfl
  have hs2 : pre.length + L.length ≤ 281474976710656 := by simp at hs; omega
  have hfg := rfigure_ok b
  rw [hf] at hfg
  have hl2 : (65 : Int) ≤ b.toNat ∧ (b.toNat : Int) ≤ 90 := by simpa [letR] using hle
  obtain ⟨l65, l90⟩ := hl2
  obtain ⟨N, hN⟩ : ∃ N, N = leadL nameR ⟨⟨L⟩⟩ := ⟨_, rfl⟩
  have hNp : 0 < N := by rw [hN, hL]; exact leadL_pos (by simp [nameR, hle])
  have hNz : ¬ N = 0 := by omega
  have hNl : N ≤ L.length := by rw [hN]; have := leadL_le nameR ⟨⟨L⟩⟩; have e : (⟨⟨L⟩⟩ : ByteArray).size = L.length := rfl; omega
  have hwd := rword_ok ⟨⟨L.take N⟩⟩
  have hpa := rparse_ok ⟨⟨L.take N⟩⟩ (by simp only [bsizeL, List.size_toArray, List.length_take]; omega)
  have hxx : x = (if isWord ⟨⟨L.take N⟩⟩ then ⟨4, 0, 0, 0, ⟨⟨L.take N⟩⟩, N⟩ else placeTok ⟨⟨L⟩⟩ (z (parseB ⟨⟨L.take N⟩⟩) (atC (parseI ⟨⟨L.take N⟩⟩))) (z (parseB ⟨⟨L.take N⟩⟩) (atR (parseI ⟨⟨L.take N⟩⟩))) (parseE ⟨⟨L.take N⟩⟩)) := by
    rw [hx, nextT, if_neg (by simp [hf]), if_pos hle, leadS_eq, ← hL, ← hN]
  have hplace : ∀ c r e, placeTok ⟨⟨L⟩⟩ c r e = ⟨if e = 0 then 2 else if e = 4 then 3 else 0, 0, if e = 0 then c else 0, if e = 0 then r else 0, ⟨#[]⟩, if e = 0 ∨ e = 4 then N else 0⟩ := fun c r e => by rw [placeTok, ← hN]
  rw [hplace] at hxx
  generalize z (parseB ⟨⟨L.take N⟩⟩) (atC (parseI ⟨⟨L.take N⟩⟩)) = pc at *
  generalize z (parseB ⟨⟨L.take N⟩⟩) (atR (parseI ⟨⟨L.take N⟩⟩)) = pr at *
  generalize parseE ⟨⟨L.take N⟩⟩ = pe at *
  have hxm := xmid pre L N
  rw [← hL] at h0 ⊢
  clear hs
  refine apure_of Try.func94 Try.ntmps94 rfl ?_
  simp only [List.length_cons, List.length_nil, List.cons_append, List.nil_append, List.replicate]
  repeat' (first
    | refine aw_seq ?_
    | (refine aw_run [4, 11] ?_; try simp -implicitDefEqProofs (maxSteps := 1000000) [bsizeL, hp, h0, l65, l90])
    | ((first | refine awl_skip' [4, 11] rfl ?_ | refine awl_pure_guard [4, 11] rfl rfl rfl (by first | assumption | kernel_rfl) rfl (fun hc => by first | exact hfg) (by simp) (by simp) (by simp) ?_ | refine awl_pure' [4, 11] rfl rfl rfl (by first | assumption | kernel_rfl) rfl (by first | exact hfg) (by simp) (by simp) ?_ | refine aw_skip ?_ | refine aw_exit ?_); try simp -implicitDefEqProofs (maxSteps := 1000000) [bsizeL, hp, h0, l65, l90])
    | (refine aw_cond rfl (fun h => ?_) (fun h => ?_) <;> try (with_reducible first | exact ff_tt h | exact tt_ff h))
    | refine aw_block ?_
    | refine aw_ret (ret_of (.inr rfl) (by simp [Try.results94]; rfl) (Fin.of ?_))
    | refine ret_of (.inl rfl) (by simp [Try.results94]; rfl) (Fin.of ?_))
  refine (aw_loopW [0, 1, 4, 6] (fun n fr σ => ∃ i m : Nat, i + n = L.length ∧ 1 ≤ m ∧ (∀ y ∈ L.take i, nameR y.toNat = true) ∧ σ = mkSt [(0, [vi 0, vi 0, vi 0, vi 0, vs ⟨#[]⟩, vi 0])] [] m ∧ fr = frm 148 [(0, vs ⟨⟨pre ++ L⟩⟩), (1, vi (pre.length : Nat)), (4, .ptr 0 0), (6, vi (i : Nat))]) L.length ?_ ?_)
  · refine ⟨mkSt [(0, [vi 0, vi 0, vi 0, vi 0, vs ⟨#[]⟩, vi 0])] [] 1, le_mkSt (by simp [σ0]) (by simp) (by simp [σ0]), 0, 1, by omega, by omega, by simp, rfl, by simp [σ0]⟩
  · rintro n fr σ ⟨i, m, hi, hm, hall2, rfl, rfl⟩
    simp
    have w1 : IntKind.i64.wrap ((pre.length : Int) + (i : Int)) = (pre.length : Int) + (i : Int) := wrap_id (by omega) (by omega)
    have w3 : ((pre.length : Int) + (i : Int)).toNat = pre.length + i := by omega
    have hi0 : (0 : Int) ≤ (pre.length : Int) + (i : Int) := by omega
    have w2 : IntKind.i64.wrap ((i : Int) + 1) = ((i + 1 : Nat) : Int) := by rw [wrap_id (by omega) (by omega)]; omega
    have hm0 : ¬ 0 = m := by omega
    by_cases hlt : i < L.length
    · obtain ⟨y, hy⟩ : ∃ y, L[i] = y := ⟨_, rfl⟩
      have hy2 : L[i]? = some y := by rw [List.getElem?_eq_getElem hlt, hy]
      have hnd := rnamed_ok y
      by_cases hfy : nameR y.toNat = true
      · rw [hfy] at hnd
        repeat' (first
          | refine aw_seq ?_
          | (refine aw_run [4, 11] ?_; try simp -implicitDefEqProofs (maxSteps := 1000000) [bsizeL, w1, w2, w3, hi0, hy, hlt])
          | ((first | refine awl_skip' [4, 11] rfl ?_ | refine awl_pure_guard [4, 11] rfl rfl rfl (by first | assumption | kernel_rfl) rfl (fun hc => by first | exact hnd) (by simp) (by simp) (by simp) ?_ | refine awl_pure' [4, 11] rfl rfl rfl (by first | assumption | kernel_rfl) rfl (by first | exact hnd) (by simp) (by simp) ?_ | refine aw_skip ?_ | refine aw_exit ?_); try simp -implicitDefEqProofs (maxSteps := 1000000) [bsizeL, w1, w2, w3, hi0, hy, hlt])
          | (refine aw_cond rfl (fun h => ?_) (fun h => ?_) <;> try (with_reducible first | exact ff_tt h | exact tt_ff h))
          | refine aw_block ?_
          | refine aw_ret (ret_of (.inr rfl) (by simp [Try.results94]; rfl) (Fin.of ?_))
          | refine ret_of (.inl rfl) (by simp [Try.results94]; rfl) (Fin.of ?_))
        exact ⟨n - 1, by omega, _, le_mkSt (bs := [(0, [vi 0, vi 0, vi 0, vi 0, vs ⟨#[]⟩, vi 0])]) (ss := []) (n := m) (by simp) (by simp) (by simp), i + 1, by omega, m, hm, take_snoc hall2 hy2 hfy, rfl, rfl⟩
      · have hfy' : nameR y.toNat = false := by simpa using hfy
        rw [hfy'] at hnd
        have hNi : N = i := by rw [hN]; exact leadL_at hall2 (by omega) (.inr ⟨y, hy2, hfy'⟩)
        subst hNi
        by_cases hw : isWord ⟨⟨L.take N⟩⟩
        · rw [decide_eq_true hw] at hwd
          rw [if_pos hw] at hxx
          rw [hxx]
          repeat' (first
            | refine aw_seq ?_
            | (refine aw_run [4, 11] ?_; try simp -implicitDefEqProofs (maxSteps := 1000000) [bsizeL, w1, hp, w3, hi0, hlt, hy, hm0, hxm, hNl, hNp])
            | ((first | refine awl_skip' [4, 11] rfl ?_ | refine awl_pure_guard [4, 11] rfl rfl rfl (by first | assumption | kernel_rfl) rfl (fun hc => by first | exact hnd | exact hpa | exact hwd) (by simp) (by simp) (by simp) ?_ | refine awl_pure' [4, 11] rfl rfl rfl (by first | assumption | kernel_rfl) rfl (by first | exact hnd | exact hpa | exact hwd) (by simp) (by simp) ?_ | refine aw_skip ?_ | refine aw_exit ?_); try simp -implicitDefEqProofs (maxSteps := 1000000) [bsizeL, w1, hp, w3, hi0, hlt, hy, hm0, hxm, hNl, hNp])
            | (refine aw_cond rfl (fun h => ?_) (fun h => ?_) <;> try (with_reducible first | exact ff_tt h | exact tt_ff h))
            | refine aw_block ?_
            | refine aw_ret (ret_of (.inr rfl) (by simp [Try.results94]; rfl) (Fin.of ?_))
            | refine ret_of (.inl rfl) (by simp [Try.results94]; rfl) (Fin.of ?_))
          simp [tupOf, Tok.av, hNz]
        · rw [decide_eq_false hw] at hwd
          rw [if_neg hw] at hxx
          by_cases e0 : pe = 0
          · rw [hxx, e0]
            rw [e0] at hpa
            repeat' (first
              | refine aw_seq ?_
              | (refine aw_run [4, 11] ?_; try simp -implicitDefEqProofs (maxSteps := 1000000) [bsizeL, w1, hp, w3, hi0, hlt, hy, hm0, hxm, hNl, hNp])
              | ((first | refine awl_skip' [4, 11] rfl ?_ | refine awl_pure_guard [4, 11] rfl rfl rfl (by first | assumption | kernel_rfl) rfl (fun hc => by first | exact hnd | exact hpa | exact hwd) (by simp) (by simp) (by simp) ?_ | refine awl_pure' [4, 11] rfl rfl rfl (by first | assumption | kernel_rfl) rfl (by first | exact hnd | exact hpa | exact hwd) (by simp) (by simp) ?_ | refine aw_skip ?_ | refine aw_exit ?_); try simp -implicitDefEqProofs (maxSteps := 1000000) [bsizeL, w1, hp, w3, hi0, hlt, hy, hm0, hxm, hNl, hNp])
              | (refine aw_cond rfl (fun h => ?_) (fun h => ?_) <;> try (with_reducible first | exact ff_tt h | exact tt_ff h))
              | refine aw_block ?_
              | refine aw_ret (ret_of (.inr rfl) (by simp [Try.results94]; rfl) (Fin.of ?_))
              | refine ret_of (.inl rfl) (by simp [Try.results94]; rfl) (Fin.of ?_))
            simp [tupOf, Tok.av, hNz, placeTok]
          · by_cases e4 : pe = 4
            · rw [hxx, e4]
              rw [e4] at hpa
              repeat' (first
                | refine aw_seq ?_
                | (refine aw_run [4, 11] ?_; try simp -implicitDefEqProofs (maxSteps := 1000000) [bsizeL, w1, hp, w3, hi0, hlt, hy, hm0, hxm, hNl, hNp])
                | ((first | refine awl_skip' [4, 11] rfl ?_ | refine awl_pure_guard [4, 11] rfl rfl rfl (by first | assumption | kernel_rfl) rfl (fun hc => by first | exact hnd | exact hpa | exact hwd) (by simp) (by simp) (by simp) ?_ | refine awl_pure' [4, 11] rfl rfl rfl (by first | assumption | kernel_rfl) rfl (by first | exact hnd | exact hpa | exact hwd) (by simp) (by simp) ?_ | refine aw_skip ?_ | refine aw_exit ?_); try simp -implicitDefEqProofs (maxSteps := 1000000) [bsizeL, w1, hp, w3, hi0, hlt, hy, hm0, hxm, hNl, hNp])
                | (refine aw_cond rfl (fun h => ?_) (fun h => ?_) <;> try (with_reducible first | exact ff_tt h | exact tt_ff h))
                | refine aw_block ?_
                | refine aw_ret (ret_of (.inr rfl) (by simp [Try.results94]; rfl) (Fin.of ?_))
                | refine ret_of (.inl rfl) (by simp [Try.results94]; rfl) (Fin.of ?_))
              simp [tupOf, Tok.av, hNz, placeTok]
            · rw [hxx]
              repeat' (first
                | refine aw_seq ?_
                | (refine aw_run [4, 11] ?_; try simp -implicitDefEqProofs (maxSteps := 1000000) [bsizeL, w1, hp, w3, hi0, hlt, hy, hm0, hxm, hNl, hNp, e0, e4])
                | ((first | refine awl_skip' [4, 11] rfl ?_ | refine awl_pure_guard [4, 11] rfl rfl rfl (by first | assumption | kernel_rfl) rfl (fun hc => by first | exact hnd | exact hpa | exact hwd) (by simp) (by simp) (by simp) ?_ | refine awl_pure' [4, 11] rfl rfl rfl (by first | assumption | kernel_rfl) rfl (by first | exact hnd | exact hpa | exact hwd) (by simp) (by simp) ?_ | refine aw_skip ?_ | refine aw_exit ?_); try simp -implicitDefEqProofs (maxSteps := 1000000) [bsizeL, w1, hp, w3, hi0, hlt, hy, hm0, hxm, hNl, hNp, e0, e4])
                | (refine aw_cond rfl (fun h => ?_) (fun h => ?_) <;> try (with_reducible first | exact ff_tt h | exact tt_ff h))
                | refine aw_block ?_
                | refine aw_ret (ret_of (.inr rfl) (by simp [Try.results94]; rfl) (Fin.of ?_))
                | refine ret_of (.inl rfl) (by simp [Try.results94]; rfl) (Fin.of ?_))
              simp [tupOf, Tok.av, placeTok, e0, e4]
    · have hil : i = L.length := by omega
      have hNi : N = i := by rw [hN]; exact leadL_at hall2 (by omega) (.inl hil)
      subst hNi
      by_cases hw : isWord ⟨⟨L.take N⟩⟩
      · rw [decide_eq_true hw] at hwd
        rw [if_pos hw] at hxx
        rw [hxx]
        repeat' (first
          | refine aw_seq ?_
          | (refine aw_run [4, 11] ?_; try simp -implicitDefEqProofs (maxSteps := 1000000) [bsizeL, w1, hp, w3, hi0, hlt, hm0, hxm, hNl, hNp])
          | ((first | refine awl_skip' [4, 11] rfl ?_ | refine awl_pure_guard [4, 11] rfl rfl rfl (by first | assumption | kernel_rfl) rfl (fun hc => by first | exact hpa | exact hwd) (by simp) (by simp) (by simp) ?_ | refine awl_pure' [4, 11] rfl rfl rfl (by first | assumption | kernel_rfl) rfl (by first | exact hpa | exact hwd) (by simp) (by simp) ?_ | refine aw_skip ?_ | refine aw_exit ?_); try simp -implicitDefEqProofs (maxSteps := 1000000) [bsizeL, w1, hp, w3, hi0, hlt, hm0, hxm, hNl, hNp])
          | (refine aw_cond rfl (fun h => ?_) (fun h => ?_) <;> try (with_reducible first | exact ff_tt h | exact tt_ff h))
          | refine aw_block ?_
          | refine aw_ret (ret_of (.inr rfl) (by simp [Try.results94]; rfl) (Fin.of ?_))
          | refine ret_of (.inl rfl) (by simp [Try.results94]; rfl) (Fin.of ?_))
        simp [tupOf, Tok.av, hNz]
      · rw [decide_eq_false hw] at hwd
        rw [if_neg hw] at hxx
        by_cases e0 : pe = 0
        · rw [hxx, e0]
          rw [e0] at hpa
          repeat' (first
            | refine aw_seq ?_
            | (refine aw_run [4, 11] ?_; try simp -implicitDefEqProofs (maxSteps := 1000000) [bsizeL, w1, hp, w3, hi0, hlt, hm0, hxm, hNl, hNp])
            | ((first | refine awl_skip' [4, 11] rfl ?_ | refine awl_pure_guard [4, 11] rfl rfl rfl (by first | assumption | kernel_rfl) rfl (fun hc => by first | exact hpa | exact hwd) (by simp) (by simp) (by simp) ?_ | refine awl_pure' [4, 11] rfl rfl rfl (by first | assumption | kernel_rfl) rfl (by first | exact hpa | exact hwd) (by simp) (by simp) ?_ | refine aw_skip ?_ | refine aw_exit ?_); try simp -implicitDefEqProofs (maxSteps := 1000000) [bsizeL, w1, hp, w3, hi0, hlt, hm0, hxm, hNl, hNp])
            | (refine aw_cond rfl (fun h => ?_) (fun h => ?_) <;> try (with_reducible first | exact ff_tt h | exact tt_ff h))
            | refine aw_block ?_
            | refine aw_ret (ret_of (.inr rfl) (by simp [Try.results94]; rfl) (Fin.of ?_))
            | refine ret_of (.inl rfl) (by simp [Try.results94]; rfl) (Fin.of ?_))
          simp [tupOf, Tok.av, hNz, placeTok]
        · by_cases e4 : pe = 4
          · rw [hxx, e4]
            rw [e4] at hpa
            repeat' (first
              | refine aw_seq ?_
              | (refine aw_run [4, 11] ?_; try simp -implicitDefEqProofs (maxSteps := 1000000) [bsizeL, w1, hp, w3, hi0, hlt, hm0, hxm, hNl, hNp])
              | ((first | refine awl_skip' [4, 11] rfl ?_ | refine awl_pure_guard [4, 11] rfl rfl rfl (by first | assumption | kernel_rfl) rfl (fun hc => by first | exact hpa | exact hwd) (by simp) (by simp) (by simp) ?_ | refine awl_pure' [4, 11] rfl rfl rfl (by first | assumption | kernel_rfl) rfl (by first | exact hpa | exact hwd) (by simp) (by simp) ?_ | refine aw_skip ?_ | refine aw_exit ?_); try simp -implicitDefEqProofs (maxSteps := 1000000) [bsizeL, w1, hp, w3, hi0, hlt, hm0, hxm, hNl, hNp])
              | (refine aw_cond rfl (fun h => ?_) (fun h => ?_) <;> try (with_reducible first | exact ff_tt h | exact tt_ff h))
              | refine aw_block ?_
              | refine aw_ret (ret_of (.inr rfl) (by simp [Try.results94]; rfl) (Fin.of ?_))
              | refine ret_of (.inl rfl) (by simp [Try.results94]; rfl) (Fin.of ?_))
            simp [tupOf, Tok.av, hNz, placeTok]
          · rw [hxx]
            repeat' (first
              | refine aw_seq ?_
              | (refine aw_run [4, 11] ?_; try simp -implicitDefEqProofs (maxSteps := 1000000) [bsizeL, w1, hp, w3, hi0, hlt, hm0, hxm, hNl, hNp, e0, e4])
              | ((first | refine awl_skip' [4, 11] rfl ?_ | refine awl_pure_guard [4, 11] rfl rfl rfl (by first | assumption | kernel_rfl) rfl (fun hc => by first | exact hpa | exact hwd) (by simp) (by simp) (by simp) ?_ | refine awl_pure' [4, 11] rfl rfl rfl (by first | assumption | kernel_rfl) rfl (by first | exact hpa | exact hwd) (by simp) (by simp) ?_ | refine aw_skip ?_ | refine aw_exit ?_); try simp -implicitDefEqProofs (maxSteps := 1000000) [bsizeL, w1, hp, w3, hi0, hlt, hm0, hxm, hNl, hNp, e0, e4])
              | (refine aw_cond rfl (fun h => ?_) (fun h => ?_) <;> try (with_reducible first | exact ff_tt h | exact tt_ff h))
              | refine aw_block ?_
              | refine aw_ret (ret_of (.inr rfl) (by simp [Try.results94]; rfl) (Fin.of ?_))
              | refine ret_of (.inl rfl) (by simp [Try.results94]; rfl) (Fin.of ?_))
            simp [tupOf, Tok.av, placeTok, e0, e4]
set_option maxHeartbeats 4000000 in
set_option maxRecDepth 100000 in
theorem rone_other (pre : List UInt8) (b : UInt8) (l : List UInt8) (hs : (pre ++ b :: l).length ≤ 281474976710656) (hf : figR b.toNat = false) (hle : letR b.toNat = false) (x : Tok) (hx : x = nextT ⟨⟨b :: l⟩⟩ b) :
    APure Try.prog 94 [vs ⟨⟨pre ++ b :: l⟩⟩, vi (pre.length : Nat)] (.tup [x.av (if x.len = 0 then 0 else (pre.length : Nat)), vi (x.len : Nat)]) := by
  have hp : (0 : Int) ≤ pre.length := by omega
  have h0 := at0 pre b l
  obtain ⟨L, hL⟩ : ∃ L, L = b :: l := ⟨_, rfl⟩
  have hlL : L.length = l.length + 1 := by rw [hL]; rfl
  have hs2 : pre.length + L.length ≤ 281474976710656 := by simp at hs; omega
  have hfg := rfigure_ok b
  rw [hf] at hfg
  have hmk := rmark_ok pre b l hs
  have hl2 : ¬ ((65 : Int) ≤ b.toNat ∧ (b.toNat : Int) ≤ 90) := by simpa [letR] using hle
  have wl : IntKind.i64.wrap ((pre.length : Int) + (L.length : Int) - (pre.length : Int)) = (L.length : Int) := by rw [wrap_id (by omega) (by omega)]; omega
  have w4 : IntKind.i64.wrap ((pre.length : Int) + 4) = (pre.length : Int) + 4 := wrap_id (by omega) (by omega)
  have p4 : (0 : Int) ≤ (pre.length : Int) + 4 := by omega
  have t4 : ((pre.length : Int) + 4).toNat = pre.length + 4 := by omega
  have hx4 := xmid pre L 4
  have hpre : hasPre ⟨⟨L⟩⟩ ⟨#[35, 82, 69, 70]⟩ = (decide (4 ≤ L.length) && decide ((⟨⟨L.take 4⟩⟩ : ByteArray) = ⟨#[35, 82, 69, 70]⟩)) := by
    unfold hasPre
    rw [show (⟨#[35, 82, 69, 70]⟩ : ByteArray).size = 4 from rfl, extract_take]
    rfl
  obtain ⟨M, hM⟩ : ∃ M, M = markN L := ⟨_, rfl⟩
  have hMl : M ≤ L.length := by rw [hM]; exact markN_le L
  have hxM := xmid pre L M
  have wM : IntKind.i64.wrap ((pre.length : Int) + (M : Int)) = (pre.length : Int) + (M : Int) := wrap_id (by omega) (by omega)
  have tM : ((pre.length : Int) + (M : Int)).toNat = pre.length + M := by omega
  have pM : (0 : Int) ≤ (pre.length : Int) + (M : Int) := by omega
  rw [nextT, if_neg (by simp [hf]), if_neg (by simp [hle]), ← hL, hpre, show (ByteArray.data ⟨⟨L⟩⟩).toList = L from rfl, ← hM, extract_take] at hx
  rw [← hL, ← hM] at hmk
  rw [← hL] at h0 ⊢
  clear hs
  by_cases l65 : (65 : Int) ≤ b.toNat
  · have l90 : ¬ (b.toNat : Int) ≤ 90 := fun h => hl2 ⟨l65, h⟩
    by_cases h4 : 4 ≤ L.length
    · have h4i : (4 : Int) ≤ (L.length : Int) := by omega
      by_cases hr : (⟨⟨L.take 4⟩⟩ : ByteArray) = ⟨#[35, 82, 69, 70]⟩
      · rw [if_pos (by simp [h4, hr])] at hx
        rw [hx]
        refine apure_of Try.func94 Try.ntmps94 rfl ?_
        simp only [List.length_cons, List.length_nil, List.cons_append, List.nil_append, List.replicate]
        repeat' (first
          | refine aw_seq ?_
          | (refine aw_run [4, 11] ?_; try simp -implicitDefEqProofs (maxSteps := 1000000) [bsizeL, hp, h0, l65, l90, wl, w4, p4, t4, hx4, h4, h4i, hr])
          | ((first | refine awl_skip' [4, 11] rfl ?_ | refine awl_pure_guard [4, 11] rfl rfl rfl (by first | assumption | kernel_rfl) rfl (fun hc => by first | exact hfg | exact hmk) (by simp) (by simp) (by simp) ?_ | refine awl_pure' [4, 11] rfl rfl rfl (by first | assumption | kernel_rfl) rfl (by first | exact hfg | exact hmk) (by simp) (by simp) ?_ | refine aw_skip ?_ | refine aw_exit ?_); try simp -implicitDefEqProofs (maxSteps := 1000000) [bsizeL, hp, h0, l65, l90, wl, w4, p4, t4, hx4, h4, h4i, hr])
          | (refine aw_cond rfl (fun h => ?_) (fun h => ?_) <;> try (with_reducible first | exact ff_tt h | exact tt_ff h))
          | refine aw_block ?_
          | refine aw_ret (ret_of (.inr rfl) (by simp [Try.results94]; rfl) (Fin.of ?_))
          | refine ret_of (.inl rfl) (by simp [Try.results94]; rfl) (Fin.of ?_))
        simp [tupOf, Tok.av]
      · rw [if_neg (by simp [hr])] at hx
        by_cases hM0 : M = 0
        · rw [hM0] at hmk hx
          rw [hx]
          refine apure_of Try.func94 Try.ntmps94 rfl ?_
          simp only [List.length_cons, List.length_nil, List.cons_append, List.nil_append, List.replicate]
          repeat' (first
            | refine aw_seq ?_
            | (refine aw_run [4, 11] ?_; try simp -implicitDefEqProofs (maxSteps := 1000000) [bsizeL, hp, h0, l65, l90, wl, w4, p4, t4, hx4, h4, h4i, hr])
            | ((first | refine awl_skip' [4, 11] rfl ?_ | refine awl_pure_guard [4, 11] rfl rfl rfl (by first | assumption | kernel_rfl) rfl (fun hc => by first | exact hfg | exact hmk) (by simp) (by simp) (by simp) ?_ | refine awl_pure' [4, 11] rfl rfl rfl (by first | assumption | kernel_rfl) rfl (by first | exact hfg | exact hmk) (by simp) (by simp) ?_ | refine aw_skip ?_ | refine aw_exit ?_); try simp -implicitDefEqProofs (maxSteps := 1000000) [bsizeL, hp, h0, l65, l90, wl, w4, p4, t4, hx4, h4, h4i, hr])
            | (refine aw_cond rfl (fun h => ?_) (fun h => ?_) <;> try (with_reducible first | exact ff_tt h | exact tt_ff h))
            | refine aw_block ?_
            | refine aw_ret (ret_of (.inr rfl) (by simp [Try.results94]; rfl) (Fin.of ?_))
            | refine ret_of (.inl rfl) (by simp [Try.results94]; rfl) (Fin.of ?_))
          simp [tupOf, Tok.av]
        · rw [hx]
          refine apure_of Try.func94 Try.ntmps94 rfl ?_
          simp only [List.length_cons, List.length_nil, List.cons_append, List.nil_append, List.replicate]
          repeat' (first
            | refine aw_seq ?_
            | (refine aw_run [4, 11] ?_; try simp -implicitDefEqProofs (maxSteps := 1000000) [bsizeL, hp, h0, l65, l90, wl, w4, p4, t4, hx4, h4, h4i, hr, hM0, hxM, wM, tM, pM, hMl])
            | ((first | refine awl_skip' [4, 11] rfl ?_ | refine awl_pure_guard [4, 11] rfl rfl rfl (by first | assumption | kernel_rfl) rfl (fun hc => by first | exact hfg | exact hmk) (by simp) (by simp) (by simp) ?_ | refine awl_pure' [4, 11] rfl rfl rfl (by first | assumption | kernel_rfl) rfl (by first | exact hfg | exact hmk) (by simp) (by simp) ?_ | refine aw_skip ?_ | refine aw_exit ?_); try simp -implicitDefEqProofs (maxSteps := 1000000) [bsizeL, hp, h0, l65, l90, wl, w4, p4, t4, hx4, h4, h4i, hr, hM0, hxM, wM, tM, pM, hMl])
            | (refine aw_cond rfl (fun h => ?_) (fun h => ?_) <;> try (with_reducible first | exact ff_tt h | exact tt_ff h))
            | refine aw_block ?_
            | refine aw_ret (ret_of (.inr rfl) (by simp [Try.results94]; rfl) (Fin.of ?_))
            | refine ret_of (.inl rfl) (by simp [Try.results94]; rfl) (Fin.of ?_))
          simp [tupOf, Tok.av, hM0]
    · have h4i : ¬ (4 : Int) ≤ (L.length : Int) := by omega
      rw [if_neg (by simp [h4])] at hx
      by_cases hM0 : M = 0
      · rw [hM0] at hmk hx
        rw [hx]
        refine apure_of Try.func94 Try.ntmps94 rfl ?_
        simp only [List.length_cons, List.length_nil, List.cons_append, List.nil_append, List.replicate]
        repeat' (first
          | refine aw_seq ?_
          | (refine aw_run [4, 11] ?_; try simp -implicitDefEqProofs (maxSteps := 1000000) [bsizeL, hp, h0, l65, l90, wl, w4, p4, t4, h4, h4i])
          | ((first | refine awl_skip' [4, 11] rfl ?_ | refine awl_pure_guard [4, 11] rfl rfl rfl (by first | assumption | kernel_rfl) rfl (fun hc => by first | exact hfg | exact hmk) (by simp) (by simp) (by simp) ?_ | refine awl_pure' [4, 11] rfl rfl rfl (by first | assumption | kernel_rfl) rfl (by first | exact hfg | exact hmk) (by simp) (by simp) ?_ | refine aw_skip ?_ | refine aw_exit ?_); try simp -implicitDefEqProofs (maxSteps := 1000000) [bsizeL, hp, h0, l65, l90, wl, w4, p4, t4, h4, h4i])
          | (refine aw_cond rfl (fun h => ?_) (fun h => ?_) <;> try (with_reducible first | exact ff_tt h | exact tt_ff h))
          | refine aw_block ?_
          | refine aw_ret (ret_of (.inr rfl) (by simp [Try.results94]; rfl) (Fin.of ?_))
          | refine ret_of (.inl rfl) (by simp [Try.results94]; rfl) (Fin.of ?_))
        simp [tupOf, Tok.av]
      · rw [hx]
        refine apure_of Try.func94 Try.ntmps94 rfl ?_
        simp only [List.length_cons, List.length_nil, List.cons_append, List.nil_append, List.replicate]
        repeat' (first
          | refine aw_seq ?_
          | (refine aw_run [4, 11] ?_; try simp -implicitDefEqProofs (maxSteps := 1000000) [bsizeL, hp, h0, l65, l90, wl, w4, p4, t4, h4, h4i, hM0, hxM, wM, tM, pM, hMl])
          | ((first | refine awl_skip' [4, 11] rfl ?_ | refine awl_pure_guard [4, 11] rfl rfl rfl (by first | assumption | kernel_rfl) rfl (fun hc => by first | exact hfg | exact hmk) (by simp) (by simp) (by simp) ?_ | refine awl_pure' [4, 11] rfl rfl rfl (by first | assumption | kernel_rfl) rfl (by first | exact hfg | exact hmk) (by simp) (by simp) ?_ | refine aw_skip ?_ | refine aw_exit ?_); try simp -implicitDefEqProofs (maxSteps := 1000000) [bsizeL, hp, h0, l65, l90, wl, w4, p4, t4, h4, h4i, hM0, hxM, wM, tM, pM, hMl])
          | (refine aw_cond rfl (fun h => ?_) (fun h => ?_) <;> try (with_reducible first | exact ff_tt h | exact tt_ff h))
          | refine aw_block ?_
          | refine aw_ret (ret_of (.inr rfl) (by simp [Try.results94]; rfl) (Fin.of ?_))
          | refine ret_of (.inl rfl) (by simp [Try.results94]; rfl) (Fin.of ?_))
        simp [tupOf, Tok.av, hM0]
  · have l90 : True := trivial
    by_cases h4 : 4 ≤ L.length
    · have h4i : (4 : Int) ≤ (L.length : Int) := by omega
      by_cases hr : (⟨⟨L.take 4⟩⟩ : ByteArray) = ⟨#[35, 82, 69, 70]⟩
      · rw [if_pos (by simp [h4, hr])] at hx
        rw [hx]
        refine apure_of Try.func94 Try.ntmps94 rfl ?_
        simp only [List.length_cons, List.length_nil, List.cons_append, List.nil_append, List.replicate]
        repeat' (first
          | refine aw_seq ?_
          | (refine aw_run [4, 11] ?_; try simp -implicitDefEqProofs (maxSteps := 1000000) [bsizeL, hp, h0, l65, l90, wl, w4, p4, t4, hx4, h4, h4i, hr])
          | ((first | refine awl_skip' [4, 11] rfl ?_ | refine awl_pure_guard [4, 11] rfl rfl rfl (by first | assumption | kernel_rfl) rfl (fun hc => by first | exact hfg | exact hmk) (by simp) (by simp) (by simp) ?_ | refine awl_pure' [4, 11] rfl rfl rfl (by first | assumption | kernel_rfl) rfl (by first | exact hfg | exact hmk) (by simp) (by simp) ?_ | refine aw_skip ?_ | refine aw_exit ?_); try simp -implicitDefEqProofs (maxSteps := 1000000) [bsizeL, hp, h0, l65, l90, wl, w4, p4, t4, hx4, h4, h4i, hr])
          | (refine aw_cond rfl (fun h => ?_) (fun h => ?_) <;> try (with_reducible first | exact ff_tt h | exact tt_ff h))
          | refine aw_block ?_
          | refine aw_ret (ret_of (.inr rfl) (by simp [Try.results94]; rfl) (Fin.of ?_))
          | refine ret_of (.inl rfl) (by simp [Try.results94]; rfl) (Fin.of ?_))
        simp [tupOf, Tok.av]
      · rw [if_neg (by simp [hr])] at hx
        by_cases hM0 : M = 0
        · rw [hM0] at hmk hx
          rw [hx]
          refine apure_of Try.func94 Try.ntmps94 rfl ?_
          simp only [List.length_cons, List.length_nil, List.cons_append, List.nil_append, List.replicate]
          repeat' (first
            | refine aw_seq ?_
            | (refine aw_run [4, 11] ?_; try simp -implicitDefEqProofs (maxSteps := 1000000) [bsizeL, hp, h0, l65, l90, wl, w4, p4, t4, hx4, h4, h4i, hr])
            | ((first | refine awl_skip' [4, 11] rfl ?_ | refine awl_pure_guard [4, 11] rfl rfl rfl (by first | assumption | kernel_rfl) rfl (fun hc => by first | exact hfg | exact hmk) (by simp) (by simp) (by simp) ?_ | refine awl_pure' [4, 11] rfl rfl rfl (by first | assumption | kernel_rfl) rfl (by first | exact hfg | exact hmk) (by simp) (by simp) ?_ | refine aw_skip ?_ | refine aw_exit ?_); try simp -implicitDefEqProofs (maxSteps := 1000000) [bsizeL, hp, h0, l65, l90, wl, w4, p4, t4, hx4, h4, h4i, hr])
            | (refine aw_cond rfl (fun h => ?_) (fun h => ?_) <;> try (with_reducible first | exact ff_tt h | exact tt_ff h))
            | refine aw_block ?_
            | refine aw_ret (ret_of (.inr rfl) (by simp [Try.results94]; rfl) (Fin.of ?_))
            | refine ret_of (.inl rfl) (by simp [Try.results94]; rfl) (Fin.of ?_))
          simp [tupOf, Tok.av]
        · rw [hx]
          refine apure_of Try.func94 Try.ntmps94 rfl ?_
          simp only [List.length_cons, List.length_nil, List.cons_append, List.nil_append, List.replicate]
          repeat' (first
            | refine aw_seq ?_
            | (refine aw_run [4, 11] ?_; try simp -implicitDefEqProofs (maxSteps := 1000000) [bsizeL, hp, h0, l65, l90, wl, w4, p4, t4, hx4, h4, h4i, hr, hM0, hxM, wM, tM, pM, hMl])
            | ((first | refine awl_skip' [4, 11] rfl ?_ | refine awl_pure_guard [4, 11] rfl rfl rfl (by first | assumption | kernel_rfl) rfl (fun hc => by first | exact hfg | exact hmk) (by simp) (by simp) (by simp) ?_ | refine awl_pure' [4, 11] rfl rfl rfl (by first | assumption | kernel_rfl) rfl (by first | exact hfg | exact hmk) (by simp) (by simp) ?_ | refine aw_skip ?_ | refine aw_exit ?_); try simp -implicitDefEqProofs (maxSteps := 1000000) [bsizeL, hp, h0, l65, l90, wl, w4, p4, t4, hx4, h4, h4i, hr, hM0, hxM, wM, tM, pM, hMl])
            | (refine aw_cond rfl (fun h => ?_) (fun h => ?_) <;> try (with_reducible first | exact ff_tt h | exact tt_ff h))
            | refine aw_block ?_
            | refine aw_ret (ret_of (.inr rfl) (by simp [Try.results94]; rfl) (Fin.of ?_))
            | refine ret_of (.inl rfl) (by simp [Try.results94]; rfl) (Fin.of ?_))
          simp [tupOf, Tok.av, hM0]
    · have h4i : ¬ (4 : Int) ≤ (L.length : Int) := by omega
      rw [if_neg (by simp [h4])] at hx
      by_cases hM0 : M = 0
      · rw [hM0] at hmk hx
        rw [hx]
        refine apure_of Try.func94 Try.ntmps94 rfl ?_
        simp only [List.length_cons, List.length_nil, List.cons_append, List.nil_append, List.replicate]
        repeat' (first
          | refine aw_seq ?_
          | (refine aw_run [4, 11] ?_; try simp -implicitDefEqProofs (maxSteps := 1000000) [bsizeL, hp, h0, l65, l90, wl, w4, p4, t4, h4, h4i])
          | ((first | refine awl_skip' [4, 11] rfl ?_ | refine awl_pure_guard [4, 11] rfl rfl rfl (by first | assumption | kernel_rfl) rfl (fun hc => by first | exact hfg | exact hmk) (by simp) (by simp) (by simp) ?_ | refine awl_pure' [4, 11] rfl rfl rfl (by first | assumption | kernel_rfl) rfl (by first | exact hfg | exact hmk) (by simp) (by simp) ?_ | refine aw_skip ?_ | refine aw_exit ?_); try simp -implicitDefEqProofs (maxSteps := 1000000) [bsizeL, hp, h0, l65, l90, wl, w4, p4, t4, h4, h4i])
          | (refine aw_cond rfl (fun h => ?_) (fun h => ?_) <;> try (with_reducible first | exact ff_tt h | exact tt_ff h))
          | refine aw_block ?_
          | refine aw_ret (ret_of (.inr rfl) (by simp [Try.results94]; rfl) (Fin.of ?_))
          | refine ret_of (.inl rfl) (by simp [Try.results94]; rfl) (Fin.of ?_))
        simp [tupOf, Tok.av]
      · rw [hx]
        refine apure_of Try.func94 Try.ntmps94 rfl ?_
        simp only [List.length_cons, List.length_nil, List.cons_append, List.nil_append, List.replicate]
        repeat' (first
          | refine aw_seq ?_
          | (refine aw_run [4, 11] ?_; try simp -implicitDefEqProofs (maxSteps := 1000000) [bsizeL, hp, h0, l65, l90, wl, w4, p4, t4, h4, h4i, hM0, hxM, wM, tM, pM, hMl])
          | ((first | refine awl_skip' [4, 11] rfl ?_ | refine awl_pure_guard [4, 11] rfl rfl rfl (by first | assumption | kernel_rfl) rfl (fun hc => by first | exact hfg | exact hmk) (by simp) (by simp) (by simp) ?_ | refine awl_pure' [4, 11] rfl rfl rfl (by first | assumption | kernel_rfl) rfl (by first | exact hfg | exact hmk) (by simp) (by simp) ?_ | refine aw_skip ?_ | refine aw_exit ?_); try simp -implicitDefEqProofs (maxSteps := 1000000) [bsizeL, hp, h0, l65, l90, wl, w4, p4, t4, h4, h4i, hM0, hxM, wM, tM, pM, hMl])
          | (refine aw_cond rfl (fun h => ?_) (fun h => ?_) <;> try (with_reducible first | exact ff_tt h | exact tt_ff h))
          | refine aw_block ?_
          | refine aw_ret (ret_of (.inr rfl) (by simp [Try.results94]; rfl) (Fin.of ?_))
          | refine ret_of (.inl rfl) (by simp [Try.results94]; rfl) (Fin.of ?_))
        simp [tupOf, Tok.av, hM0]
theorem rone_ok (pre : List UInt8) (b : UInt8) (l : List UInt8) (hs : (pre ++ b :: l).length ≤ 281474976710656) (x : Tok) (hx : x = nextT ⟨⟨b :: l⟩⟩ b) :
    APure Try.prog 94 [vs ⟨⟨pre ++ b :: l⟩⟩, vi (pre.length : Nat)] (.tup [x.av (if x.len = 0 then 0 else (pre.length : Nat)), vi (x.len : Nat)]) := by
  cases hf : figR b.toNat with
  | true => exact rone_num pre b l hs hf x hx
  | false =>
    cases hl : letR b.toNat with
    | true => exact rone_name pre b l hs hf hl x hx
    | false => exact rone_other pre b l hs hf hl x hx
end Go.AL
/-! Contracts: gridironref04.Scan. -/
namespace Go.AL
open Go.Proofs
set_option linter.unusedSimpArgs false
set_option linter.unusedVariables false
theorem scanL_32 (sz n : Nat) (l : List UInt8) : scanL sz (n + 1) (32 :: l) = scanL sz n l := by rw [scanL, if_pos rfl]
set_option maxHeartbeats 4000000 in
set_option maxRecDepth 100000 in
theorem rscan_ok (s : ByteArray) (hs : s.size ≤ 281474976710656) : APure Try.prog 65 [vs s] (.tup [.vsl ((scanS s).1.map tokA), vi ((scanS s).2.1 : Nat), vi (scanS s).2.2]) := by
  by_cases h2 : 200 < s.size
  · have e : scanS s = ([], 0, 3) := if_pos h2
    rw [e]
    refine apure_of Try.func65 Try.ntmps65 rfl ?_
    simp only [List.length_cons, List.length_nil, List.cons_append, List.nil_append, List.replicate]
    repeat' (first
      | refine aw_seq ?_
      | (refine aw_run [7] ?_; try simp -implicitDefEqProofs (maxSteps := 1000000))
      | ((first | refine awl_skip' [7] rfl ?_ | refine aw_skip ?_ | refine aw_exit ?_); try simp -implicitDefEqProofs (maxSteps := 1000000))
      | (refine aw_cond rfl (fun h => ?_) (fun h => ?_) <;> try (with_reducible first | exact ff_tt h | exact tt_ff h))
      | refine aw_block ?_
      | refine aw_ret (ret_of (.inr rfl) (by simp [Try.results65]; rfl) (Fin.close (Fin.of ?_)))
      | refine ret_of (.inl rfl) (by simp [Try.results65]; rfl) (Fin.close (Fin.of ?_)))
    · simp [tupOf]
    · simp at h; omega
  have e : scanS s = scanL s.size s.size s.data.toList := if_neg h2
  rw [e]
  obtain ⟨⟨L⟩⟩ := s
  have hsz : (⟨⟨L⟩⟩ : ByteArray).size = L.length := rfl
  rw [hsz] at h2 hs ⊢
  show APure _ _ _ (.tup [.vsl ((scanL L.length L.length L).1.map tokA), vi ((scanL L.length L.length L).2.1 : Nat), vi (scanL L.length L.length L).2.2])
  have h2i : ¬ (200 : Int) < L.length := by omega
  refine apure_of Try.func65 Try.ntmps65 rfl ?_
  simp only [List.length_cons, List.length_nil, List.cons_append, List.nil_append, List.replicate]
  repeat' (first
    | refine aw_seq ?_
    | (refine aw_run [7] ?_; try simp -implicitDefEqProofs (maxSteps := 1000000) [bsizeL, h2i])
    | ((first | refine awl_skip' [7] rfl ?_ | refine aw_skip ?_ | refine aw_exit ?_); try simp -implicitDefEqProofs (maxSteps := 1000000) [bsizeL, h2i])
    | (refine aw_cond rfl (fun h => ?_) (fun h => ?_) <;> try (with_reducible first | exact ff_tt h | exact tt_ff h))
    | refine aw_block ?_
    | refine aw_ret (ret_of (.inr rfl) (by simp [Try.results65]; rfl) (Fin.of ?_))
    | refine ret_of (.inl rfl) (by simp [Try.results65]; rfl) (Fin.of ?_))
  refine aw_open (i := 5) rfl ?_
  refine aw_loopW [0, 5, 6] (fun n fr σ => ∃ (k m : Nat) (ts : List (Tok × Nat)) (pre l : List UInt8), k < m ∧ l.length = n ∧ L = pre ++ l ∧ ts.length ≤ pre.length ∧ scanL L.length L.length L = scanAcc ts (scanL L.length l.length l) ∧ σ = oneSl k (ts.map tokA) m ∧ fr = frm 39 [(0, vs ⟨⟨L⟩⟩), (5, .hsl k 0 ts.length), (6, vi (pre.length : Nat))]) L.length ?_ ?_
  · refine ⟨oneSl 0 [] 1, le_oneSl rfl (by decide), 0, 1, [], [], L, by decide, rfl, rfl, by simp, (scanAcc_nil _ _ _).symm, rfl, ?_⟩
    simp [σ0]
  · rintro n fr σ ⟨k, m, ts, pre, l, hkm, hn, hL, htl, hsc, rfl, rfl⟩
    simp
    have hlen : L.length = pre.length + l.length := by rw [hL]; simp
    have hp : (0 : Int) ≤ pre.length := by omega
    have w1 : IntKind.i64.wrap ((pre.length : Int) + 1) = (pre.length : Int) + 1 := wrap_id (by omega) (by omega)
    match l, hn, hL, hsc, hlen with
    | [], hn, hL, hsc, hlen =>
      have hnl : ¬ pre.length < L.length := by simp at hlen; omega
      repeat' (first
        | refine aw_seq ?_
        | (refine aw_run [7] ?_; try simp -implicitDefEqProofs (maxSteps := 1000000) [bsizeL, hnl])
        | ((first | refine awl_skip' [7] rfl ?_ | refine aw_skip ?_ | refine aw_exit ?_); try simp -implicitDefEqProofs (maxSteps := 1000000) [bsizeL, hnl])
        | (refine aw_cond rfl (fun h => ?_) (fun h => ?_) <;> try (with_reducible first | exact ff_tt h | exact tt_ff h))
        | refine aw_block ?_
        | refine aw_ret (ret_of (.inr rfl) (by simp [Try.results65]; rfl) (Fin.close (Fin.of ?_)))
        | refine ret_of (.inl rfl) (by simp [Try.results65]; rfl) (Fin.close (Fin.of ?_)))
      rw [hsc]
      simp [tupOf, scanAcc, scanL, List.take_of_length_le]
    | b :: l, hn, hL, hsc, hlen =>
      simp only [List.length_cons] at hn hlen hsc
      have hlt : pre.length < L.length := by omega
      have hget : L[pre.length] = b := by
        have := at0 pre b l
        rw [← hL, List.getElem?_eq_getElem hlt] at this
        exact Option.some.inj this
      by_cases hb : b = 32
      · subst hb
        rw [scanL_32] at hsc
        repeat' (first
          | refine aw_seq ?_
          | (refine aw_run [7] ?_; try simp -implicitDefEqProofs (maxSteps := 1000000) [bsizeL, hlt, hget, w1])
          | ((first | refine awl_skip' [7] rfl ?_ | refine aw_skip ?_ | refine aw_exit ?_); try simp -implicitDefEqProofs (maxSteps := 1000000) [bsizeL, hlt, hget, w1])
          | (refine aw_cond rfl (fun h => ?_) (fun h => ?_) <;> try (with_reducible first | exact ff_tt h | exact tt_ff h))
          | refine aw_block ?_
          | refine aw_ret (ret_of (.inr rfl) (by simp [Try.results65]; rfl) (Fin.of ?_))
          | refine ret_of (.inl rfl) (by simp [Try.results65]; rfl) (Fin.of ?_))
        refine ⟨l.length, by omega, oneSl k (ts.map tokA) m, le_oneSl (by simp) (by simp), k, m, hkm, ts, pre ++ [32], l, rfl, by rw [hL]; simp, by simp; omega, hsc, rfl, ?_⟩
        simp
      · have hb2 : ¬ (b.toNat : Int) = 32 := fun h => hb (u8c.1 h)
        have hone := rone_ok pre b l (by rw [← hL]; omega) _ rfl
        have hnl := nextT_len b l
        have hst : scanL L.length (l.length + 1) (b :: l) = if (nextT ⟨⟨b :: l⟩⟩ b).len = 0 then ([], L.length - (l.length + 1), 2) else scanK (nextT ⟨⟨b :: l⟩⟩ b, L.length - (l.length + 1)) (scanL L.length l.length ((b :: l).drop (nextT ⟨⟨b :: l⟩⟩ b).len)) := by
          rw [scanL, if_neg hb]
        rw [← hL] at hone
        rw [show L.length - (l.length + 1) = pre.length from by omega] at hst
        generalize nextT ⟨⟨b :: l⟩⟩ b = x at *
        by_cases hx : x.len = 0
        · rw [if_pos hx] at hst
          rw [hst] at hsc
          rw [hx] at hone
          repeat' (first
            | refine aw_seq ?_
            | (refine aw_run [7] ?_; try simp -implicitDefEqProofs (maxSteps := 1000000) [bsizeL, hlt, hget, hb2])
            | ((first | refine awl_skip' [7] rfl ?_ | refine awl_pure_guard [7] rfl rfl rfl (by first | assumption | kernel_rfl) rfl (fun hc => by first | exact hone) (by simp) (by simp) (by simp) ?_ | refine awl_pure' [7] rfl rfl rfl (by first | assumption | kernel_rfl) rfl (by first | exact hone) (by simp) (by simp) ?_ | refine aw_skip ?_ | refine aw_exit ?_); try simp -implicitDefEqProofs (maxSteps := 1000000) [bsizeL, hlt, hget, hb2])
            | (refine aw_cond rfl (fun h => ?_) (fun h => ?_) <;> try (with_reducible first | exact ff_tt h | exact tt_ff h))
            | refine aw_block ?_
            | refine aw_ret (ret_of (.inr rfl) (by simp [Try.results65]; rfl) (Fin.close (Fin.of ?_)))
            | refine ret_of (.inl rfl) (by simp [Try.results65]; rfl) (Fin.close (Fin.of ?_)))
          rw [hsc]
          simp [tupOf, scanAcc]
        · rw [if_neg hx] at hst
          rw [if_neg hx] at hone
          simp only [Tok.av] at hone
          have w2 : IntKind.i64.wrap ((pre.length : Int) + (x.len : Int)) = (pre.length : Int) + (x.len : Int) := wrap_id (by omega) (by omega)
          repeat' (first
            | refine aw_seq ?_
            | (refine aw_run [7] ?_; try simp -implicitDefEqProofs (maxSteps := 1000000) [bsizeL, hlt, hget, hb2, hx])
            | ((first | refine awl_skip' [7] rfl ?_ | refine awl_pure_guard [7] rfl rfl rfl (by first | assumption | kernel_rfl) rfl (fun hc => by first | exact hone) (by simp) (by simp) (by simp) ?_ | refine awl_pure' [7] rfl rfl rfl (by first | assumption | kernel_rfl) rfl (by first | exact hone) (by simp) (by simp) ?_ | refine aw_skip ?_ | refine aw_exit ?_); try simp -implicitDefEqProofs (maxSteps := 1000000) [bsizeL, hlt, hget, hb2, hx])
            | (refine aw_cond rfl (fun h => ?_) (fun h => ?_) <;> try (with_reducible first | exact ff_tt h | exact tt_ff h))
            | refine aw_block ?_
            | refine aw_ret (ret_of (.inr rfl) (by simp [Try.results65]; rfl) (Fin.of ?_))
            | refine ret_of (.inl rfl) (by simp [Try.results65]; rfl) (Fin.of ?_))
          refine awl_append [7] rfl rfl rfl (xs := ts.map tokA) (by simp) (by simp) rfl (by simp) te105 tet105 tz126 rfl ?_ (by simp) (by simp; omega) (by simp; omega) ?_
          · intro y hy
            obtain ⟨p, _, rfl⟩ := List.mem_map.1 hy
            rfl
          simp -implicitDefEqProofs
          repeat' (first
            | refine aw_seq ?_
            | (refine aw_run [7] ?_; try simp -implicitDefEqProofs (maxSteps := 1000000) [w2])
            | ((first | refine awl_skip' [7] rfl ?_ | refine aw_skip ?_ | refine aw_exit ?_); try simp -implicitDefEqProofs (maxSteps := 1000000) [w2])
            | (refine aw_cond rfl (fun h => ?_) (fun h => ?_) <;> try (with_reducible first | exact ff_tt h | exact tt_ff h))
            | refine aw_block ?_
            | refine aw_ret (ret_of (.inr rfl) (by simp [Try.results65]; rfl) (Fin.of ?_))
            | refine ret_of (.inl rfl) (by simp [Try.results65]; rfl) (Fin.of ?_))
          refine ⟨l.length + 1 - x.len, by omega, oneSl (m + 1) ((ts ++ [(x, pre.length)]).map tokA) (m + 2), le_oneSl (by simp [List.take_of_length_le, tokA, Tok.av]) (by simp), m + 1, m + 2, by omega, ts ++ [(x, pre.length)], pre ++ (b :: l).take x.len, (b :: l).drop x.len, ?_, ?_, ?_, ?_, rfl, ?_⟩
          · simp
          · rw [List.append_assoc, List.take_append_drop]; exact hL
          · simp; omega
          · rw [hsc, hst, scanAcc_K, scanL_fuel _ l.length ((b :: l).drop x.len).length _ (by simp; omega) (Nat.le_refl _)]
          · have : min x.len (l.length + 1) = x.len := by omega
            simp [this]
end Go.AL
