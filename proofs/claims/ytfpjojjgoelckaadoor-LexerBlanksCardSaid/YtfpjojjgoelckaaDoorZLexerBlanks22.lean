/- Parts of the proof of LexerBlanks: the logic, contracts, plain laws. -/
import Derived.Test.YtfpjojjgoelckaaDoorZLexerBlanks20
import Derived.Test.YtfpjojjgoelckaaDoorZLexerBlanks21
/-! Contracts: lexer.Scan. -/
namespace Go.AL
open Go.Proofs
set_option linter.unusedSimpArgs false
set_option linter.unusedVariables false
theorem xdrop (l : List UInt8) (n : Nat) : (⟨⟨l⟩⟩ : ByteArray).extract n l.length = ⟨⟨l.drop n⟩⟩ := by
  apply ByteArray.ext
  simp [ByteArray.data_extract, List.take_of_length_le]
/-- A token, where it stands. -/
def tokA (p : Tok × Nat) : AV := p.1.av (p.2 : Nat)
def scanK (p : Tok × Nat) (r : List (Tok × Nat) × Nat × Int) : List (Tok × Nat) × Nat × Int := if r.2.2 = 0 then (p :: r.1, 0, 0) else ([], r.2)
/-- The tokens of a text's rest, the place of a fault, its number. -/
def scanL (sz : Nat) : Nat → List UInt8 → List (Tok × Nat) × Nat × Int
  | 0, _ => ([], 0, 0)
  | _ + 1, [] => ([], 0, 0)
  | n + 1, b :: l => if b = 32 then scanL sz n l else
    if (nextT ⟨⟨b :: l⟩⟩ b).len = 0 then ([], sz - (l.length + 1), 2) else scanK (nextT ⟨⟨b :: l⟩⟩ b, sz - (l.length + 1)) (scanL sz n ((b :: l).drop (nextT ⟨⟨b :: l⟩⟩ b).len))
def scanS (s : ByteArray) : List (Tok × Nat) × Nat × Int := if 200 < s.size then ([], 0, 3) else scanL s.size s.size s.data.toList
theorem scanL_fuel (sz : Nat) : ∀ (n m : Nat) (l : List UInt8), l.length ≤ n → l.length ≤ m → scanL sz n l = scanL sz m l
  | 0, m, [], _, _ => by cases m <;> rfl
  | 0, _, _ :: _, h, _ => by simp at h
  | n + 1, m, [], _, _ => by cases m <;> rfl
  | n + 1, 0, _ :: _, _, h => by simp at h
  | n + 1, m + 1, b :: l, h1, h2 => by
    simp only [List.length_cons] at h1 h2
    unfold scanL
    split
    · exact scanL_fuel sz n m l (by omega) (by omega)
    · split
      · rfl
      · rename_i hx
        rw [scanL_fuel sz n m _ (by simp [List.length_drop]; omega) (by simp [List.length_drop]; omega)]
theorem trimL_len (c : UInt8) (l : List UInt8) : (trimL c l).length ≤ l.length := (List.dropWhile_sublist _).length_le
theorem trimL_cons (c b : UInt8) (l : List UInt8) : trimL c (b :: l) = if b = c then trimL c l else b :: l := by
  unfold trimL; rw [List.dropWhile_cons]; simp
theorem scanL_trim (sz : Nat) : ∀ (n : Nat) (l : List UInt8), l.length ≤ n → scanL sz n l = scanL sz (trimL 32 l).length (trimL 32 l)
  | n, [], _ => by cases n <;> rfl
  | 0, b :: l, h => by simp at h
  | n + 1, b :: l, h => by
    simp only [List.length_cons] at h
    rw [trimL_cons]
    split
    · rename_i hb
      rw [scanL, if_pos hb]
      exact scanL_trim sz n l (by omega)
    · exact scanL_fuel sz _ _ _ (by simp; omega) (Nat.le_refl _)
theorem trimL_idem (c : UInt8) : ∀ l : List UInt8, trimL c (trimL c l) = trimL c l
  | [] => rfl
  | b :: l => by
    rw [trimL_cons]
    split
    · exact trimL_idem c l
    · rename_i h; rw [trimL_cons, if_neg h]
@[simp] theorem tok_cl (x : Tok) (f : Int) : Cl (x.av f) := by
  refine .agg _ fun c hc => ?_
  simp at hc
  rcases hc with rfl | rfl | rfl | rfl | rfl | rfl <;> exact .p _
theorem trimL_head {c : UInt8} : ∀ {l : List UInt8} {b : UInt8} {r : List UInt8}, trimL c l = b :: r → b ≠ c
  | [], _, _, h => by simp [trimL] at h
  | x :: l, b, r, h => by
    rw [trimL_cons] at h
    split at h
    · exact trimL_head h
    · rename_i hx
      simp only [List.cons.injEq] at h
      rw [← h.1]; exact hx
def scanAcc (ts : List (Tok × Nat)) (r : List (Tok × Nat) × Nat × Int) : List (Tok × Nat) × Nat × Int := if r.2.2 = 0 then (ts ++ r.1, 0, 0) else ([], r.2)
theorem scanAcc_K (ts : List (Tok × Nat)) (p : Tok × Nat) (r : List (Tok × Nat) × Nat × Int) : scanAcc ts (scanK p r) = scanAcc (ts ++ [p]) r := by
  unfold scanAcc scanK
  by_cases h : r.2.2 = 0 <;> simp [h]
theorem scanL_zero (sz : Nat) : ∀ (n : Nat) (l : List UInt8), (scanL sz n l).2.2 = 0 → (scanL sz n l).2.1 = 0
  | 0, _, _ => rfl
  | _ + 1, [], _ => rfl
  | n + 1, b :: l, h => by
    unfold scanL at h ⊢
    split
    · rename_i hb; rw [if_pos hb] at h; exact scanL_zero sz n l h
    · rename_i hb
      rw [if_neg hb] at h
      split
      · rename_i hx; rw [if_pos hx] at h; simp at h
      · rename_i hx
        rw [if_neg hx] at h
        unfold scanK at h ⊢
        split
        · rfl
        · rename_i hr; rw [if_neg hr] at h; exact absurd h hr
theorem scanAcc_nil (sz n : Nat) (l : List UInt8) : scanAcc [] (scanL sz n l) = scanL sz n l := by
  unfold scanAcc
  split
  · rename_i h
    have := scanL_zero sz n l h
    generalize scanL sz n l = r at *
    obtain ⟨a, b, c⟩ := r
    simp at h this ⊢
    exact ⟨this.symm, h.symm⟩
  · rename_i h
    have hz : ∀ n l, (scanL sz n l).2.2 ≠ 0 → (scanL sz n l).1 = [] := by
      intro n
      induction n with
      | zero => intro l h; rfl
      | succ n ih =>
        intro l h
        match l, h with
        | [], h => rfl
        | b :: l, h =>
          unfold scanL at h ⊢
          split
          · rename_i hb; rw [if_pos hb] at h; exact ih l h
          · rename_i hb
            rw [if_neg hb] at h
            split
            · rfl
            · rename_i hx
              rw [if_neg hx] at h
              unfold scanK at h ⊢
              split
              · rename_i hr; rw [if_pos hr] at h; simp at h
              · rfl
    have := hz n l h
    generalize scanL sz n l = r at *
    obtain ⟨a, b, c⟩ := r
    simp at this ⊢
    exact this
theorem markN_le (l : List UInt8) : markN l ≤ l.length := by
  cases l with
  | nil => simp [markN]
  | cons b l =>
    have h1 : ∀ p : ByteArray, hasPre ⟨⟨l⟩⟩ p = true → p.size ≤ l.length := fun p h => by
      simp only [hasPre, Bool.and_eq_true, decide_eq_true_eq] at h
      simpa [bsizeL] using h.1
    have h2 : ∀ p : ByteArray, hasPre ⟨⟨b :: l⟩⟩ p = true → p.size ≤ l.length + 1 := fun p h => by
      simp only [hasPre, Bool.and_eq_true, decide_eq_true_eq] at h
      simpa [bsizeL] using h.1
    simp only [markN, List.length_cons]
    split
    · split
      · rename_i h
        rcases h with h | h
        · have := h2 _ h; simp [bsizeL] at this; omega
        · have := h1 _ h; simp [bsizeL] at this; omega
      · omega
    · split
      · split
        · rename_i h
          have := h1 _ h; simp [bsizeL] at this; omega
        · omega
      · split <;> omega
theorem nextT_len (b : UInt8) (l : List UInt8) : (nextT ⟨⟨b :: l⟩⟩ b).len ≤ l.length + 1 := by
  have h1 := leadL_le figR ⟨⟨b :: l⟩⟩
  have h2 := leadL_le nameR ⟨⟨b :: l⟩⟩
  have h3 := markN_le (b :: l)
  simp only [bsizeL, List.size_toArray, List.length_cons] at h1 h2 h3
  unfold nextT
  split
  · split
    · exact h1
    · exact Nat.zero_le _
  · split
    · split
      · exact h2
      · unfold placeTok
        simp only
        split
        · exact h2
        · exact Nat.zero_le _
    · split
      · rename_i h
        simp only [hasPre, Bool.and_eq_true, decide_eq_true_eq] at h
        have := h.1
        simpa [bsizeL] using this
      · exact h3
set_option maxHeartbeats 4000000 in
set_option maxRecDepth 100000 in
theorem scan_ok (s : ByteArray) (hs : s.size ≤ 281474976710656) : APure Tryd.prog 6 [vs s] (.tup [.vsl ((scanS s).1.map tokA), vi ((scanS s).2.1 : Nat), vi (scanS s).2.2]) := by
  by_cases h2 : 200 < s.size
  · have e : scanS s = ([], 0, 3) := if_pos h2
    rw [e]
    refine apure_of Tryd.func6 Tryd.ntmps6 rfl ?_
    simp only [List.length_cons, List.length_nil, List.cons_append, List.nil_append, List.replicate]
    repeat' (first
      | refine aw_seq ?_
      | (refine aw_run [8] ?_; simp -implicitDefEqProofs (maxSteps := 1000000))
      | (refine aw_ymix [8] draws (by decide +kernel) ?_; simp -implicitDefEqProofs (maxSteps := 1000000))
      | (refine aw_yrun draws (by kernel_rfl) ?_; simp -implicitDefEqProofs (maxSteps := 1000000))
      | (refine awl_skip' [8] rfl ?_; simp -implicitDefEqProofs (maxSteps := 1000000))
      | (refine aw_cond rfl (fun h => ?_) (fun h => ?_) <;> try (with_reducible first | exact ff_tt h | exact tt_ff h))
      | (refine aw_skip ?_; simp -implicitDefEqProofs (maxSteps := 1000000))
      | refine aw_block ?_
      | (refine aw_exit ?_; simp -implicitDefEqProofs (maxSteps := 1000000))
      | refine aw_ret (ret_of (.inr rfl) (by simp [Tryd.results6]; rfl) (Fin.close (Fin.of ?_))))
    · simp [tupOf]
    · simp at h; omega
  have e : scanS s = scanL s.size s.size s.data.toList := if_neg h2
  rw [e]
  have hT := trimBlank_ok s (by omega)
  have hl0 : s.data.toList.length = s.size := by rw [Array.length_toList]; rfl
  obtain ⟨r0, hr0⟩ : ∃ r0, r0 = trimL 32 s.data.toList := ⟨_, rfl⟩
  have hr0l : r0.length ≤ s.size := by rw [hr0, ← hl0]; exact trimL_len _ _
  rw [← hr0] at hT
  rw [scanL_trim _ _ _ (by omega), ← hr0]
  refine apure_of Tryd.func6 Tryd.ntmps6 rfl ?_
  simp only [List.length_cons, List.length_nil, List.cons_append, List.nil_append, List.replicate]
  refine aw_seq (aw_run [8] ?_)
  simp -implicitDefEqProofs
  refine aw_seq (aw_seq (aw_run [8] ?_))
  simp -implicitDefEqProofs
  refine aw_cond rfl (fun h => absurd h (by simp; omega)) (fun _ => aw_skip ?_)
  refine aw_seq (aw_run [8] ?_)
  simp -implicitDefEqProofs
  refine aw_seq (aw_seq (aw_run [8] ?_))
  simp -implicitDefEqProofs
  refine awl_pure' [] rfl rfl rfl (by kernel_rfl) rfl (hT) (by simp) (by simp) ?_
  simp -implicitDefEqProofs
  refine aw_block (aw_open (i := 5) rfl ?_)
  refine aw_loopW [0, 5, 6] (fun n fr σ => ∃ (k m : Nat) (ts : List (Tok × Nat)) (l : List UInt8), k < m ∧ l.length = n ∧ l.length ≤ s.size ∧ ts.length + l.length ≤ s.size ∧ trimL 32 l = l ∧ scanL s.size r0.length r0 = scanAcc ts (scanL s.size l.length l) ∧ σ = oneSl k (ts.map tokA) m ∧ fr = frm 42 [(0, vs s), (5, .hsl k 0 ts.length), (6, vs ⟨⟨l⟩⟩)]) r0.length ?_ ?_
  · refine ⟨oneSl 0 [] 1, le_oneSl rfl (by decide), 0, 1, [], r0, by decide, rfl, hr0l, by simpa using hr0l, ?_, (scanAcc_nil _ _ _).symm, rfl, ?_⟩
    · rw [hr0]; exact trimL_idem _ _
    · simp [σ0]
  · rintro n fr σ ⟨k, m, ts, l, hkm, hn, hl, htl, htr, hsc, rfl, rfl⟩
    have hd : (s.size : Int) - (l.length : Int) = ((s.size - l.length : Nat) : Int) := by omega
    match l, hn, hl, htl, htr, hsc, hd with
    | [], hn, hl, htl, htr, hsc, hd =>
      repeat' (first
        | refine aw_seq ?_
        | (refine aw_run [8] ?_; simp -implicitDefEqProofs (maxSteps := 1000000) [bsizeL])
        | (refine aw_ymix [8] draws (by decide +kernel) ?_; simp -implicitDefEqProofs (maxSteps := 1000000) [bsizeL])
        | (refine aw_yrun draws (by kernel_rfl) ?_; simp -implicitDefEqProofs (maxSteps := 1000000) [bsizeL])
        | (refine awl_skip' [8] rfl ?_; simp -implicitDefEqProofs (maxSteps := 1000000) [bsizeL])
        | (refine aw_cond rfl (fun h => ?_) (fun h => ?_) <;> try (with_reducible first | exact ff_tt h | exact tt_ff h))
        | (refine aw_skip ?_; simp -implicitDefEqProofs (maxSteps := 1000000) [bsizeL])
        | refine aw_block ?_
        | (refine aw_exit ?_; simp -implicitDefEqProofs (maxSteps := 1000000) [bsizeL])
        | refine aw_ret (ret_of (.inr rfl) (by simp [Tryd.results6]; rfl) (Fin.close (Fin.of ?_))))
      rw [hsc]
      simp [tupOf, scanAcc, scanL, List.take_of_length_le]
    | b :: l, hn, hl, htl, htr, hsc, hd =>
      simp only [List.length_cons] at hn hl htl hsc hd
      have hb : b ≠ 32 := trimL_head htr
      have hnx := next_of b l (by omega) _ rfl
      have hlen := nextT_len b l
      have hst : scanL s.size (l.length + 1) (b :: l) = if (nextT ⟨⟨b :: l⟩⟩ b).len = 0 then ([], s.size - (l.length + 1), 2) else scanK (nextT ⟨⟨b :: l⟩⟩ b, s.size - (l.length + 1)) (scanL s.size l.length ((b :: l).drop (nextT ⟨⟨b :: l⟩⟩ b).len)) := by
        rw [scanL, if_neg hb]
      generalize nextT ⟨⟨b :: l⟩⟩ b = x at *
      have wd : IntKind.i64.wrap ((s.size : Int) - ((l.length : Int) + 1)) = ((s.size - (l.length + 1) : Nat) : Int) := by rw [wrap_id (by omega) (by omega)]; omega
      by_cases hx : x.len = 0
      · rw [if_pos hx] at hst
        rw [hst] at hsc
        rw [hx] at hnx
        repeat' (first
          | refine aw_seq ?_
          | (refine aw_run [8] ?_; simp -implicitDefEqProofs (maxSteps := 1000000) [bsizeL, wd])
          | (refine aw_ymix [8] draws (by decide +kernel) ?_; simp -implicitDefEqProofs (maxSteps := 1000000) [bsizeL, wd])
          | (refine aw_yrun draws (by kernel_rfl) ?_; simp -implicitDefEqProofs (maxSteps := 1000000) [bsizeL, wd])
          | (refine awl_skip' [8] rfl ?_; simp -implicitDefEqProofs (maxSteps := 1000000) [bsizeL, wd])
          | (refine awl_pure_guard [8] rfl rfl rfl (by first | assumption | kernel_rfl) rfl (fun hc => by first | exact hnx) (by simp) (by simp) (by simp) ?_; simp -implicitDefEqProofs (maxSteps := 1000000) [bsizeL, wd])
          | (refine yl_pureG rfl rfl rfl (by first | assumption | kernel_rfl) rfl (fun hc => by first | exact hnx) (by simp) (by simp) (by simp) ?_; simp -implicitDefEqProofs (maxSteps := 1000000) [bsizeL, wd])
          | (refine awl_pure' [8] rfl rfl rfl (by first | assumption | kernel_rfl) rfl (by first | exact hnx) (by simp) (by simp) ?_; simp -implicitDefEqProofs (maxSteps := 1000000) [bsizeL, wd])
          | (refine yl_pure rfl rfl rfl (by first | assumption | kernel_rfl) rfl (by first | exact hnx) (by simp) (by simp) ?_; simp -implicitDefEqProofs (maxSteps := 1000000) [bsizeL, wd])
          | (refine aw_cond rfl (fun h => ?_) (fun h => ?_) <;> try (with_reducible first | exact ff_tt h | exact tt_ff h))
          | (refine aw_skip ?_; simp -implicitDefEqProofs (maxSteps := 1000000) [bsizeL, wd])
          | refine aw_block ?_
          | (refine aw_exit ?_; simp -implicitDefEqProofs (maxSteps := 1000000) [bsizeL, wd])
          | refine aw_ret (ret_of (.inr rfl) (by simp [Tryd.results6]; rfl) (Fin.close (Fin.of ?_))))
        rw [hsc]
        simp [tupOf, scanAcc]
      · rw [if_neg hx, scanL_trim _ l.length _ (by simp; omega)] at hst
        have hxd := xdrop (b :: l) x.len
        rw [List.length_cons] at hxd
        simp only [Tok.av] at hnx
        have hT2 := trimBlank_ok ⟨⟨(b :: l).drop x.len⟩⟩ (by simp [bsizeL]; omega)
        repeat' (first
          | refine aw_seq ?_
          | (refine aw_run [8] ?_; simp -implicitDefEqProofs (maxSteps := 1000000) [bsizeL, wd, hx, hxd, hlen])
          | (refine aw_ymix [8] draws (by decide +kernel) ?_; simp -implicitDefEqProofs (maxSteps := 1000000) [bsizeL, wd, hx, hxd, hlen])
          | (refine aw_yrun draws (by kernel_rfl) ?_; simp -implicitDefEqProofs (maxSteps := 1000000) [bsizeL, wd, hx, hxd, hlen])
          | (refine awl_skip' [8] rfl ?_; simp -implicitDefEqProofs (maxSteps := 1000000) [bsizeL, wd, hx, hxd, hlen])
          | (refine awl_pure_guard [8] rfl rfl rfl (by first | assumption | kernel_rfl) rfl (fun hc => by first | exact hnx | exact hT2) (by simp) (by simp) (by simp) ?_; simp -implicitDefEqProofs (maxSteps := 1000000) [bsizeL, wd, hx, hxd, hlen])
          | (refine yl_pureG rfl rfl rfl (by first | assumption | kernel_rfl) rfl (fun hc => by first | exact hnx | exact hT2) (by simp) (by simp) (by simp) ?_; simp -implicitDefEqProofs (maxSteps := 1000000) [bsizeL, wd, hx, hxd, hlen])
          | (refine awl_pure' [8] rfl rfl rfl (by first | assumption | kernel_rfl) rfl (by first | exact hnx | exact hT2) (by simp) (by simp) ?_; simp -implicitDefEqProofs (maxSteps := 1000000) [bsizeL, wd, hx, hxd, hlen])
          | (refine yl_pure rfl rfl rfl (by first | assumption | kernel_rfl) rfl (by first | exact hnx | exact hT2) (by simp) (by simp) ?_; simp -implicitDefEqProofs (maxSteps := 1000000) [bsizeL, wd, hx, hxd, hlen])
          | (refine aw_cond rfl (fun h => ?_) (fun h => ?_) <;> try (with_reducible first | exact ff_tt h | exact tt_ff h))
          | (refine aw_skip ?_; simp -implicitDefEqProofs (maxSteps := 1000000) [bsizeL, wd, hx, hxd, hlen])
          | refine aw_block ?_
          | (refine aw_exit ?_; simp -implicitDefEqProofs (maxSteps := 1000000) [bsizeL, wd, hx, hxd, hlen])
          | refine aw_ret (ret_of (.inr rfl) (by simp [Tryd.results6]; rfl) (Fin.of ?_)))
        refine awl_append [8] rfl rfl rfl (xs := ts.map tokA) (by simp) (by simp) rfl (by simp) te23 tet23 tz37 rfl ?_ (by simp) (by simp; omega) (by simp; omega) ?_
        · intro y hy
          obtain ⟨p, _, rfl⟩ := List.mem_map.1 hy
          rfl
        simp -implicitDefEqProofs
        repeat' (first
          | refine aw_seq ?_
          | (refine aw_run [8] ?_; simp -implicitDefEqProofs (maxSteps := 1000000) [bsizeL, hx, hxd, hlen])
          | (refine aw_ymix [8] draws (by decide +kernel) ?_; simp -implicitDefEqProofs (maxSteps := 1000000) [bsizeL, hx, hxd, hlen])
          | (refine aw_yrun draws (by kernel_rfl) ?_; simp -implicitDefEqProofs (maxSteps := 1000000) [bsizeL, hx, hxd, hlen])
          | (refine awl_skip' [8] rfl ?_; simp -implicitDefEqProofs (maxSteps := 1000000) [bsizeL, hx, hxd, hlen])
          | (refine awl_pure_guard [8] rfl rfl rfl (by first | assumption | kernel_rfl) rfl (fun hc => by first | exact hT2) (by simp) (by simp) (by simp) ?_; simp -implicitDefEqProofs (maxSteps := 1000000) [bsizeL, hx, hxd, hlen])
          | (refine yl_pureG rfl rfl rfl (by first | assumption | kernel_rfl) rfl (fun hc => by first | exact hT2) (by simp) (by simp) (by simp) ?_; simp -implicitDefEqProofs (maxSteps := 1000000) [bsizeL, hx, hxd, hlen])
          | (refine awl_pure' [8] rfl rfl rfl (by first | assumption | kernel_rfl) rfl (by first | exact hT2) (by simp) (by simp) ?_; simp -implicitDefEqProofs (maxSteps := 1000000) [bsizeL, hx, hxd, hlen])
          | (refine yl_pure rfl rfl rfl (by first | assumption | kernel_rfl) rfl (by first | exact hT2) (by simp) (by simp) ?_; simp -implicitDefEqProofs (maxSteps := 1000000) [bsizeL, hx, hxd, hlen])
          | (refine aw_cond rfl (fun h => ?_) (fun h => ?_) <;> try (with_reducible first | exact ff_tt h | exact tt_ff h))
          | (refine aw_skip ?_; simp -implicitDefEqProofs (maxSteps := 1000000) [bsizeL, hx, hxd, hlen])
          | refine aw_block ?_
          | (refine aw_exit ?_; simp -implicitDefEqProofs (maxSteps := 1000000) [bsizeL, hx, hxd, hlen])
          | refine aw_ret (ret_of (.inr rfl) (by simp [Tryd.results6]; rfl) (Fin.of ?_)))
        refine ⟨(trimL 32 ((b :: l).drop x.len)).length, ?_, oneSl (m + 1) ((ts ++ [(x, s.size - (l.length + 1))]).map tokA) (m + 2), le_oneSl (by simp [List.take_of_length_le, tokA, Tok.av]) (by simp), m + 1, m + 2, by omega, ts ++ [(x, s.size - (l.length + 1))], trimL 32 ((b :: l).drop x.len), rfl, ?_, ?_, trimL_idem _ _, ?_, rfl, ?_⟩
        · have := trimL_len 32 ((b :: l).drop x.len); simp only [List.length_drop, List.length_cons] at this; omega
        · have := trimL_len 32 ((b :: l).drop x.len); simp only [List.length_drop, List.length_cons] at this; omega
        · have := trimL_len 32 ((b :: l).drop x.len); simp only [List.length_drop, List.length_cons] at this; simp; omega
        · rw [hsc, hst, scanAcc_K]
        · simp
end Go.AL
