/- Parts of the proof of MonoTells: the logic, contracts, plain laws. -/
import Derived.Test.YtadahjmamgidnaaZMonoTells15
import Derived.Test.YtadahjmamgidnaaZMonoTells10
/-! Contracts: place.Parse. -/
namespace Go.AL
open Go.Proofs Go.Proofs.Ytadahjmamgidnaa.Dec Go.Lib
set_option linter.unusedSimpArgs false
set_option linter.unusedVariables false
theorem itoa_pos {n : Int} (h : 0 ≤ n) : itoa n = decDigits n.toNat := by unfold itoa; rw [if_neg (by omega)]
theorem textP_list {x y : Int} (h : rightP x y = true) : (textP x y).data.toList = UInt8.ofNat (65 + x).toNat :: decDigits (y + 1).toNat := by
  have hb := rightP_iff'.1 h
  rw [← textQ_eq, textQ, if_pos h, itoa_pos (by omega)]
  simp [strOf]
theorem fig_digit (x : UInt8) : digitB x = fig x := by
  unfold digitB fig
  by_cases h : 48 ≤ x.toNat <;> by_cases h2 : x.toNat ≤ 57 <;> simp [h, h2] <;> omega
theorem textP_iff {s : ByteArray} {c : UInt8} {d : List UInt8} (e : s.data.toList = c :: d) (hd : d ≠ []) (hl : d.length ≤ 3) (hf : d.all fig = true) (h48 : ∀ x, d.head? = some x → x.toNat ≠ 48) {x y : Int} (hp : rightP x y = true) :
    textP x y = s ↔ (x = (c.toNat : Int) - 65 ∧ y = (fval 0 d : Int) - 1) := by
  have hb := rightP_iff'.1 hp
  have hc : decDigits (fval 0 d) = d := dec_canon d.length d rfl hd hf (fun z hz h => absurd h (h48 z hz))
  have hq : textP x y = s ↔ (textP x y).data.toList = s.data.toList := ⟨fun h => by rw [h], fun h => by
    cases hs : s; cases ht : textP x y
    rw [hs, ht] at h
    simpa using h⟩
  rw [hq, e, textP_list hp]
  constructor
  · intro h
    obtain ⟨h1, h2⟩ := List.cons.inj h
    have h3 : (UInt8.ofNat (65 + x).toNat).toNat = c.toNat := by rw [h1]
    rw [u8_of _ (by omega)] at h3
    have h4 := congrArg (fval 0) h2
    rw [dec_val] at h4
    exact ⟨by omega, by omega⟩
  · rintro ⟨h1, h2⟩
    rw [u8_eq (c := c) (by omega) (by omega), show (y + 1).toNat = fval 0 d from by omega, hc]
theorem atC_nat {i : Nat} (h : i < 1024) : atC (i : Int) = ((i % 16 : Nat) : Int) := by unfold atC; rw [if_pos (by omega)]; omega
theorem atR_nat {i : Nat} (h : i < 1024) : atR (i : Int) = ((i / 16 : Nat) : Int) := by unfold atR; rw [if_pos (by omega)]; omega
theorem at_right {i : Nat} (h : i < 1024) : rightP (atC (i : Int)) (atR (i : Int)) = true := by rw [atC_nat h, atR_nat h]; exact rightP_iff'.2 (by omega)
theorem findT_yes {s : ByteArray} {c : UInt8} {d : List UInt8} (e : s.data.toList = c :: d) (hd : d ≠ []) (hl : d.length ≤ 3) (hf : d.all fig = true) (h48 : ∀ x, d.head? = some x → x.toNat ≠ 48)
    (hr : rightP ((c.toNat : Int) - 65) ((fval 0 d : Int) - 1) = true) : findT s = some ((fval 0 d - 1) * 16 + (c.toNat - 65)) := by
  have hb := rightP_iff'.1 hr
  unfold findT
  rw [List.find?_range_eq_some]
  refine ⟨?_, by simp; omega, fun j hj => ?_⟩
  · refine decide_eq_true ((textP_iff e hd hl hf h48 (at_right (by omega))).2 ?_)
    rw [atC_nat (by omega), atR_nat (by omega)]
    omega
  · have : ¬ textP (atC (j : Int)) (atR (j : Int)) = s := fun hh => by
      have := (textP_iff e hd hl hf h48 (at_right (by omega))).1 hh
      rw [atC_nat (by omega), atR_nat (by omega)] at this
      omega
    simp [isText, this]
theorem findT_no {s : ByteArray} {c : UInt8} {d : List UInt8} (e : s.data.toList = c :: d) (hd : d ≠ []) (hl : d.length ≤ 3) (hf : d.all fig = true) (h48 : ∀ x, d.head? = some x → x.toNat ≠ 48)
    (hr : rightP ((c.toNat : Int) - 65) ((fval 0 d : Int) - 1) = false) : findT s = none := by
  unfold findT
  rw [List.find?_range_eq_none]
  intro j hj
  have : ¬ textP (atC (j : Int)) (atR (j : Int)) = s := fun hh => by
    have h1 := at_right hj
    obtain ⟨g1, g2⟩ := (textP_iff e hd hl hf h48 h1).1 hh
    rw [g1, g2, hr] at h1
    cases h1
  simp [isText, this]
end Go.AL
/-! Contracts: lexer.name. -/
namespace Go.AL
open Go.Proofs
set_option linter.unusedSimpArgs false
set_option linter.unusedVariables false
def nameR (c : Int) : Bool := letR c || figR c
theorem nameR_hi : ∀ c : Int, 128 ≤ c → nameR c = false := fun c h => by simp [nameR, letR_hi c h, figR_hi c h]
def isWord (t : ByteArray) : Prop := t = ⟨#[73, 70]⟩ ∨ t = ⟨#[83, 85, 77]⟩ ∨ t = ⟨#[77, 73, 78]⟩ ∨ t = ⟨#[77, 65, 88]⟩ ∨ t = ⟨#[67, 79, 85, 78, 84]⟩
end Go.AL
/-! Contracts: lexer.next. -/
namespace Go.AL
open Go.Proofs
set_option linter.unusedSimpArgs false
set_option linter.unusedVariables false
/-- A token but for where it stands, and how long it is; 0: there is none. -/
structure Tok where
  k : Int
  n : Int
  c : Int
  r : Int
  t : ByteArray
  len : Nat
def Tok.av (x : Tok) (f : Int) : AV := token x.k x.n x.c x.r x.t f
def noTok : Tok := ⟨0, 0, 0, 0, ⟨#[]⟩, 0⟩
instance (t : ByteArray) : Decidable (isWord t) := by unfold isWord; infer_instance
def placeTok (s : ByteArray) (c r e : Int) : Tok := ⟨if e = 0 then 2 else if e = 4 then 3 else 0, 0, if e = 0 then c else 0, if e = 0 then r else 0, ⟨#[]⟩, if e = 0 ∨ e = 4 then leadL nameR s else 0⟩
def nextT (s : ByteArray) (b : UInt8) : Tok :=
  if figR b.toNat = true then (match Lib.atoiAll (leadS figR s).data.toList with | .ok v => ⟨1, v, 0, 0, ⟨#[]⟩, leadL figR s⟩ | _ => noTok)
  else if letR b.toNat = true then (if isWord (leadS nameR s) then ⟨4, 0, 0, 0, leadS nameR s, leadL nameR s⟩
    else placeTok s (z (parseB (leadS nameR s)) (atC (parseI (leadS nameR s)))) (z (parseB (leadS nameR s)) (atR (parseI (leadS nameR s)))) (parseE (leadS nameR s)))
  else if hasPre s ⟨#[35, 82, 69, 70]⟩ = true then ⟨3, 0, 0, 0, ⟨#[]⟩, 4⟩
  else ⟨if markN s.data.toList = 0 then 0 else 5, 0, 0, 0, s.extract 0 (markN s.data.toList), markN s.data.toList⟩
end Go.AL
/-! Contracts: lexer.Scan. -/
namespace Go.AL
open Go.Proofs
set_option linter.unusedSimpArgs false
set_option linter.unusedVariables false
theorem xdrop (l : List UInt8) (n : Nat) : (⟨⟨l⟩⟩ : ByteArray).extract n l.length = ⟨⟨l.drop n⟩⟩ := by
  apply ByteArray.ext
  simp [ByteArray.data_extract, List.take_of_length_le]
/-- A token, where it stands. -/
def tokA (p : Tok × Nat) : AV := p.1.av (p.2 : Nat)
def scanK (p : Tok × Nat) (r : List (Tok × Nat) × Nat × Int) : List (Tok × Nat) × Nat × Int := if r.2.2 = 0 then (p :: r.1, 0, 0) else ([], r.2)
/-- The tokens of a text's rest, the place of a fault, its number. -/
def scanL (sz : Nat) : Nat → List UInt8 → List (Tok × Nat) × Nat × Int
  | 0, _ => ([], 0, 0)
  | _ + 1, [] => ([], 0, 0)
  | n + 1, b :: l => if b = 32 then scanL sz n l else
    if (nextT ⟨⟨b :: l⟩⟩ b).len = 0 then ([], sz - (l.length + 1), 2) else scanK (nextT ⟨⟨b :: l⟩⟩ b, sz - (l.length + 1)) (scanL sz n ((b :: l).drop (nextT ⟨⟨b :: l⟩⟩ b).len))
def scanS (s : ByteArray) : List (Tok × Nat) × Nat × Int := if 200 < s.size then ([], 0, 3) else scanL s.size s.size s.data.toList
theorem scanL_fuel (sz : Nat) : ∀ (n m : Nat) (l : List UInt8), l.length ≤ n → l.length ≤ m → scanL sz n l = scanL sz m l
  | 0, m, [], _, _ => by cases m <;> rfl
  | 0, _, _ :: _, h, _ => by simp at h
  | n + 1, m, [], _, _ => by cases m <;> rfl
  | n + 1, 0, _ :: _, _, h => by simp at h
  | n + 1, m + 1, b :: l, h1, h2 => by
    simp only [List.length_cons] at h1 h2
    unfold scanL
    split
    · exact scanL_fuel sz n m l (by omega) (by omega)
    · split
      · rfl
      · rename_i hx
        rw [scanL_fuel sz n m _ (by simp [List.length_drop]; omega) (by simp [List.length_drop]; omega)]
theorem trimL_len (c : UInt8) (l : List UInt8) : (trimL c l).length ≤ l.length := (List.dropWhile_sublist _).length_le
theorem trimL_cons (c b : UInt8) (l : List UInt8) : trimL c (b :: l) = if b = c then trimL c l else b :: l := by
  unfold trimL; rw [List.dropWhile_cons]; simp
theorem scanL_trim (sz : Nat) : ∀ (n : Nat) (l : List UInt8), l.length ≤ n → scanL sz n l = scanL sz (trimL 32 l).length (trimL 32 l)
  | n, [], _ => by cases n <;> rfl
  | 0, b :: l, h => by simp at h
  | n + 1, b :: l, h => by
    simp only [List.length_cons] at h
    rw [trimL_cons]
    split
    · rename_i hb
      rw [scanL, if_pos hb]
      exact scanL_trim sz n l (by omega)
    · exact scanL_fuel sz _ _ _ (by simp; omega) (Nat.le_refl _)
theorem trimL_idem (c : UInt8) : ∀ l : List UInt8, trimL c (trimL c l) = trimL c l
  | [] => rfl
  | b :: l => by
    rw [trimL_cons]
    split
    · exact trimL_idem c l
    · rename_i h; rw [trimL_cons, if_neg h]
@[simp] theorem tok_cl (x : Tok) (f : Int) : Cl (x.av f) := by
  refine .agg _ fun c hc => ?_
  simp at hc
  rcases hc with rfl | rfl | rfl | rfl | rfl | rfl <;> exact .p _
theorem trimL_head {c : UInt8} : ∀ {l : List UInt8} {b : UInt8} {r : List UInt8}, trimL c l = b :: r → b ≠ c
  | [], _, _, h => by simp [trimL] at h
  | x :: l, b, r, h => by
    rw [trimL_cons] at h
    split at h
    · exact trimL_head h
    · rename_i hx
      simp only [List.cons.injEq] at h
      rw [← h.1]; exact hx
def scanAcc (ts : List (Tok × Nat)) (r : List (Tok × Nat) × Nat × Int) : List (Tok × Nat) × Nat × Int := if r.2.2 = 0 then (ts ++ r.1, 0, 0) else ([], r.2)
theorem scanAcc_K (ts : List (Tok × Nat)) (p : Tok × Nat) (r : List (Tok × Nat) × Nat × Int) : scanAcc ts (scanK p r) = scanAcc (ts ++ [p]) r := by
  unfold scanAcc scanK
  by_cases h : r.2.2 = 0 <;> simp [h]
theorem scanL_zero (sz : Nat) : ∀ (n : Nat) (l : List UInt8), (scanL sz n l).2.2 = 0 → (scanL sz n l).2.1 = 0
  | 0, _, _ => rfl
  | _ + 1, [], _ => rfl
  | n + 1, b :: l, h => by
    unfold scanL at h ⊢
    split
    · rename_i hb; rw [if_pos hb] at h; exact scanL_zero sz n l h
    · rename_i hb
      rw [if_neg hb] at h
      split
      · rename_i hx; rw [if_pos hx] at h; simp at h
      · rename_i hx
        rw [if_neg hx] at h
        unfold scanK at h ⊢
        split
        · rfl
        · rename_i hr; rw [if_neg hr] at h; exact absurd h hr
theorem scanAcc_nil (sz n : Nat) (l : List UInt8) : scanAcc [] (scanL sz n l) = scanL sz n l := by
  unfold scanAcc
  split
  · rename_i h
    have := scanL_zero sz n l h
    generalize scanL sz n l = r at *
    obtain ⟨a, b, c⟩ := r
    simp at h this ⊢
    exact ⟨this.symm, h.symm⟩
  · rename_i h
    have hz : ∀ n l, (scanL sz n l).2.2 ≠ 0 → (scanL sz n l).1 = [] := by
      intro n
      induction n with
      | zero => intro l h; rfl
      | succ n ih =>
        intro l h
        match l, h with
        | [], h => rfl
        | b :: l, h =>
          unfold scanL at h ⊢
          split
          · rename_i hb; rw [if_pos hb] at h; exact ih l h
          · rename_i hb
            rw [if_neg hb] at h
            split
            · rfl
            · rename_i hx
              rw [if_neg hx] at h
              unfold scanK at h ⊢
              split
              · rename_i hr; rw [if_pos hr] at h; simp at h
              · rfl
    have := hz n l h
    generalize scanL sz n l = r at *
    obtain ⟨a, b, c⟩ := r
    simp at this ⊢
    exact this
theorem markN_le (l : List UInt8) : markN l ≤ l.length := by
  cases l with
  | nil => simp [markN]
  | cons b l =>
    have h1 : ∀ p : ByteArray, hasPre ⟨⟨l⟩⟩ p = true → p.size ≤ l.length := fun p h => by
      simp only [hasPre, Bool.and_eq_true, decide_eq_true_eq] at h
      simpa [bsizeL] using h.1
    have h2 : ∀ p : ByteArray, hasPre ⟨⟨b :: l⟩⟩ p = true → p.size ≤ l.length + 1 := fun p h => by
      simp only [hasPre, Bool.and_eq_true, decide_eq_true_eq] at h
      simpa [bsizeL] using h.1
    simp only [markN, List.length_cons]
    split
    · split
      · rename_i h
        rcases h with h | h
        · have := h2 _ h; simp [bsizeL] at this; omega
        · have := h1 _ h; simp [bsizeL] at this; omega
      · omega
    · split
      · split
        · rename_i h
          have := h1 _ h; simp [bsizeL] at this; omega
        · omega
      · split <;> omega
theorem nextT_len (b : UInt8) (l : List UInt8) : (nextT ⟨⟨b :: l⟩⟩ b).len ≤ l.length + 1 := by
  have h1 := leadL_le figR ⟨⟨b :: l⟩⟩
  have h2 := leadL_le nameR ⟨⟨b :: l⟩⟩
  have h3 := markN_le (b :: l)
  simp only [bsizeL, List.size_toArray, List.length_cons] at h1 h2 h3
  unfold nextT
  split
  · split
    · exact h1
    · exact Nat.zero_le _
  · split
    · split
      · exact h2
      · unfold placeTok
        simp only
        split
        · exact h2
        · exact Nat.zero_le _
    · split
      · rename_i h
        simp only [hasPre, Bool.and_eq_true, decide_eq_true_eq] at h
        have := h.1
        simpa [bsizeL] using this
      · exact h3
end Go.AL
/-! Contracts: gridironref04's small functions. -/
namespace Go.AL
open Go.Proofs Go.Proofs.Ytadahjmamgidnaa.Dec Go.Lib
set_option linter.unusedSimpArgs false
set_option linter.unusedVariables false
set_option maxRecDepth 100000 in
theorem rfigure_ok (c : UInt8) : APure Try.prog 124 [vbyte c] (vb (figR c.toNat)) := by
  refine apure_of Try.func124 Try.ntmps124 rfl ?_
  simp only [List.length_cons, List.length_nil, List.cons_append, List.nil_append, List.replicate]
  repeat' (first
    | refine aw_seq ?_
    | (refine aw_run [] ?_; try simp -implicitDefEqProofs (maxSteps := 1000000))
    | ((first | refine awl_skip' [] rfl ?_ | refine aw_skip ?_ | refine aw_exit ?_); try simp -implicitDefEqProofs (maxSteps := 1000000))
    | (refine aw_cond rfl (fun h => ?_) (fun h => ?_) <;> try (with_reducible first | exact ff_tt h | exact tt_ff h))
    | refine aw_block ?_
    | refine aw_ret (ret_of (.inr rfl) (by simp [Try.results124]; rfl) (Fin.of ?_))
    | refine ret_of (.inl rfl) (by simp [Try.results124]; rfl) (Fin.of ?_))
  rfl
set_option maxRecDepth 100000 in
theorem rnamed_ok (c : UInt8) : APure Try.prog 126 [vbyte c] (vb (nameR c.toNat)) := by
  refine apure_of Try.func126 Try.ntmps126 rfl ?_
  simp only [List.length_cons, List.length_nil, List.cons_append, List.nil_append, List.replicate]
  repeat' (first
    | refine aw_seq ?_
    | (refine aw_run [] ?_; try simp -implicitDefEqProofs (maxSteps := 1000000))
    | ((first | refine awl_skip' [] rfl ?_ | refine aw_skip ?_ | refine aw_exit ?_); try simp -implicitDefEqProofs (maxSteps := 1000000))
    | (refine aw_cond rfl (fun h => ?_) (fun h => ?_) <;> try (with_reducible first | exact ff_tt h | exact tt_ff h))
    | refine aw_block ?_
    | refine aw_ret (ret_of (.inr rfl) (by simp [Try.results126]; rfl) (Fin.of ?_))
    | refine ret_of (.inl rfl) (by simp [Try.results126]; rfl) (Fin.of ?_))
  simp [tupOf, nameR, letR, figR]
set_option maxRecDepth 100000 in
theorem rword_ok (s : ByteArray) : APure Try.prog 128 [vs s] (vb (decide (isWord s))) := by
  refine apure_of Try.func128 Try.ntmps128 rfl ?_
  simp only [List.length_cons, List.length_nil, List.cons_append, List.nil_append, List.replicate]
  repeat' (first
    | refine aw_seq ?_
    | (refine aw_run [] ?_; try simp -implicitDefEqProofs (maxSteps := 1000000))
    | ((first | refine awl_skip' [] rfl ?_ | refine aw_skip ?_ | refine aw_exit ?_); try simp -implicitDefEqProofs (maxSteps := 1000000))
    | (refine aw_cond rfl (fun h => ?_) (fun h => ?_) <;> try (with_reducible first | exact ff_tt h | exact tt_ff h))
    | refine aw_block ?_
    | refine aw_ret (ret_of (.inr rfl) (by simp [Try.results128]; rfl) (Fin.of ?_))
    | refine ret_of (.inl rfl) (by simp [Try.results128]; rfl) (Fin.of ?_))
  simp [tupOf, isWord]
  grind
theorem fig_iff (c : UInt8) : fig c = figR c.toNat := by
  unfold fig figR
  by_cases h1 : 48 ≤ c.toNat <;> by_cases h2 : c.toNat ≤ 57 <;> simp [h1, h2] <;> omega
theorem parse_big (l : List UInt8) : ∀ acc, acc < 18446744073709551616 → l.all fig = true → 18446744073709551616 ≤ fval acc l → parseUint10 acc l = .range := by
  induction l with
  | nil => intro acc h0 _ hv; rw [fval_nil] at hv; omega
  | cons c r ih =>
    intro acc h0 ha hv
    simp only [List.all_cons, Bool.and_eq_true] at ha
    have hc : 48 ≤ c.toNat ∧ c.toNat ≤ 57 := of_fig ha.1
    rw [fval_cons] at hv
    simp only [parseUint10]
    rw [if_pos hc]
    split
    · rfl
    · split
      · rfl
      · exact ih _ (by omega) ha.2 hv
/-- Figures, read as a number. -/
theorem atoi_figs {l : List UInt8} (h0 : l ≠ []) (ha : l.all fig = true) :
    (fval 0 l ≤ 9223372036854775807 ∧ atoiAll l = .ok (fval 0 l)) ∨ (9223372036854775807 < fval 0 l ∧ ∀ v, atoiAll l ≠ .ok v) := by
  by_cases hv : fval 0 l < 18446744073709551616
  · rw [atoi_plain h0 ha hv]
    by_cases h : 9223372036854775808 ≤ fval 0 l
    · right; rw [if_pos h]; exact ⟨by omega, fun v e => by cases e⟩
    · left; rw [if_neg h]; exact ⟨by omega, rfl⟩
  · right
    refine ⟨by omega, fun v e => ?_⟩
    have hb := parse_big l 0 (by omega) ha (by omega)
    have hm : parseMag l = .range := by unfold parseMag; rw [if_neg h0, hb]
    cases l with
    | nil => exact h0 rfl
    | cons c r =>
      have hc := fig_head ha (c := c) rfl
      simp only [atoiAll] at e
      rw [if_neg (by omega), hm] at e
      cases e
theorem fval_take {l : List UInt8} {i : Nat} {c : UInt8} (h : l[i]? = some c) : fval 0 (l.take (i + 1)) = fval 0 (l.take i) * 10 + (c.toNat - 48) := by
  obtain ⟨hi, he⟩ := List.getElem?_eq_some_iff.1 h
  rw [List.take_add_one, h]
  simp [fval_append, fval_cons, fval_nil]
theorem fval_mono (l : List UInt8) (i : Nat) : fval 0 (l.take i) ≤ fval 0 l := by
  conv => rhs; rw [← List.take_append_drop i l, fval_append]
  exact fval_ge _ _
set_option maxHeartbeats 4000000 in
set_option maxRecDepth 100000 in
theorem rnumber_ok (l : List UInt8) (hl : l.length ≤ 281474976710656) (ha : l.all fig = true) :
    APure Try.prog 125 [vs ⟨⟨l⟩⟩] (.tup [vi (if fval 0 l ≤ 9223372036854775807 then (fval 0 l : Int) else 0), vb (decide (fval 0 l ≤ 9223372036854775807))]) := by
  refine apure_of Try.func125 Try.ntmps125 rfl ?_
  simp only [List.length_cons, List.length_nil, List.cons_append, List.nil_append, List.replicate]
  refine aw_seq (aw_run [] ?_)
  simp -implicitDefEqProofs
  refine aw_seq (aw_run [] ?_)
  simp -implicitDefEqProofs
  refine aw_seq (aw_seq (aw_run [] ?_))
  simp -implicitDefEqProofs
  refine aw_block (aw_loopK [0, 4, 5] (fun n fr σ => σ = σ0 ∧ ∃ i : Nat, i + n = l.length ∧ fval 0 (l.take i) ≤ 9223372036854775807 ∧ fr = frm 28 [(0, vs ⟨⟨l⟩⟩), (4, vi (fval 0 (l.take i) : Nat)), (5, vi (i : Nat))]) l.length ?_ ?_)
  · exact ⟨rfl, 0, by omega, by simp [fval_nil], by simp [fval_nil]⟩
  · rintro n fr σ ⟨rfl, i, hi, hb, rfl⟩
    simp
    by_cases hlt : i < l.length
    · obtain ⟨c, hcc⟩ : ∃ c, l[i] = c := ⟨_, rfl⟩
      have hc : l[i]? = some c := by rw [List.getElem?_eq_getElem hlt, hcc]
      have hf : fig c = true := List.all_eq_true.1 ha c (List.mem_of_getElem? hc)
      have h48 := of_fig hf
      have hft := fval_take hc
      have w1 : IntKind.u8.wrap ((c.toNat : Int) - 48) = ((c.toNat - 48 : Nat) : Int) := by rw [bwrap_id (by omega) (by omega)]; omega
      have w2 : IntKind.i64.wrap ((c.toNat - 48 : Nat) : Int) = ((c.toNat - 48 : Nat) : Int) := wrap_id (by omega) (by omega)
      have w3 : IntKind.i64.wrap (9223372036854775807 - ((c.toNat - 48 : Nat) : Int)) = 9223372036854775807 - ((c.toNat - 48 : Nat) : Int) := wrap_id (by omega) (by omega)
      have w4 : IntKind.i64.wrap (Int.tdiv (9223372036854775807 - ((c.toNat - 48 : Nat) : Int)) 10) = ((9223372036854775807 - (c.toNat - 48)) / 10 : Nat) := by
        rw [Int.tdiv_eq_ediv_of_nonneg (by omega), wrap_id (by omega) (by omega)]; omega
      have w7 : IntKind.i64.wrap ((i : Int) + 1) = ((i + 1 : Nat) : Int) := by rw [wrap_id (by omega) (by omega)]; omega
      by_cases hov : (9223372036854775807 - (c.toNat - 48)) / 10 < fval 0 (l.take i)
      · have hm := fval_mono l (i + 1)
        have hno : ¬ fval 0 l ≤ 9223372036854775807 := by omega
        rw [if_neg hno, decide_eq_false hno]
        repeat' (first
          | refine aw_seq ?_
          | (refine aw_run [] ?_; try simp -implicitDefEqProofs (maxSteps := 1000000) [bsizeL, hlt, hcc, w1, w2, w3, w4, hov])
          | ((first | refine awl_skip' [] rfl ?_ | refine aw_skip ?_ | refine aw_exit ?_); try simp -implicitDefEqProofs (maxSteps := 1000000) [bsizeL, hlt, hcc, w1, w2, w3, w4, hov])
          | (refine aw_cond rfl (fun h => ?_) (fun h => ?_) <;> try (with_reducible first | exact ff_tt h | exact tt_ff h))
          | refine aw_block ?_
          | refine aw_ret (ret_of (.inr rfl) (by simp [Try.results125]; rfl) (Fin.of ?_))
          | refine ret_of (.inl rfl) (by simp [Try.results125]; rfl) (Fin.of ?_))
        · rfl
        · rename_i h; simp at h; omega
      · have w5 : IntKind.i64.wrap (10 * (fval 0 (l.take i) : Int)) = 10 * (fval 0 (l.take i) : Int) := wrap_id (by omega) (by omega)
        have w6 : IntKind.i64.wrap (10 * (fval 0 (l.take i) : Int) + ((c.toNat - 48 : Nat) : Int)) = (fval 0 (l.take (i + 1)) : Nat) := by rw [wrap_id (by omega) (by omega)]; omega
        repeat' (first
          | refine aw_seq ?_
          | (refine aw_run [] ?_; try simp -implicitDefEqProofs (maxSteps := 1000000) [bsizeL, hlt, hcc, w1, w2, w3, w4, w5, w6, w7, hov])
          | ((first | refine awl_skip' [] rfl ?_ | refine aw_skip ?_ | refine aw_exit ?_); try simp -implicitDefEqProofs (maxSteps := 1000000) [bsizeL, hlt, hcc, w1, w2, w3, w4, w5, w6, w7, hov])
          | (refine aw_cond rfl (fun h => ?_) (fun h => ?_) <;> try (with_reducible first | exact ff_tt h | exact tt_ff h))
          | refine aw_block ?_
          | refine aw_ret (ret_of (.inr rfl) (by simp [Try.results125]; rfl) (Fin.of ?_))
          | refine ret_of (.inl rfl) (by simp [Try.results125]; rfl) (Fin.of ?_))
        · rename_i h; simp at h; omega
        · exact ⟨n - 1, by omega, i + 1, by omega, by omega, rfl, by omega⟩
    · have hi2 : i = l.length := by omega
      subst hi2
      simp only [List.take_length] at *
      rw [if_pos hb, decide_eq_true hb]
      repeat' (first
        | refine aw_seq ?_
        | (refine aw_run [] ?_; try simp -implicitDefEqProofs (maxSteps := 1000000) [bsizeL])
        | ((first | refine awl_skip' [] rfl ?_ | refine aw_skip ?_ | refine aw_exit ?_); try simp -implicitDefEqProofs (maxSteps := 1000000) [bsizeL])
        | (refine aw_cond rfl (fun h => ?_) (fun h => ?_) <;> try (with_reducible first | exact ff_tt h | exact tt_ff h))
        | refine aw_block ?_
        | refine aw_ret (ret_of (.inr rfl) (by simp [Try.results125]; rfl) (Fin.of ?_))
        | refine ret_of (.inl rfl) (by simp [Try.results125]; rfl) (Fin.of ?_))
      rfl
end Go.AL
/-! Contracts: gridironref04.mark. -/
namespace Go.AL
open Go.Proofs Go.Proofs.Ytadahjmamgidnaa.Dec Go.Lib
set_option linter.unusedSimpArgs false
set_option linter.unusedVariables false
def markD (b d : UInt8) : Nat := if (b = 60 ∧ (d = 61 ∨ d = 62)) ∨ (b = 62 ∧ d = 61) then 2 else if b = 43 ∨ b = 45 ∨ b = 42 ∨ b = 47 ∨ b = 40 ∨ b = 41 ∨ b = 44 ∨ b = 58 ∨ b = 60 ∨ b = 61 ∨ b = 62 then 1 else 0
theorem extract_take (l : List UInt8) (n : Nat) : (⟨⟨l⟩⟩ : ByteArray).extract 0 n = ⟨⟨l.take n⟩⟩ := by
  apply ByteArray.ext
  simp [ByteArray.data_extract, List.take_of_length_le]
theorem hasPre_iff (l p : List UInt8) : hasPre ⟨⟨l⟩⟩ ⟨⟨p⟩⟩ = true ↔ l.take p.length = p := by
  simp only [hasPre, Bool.and_eq_true, decide_eq_true_eq, bsizeL, List.size_toArray, extract_take]
  constructor
  · rintro ⟨_, h⟩; simpa using h
  · intro h
    refine ⟨?_, by rw [h]⟩
    have := congrArg List.length h
    simp at this; omega
theorem markN_D (b : UInt8) (l : List UInt8) : markN (b :: l) = markD b (l.head?.getD 0) := by
  have h1 : (hasPre ⟨⟨l⟩⟩ ⟨#[61]⟩ = true) ↔ l.head?.getD 0 = 61 := by
    rw [hasPre_iff]
    cases l with
    | nil => simp
    | cons d l => simp
  have h2 : (hasPre ⟨⟨b :: l⟩⟩ ⟨#[60, 62]⟩ = true) ↔ b = 60 ∧ l.head?.getD 0 = 62 := by
    rw [hasPre_iff]
    cases l with
    | nil => simp
    | cons d l => simp
  simp only [markN, h1, h2, markD]
  generalize l.head?.getD 0 = d
  by_cases e : b = 60
  · subst e
    by_cases e1 : d = 61 <;> by_cases e2 : d = 62 <;> simp [e1, e2]
  · by_cases e : b = 62
    · subst e
      by_cases e1 : d = 61 <;> simp [e1]
    · simp [*]
theorem at0 (pre : List UInt8) (b : UInt8) (l : List UInt8) : (pre ++ b :: l)[pre.length]? = some b := by simp
theorem at1 (pre : List UInt8) (b d : UInt8) (l : List UInt8) : (pre ++ b :: d :: l)[pre.length + 1]? = some d := by simp
theorem cn (c : UInt8) (n : Nat) (hn : n < 256) : ((c.toNat : Int) = (n : Int)) ↔ c = UInt8.ofNat n := by
  constructor
  · intro h; apply UInt8.toNat_inj.1; rw [u8_of n hn]; omega
  · intro h; rw [h, u8_of n hn]
set_option maxHeartbeats 4000000 in
set_option maxRecDepth 100000 in
theorem rmark_ok (pre : List UInt8) (b : UInt8) (l : List UInt8) (hs : (pre ++ b :: l).length ≤ 281474976710656) :
    APure Try.prog 129 [vs ⟨⟨pre ++ b :: l⟩⟩, vi (pre.length : Nat)] (vi (markN (b :: l) : Nat)) := by
  have h1 : IntKind.i64.wrap ((pre.length : Int) + 1) = ((pre.length + 1 : Nat) : Int) := by simp at hs; rw [wrap_id (by omega) (by omega)]; omega
  have hp : (0 : Int) ≤ pre.length := by omega
  have h0 := at0 pre b l
  rw [markN_D]
  have q43 : ((b.toNat : Int) = 43) ↔ b = 43 := u8c (c := 43)
  have q45 : ((b.toNat : Int) = 45) ↔ b = 45 := u8c (c := 45)
  have q42 : ((b.toNat : Int) = 42) ↔ b = 42 := u8c (c := 42)
  have q47 : ((b.toNat : Int) = 47) ↔ b = 47 := u8c (c := 47)
  have q40 : ((b.toNat : Int) = 40) ↔ b = 40 := u8c (c := 40)
  have q41 : ((b.toNat : Int) = 41) ↔ b = 41 := u8c (c := 41)
  have q44 : ((b.toNat : Int) = 44) ↔ b = 44 := u8c (c := 44)
  have q58 : ((b.toNat : Int) = 58) ↔ b = 58 := u8c (c := 58)
  have q60 : ((b.toNat : Int) = 60) ↔ b = 60 := u8c (c := 60)
  have q61 : ((b.toNat : Int) = 61) ↔ b = 61 := u8c (c := 61)
  have q62 : ((b.toNat : Int) = 62) ↔ b = 62 := u8c (c := 62)
  cases l with
  | nil =>
    have d61 : True := trivial
    have d62 : True := trivial
    refine apure_of Try.func129 Try.ntmps129 rfl ?_
    simp only [List.length_cons, List.length_nil, List.cons_append, List.nil_append, List.replicate]
    repeat' (first
      | refine aw_seq ?_
      | (refine aw_run [] ?_; try simp -implicitDefEqProofs (maxSteps := 1000000) [bsizeL, h1, hp, h0])
      | ((first | refine awl_skip' [] rfl ?_ | refine aw_skip ?_ | refine aw_exit ?_); try simp -implicitDefEqProofs (maxSteps := 1000000) [bsizeL, h1, hp, h0])
      | (refine aw_cond rfl (fun h => ?_) (fun h => ?_) <;> try (with_reducible first | exact ff_tt h | exact tt_ff h))
      | refine aw_block ?_
      | refine aw_ret (ret_of (.inr rfl) (by simp [Try.results129]; rfl) (Fin.of ?_))
      | refine ret_of (.inl rfl) (by simp [Try.results129]; rfl) (Fin.of ?_))
    all_goals first | (rename_i h _; simp at h; omega) | skip
    all_goals
      rename_i h
      simp [q43, q45, q42, q47, q40, q41, q44, q58, q60, q61, q62, d61, d62] at h
      simp only [tupOf, AV.p.injEq, Value.int.injEq, true_and]
      simp only [markD]
      grind
  | cons d l =>
    have h2 := at1 pre b d l
    have d61 : ((d.toNat : Int) = 61) ↔ d = 61 := u8c (c := 61)
    have d62 : ((d.toNat : Int) = 62) ↔ d = 62 := u8c (c := 62)
    refine apure_of Try.func129 Try.ntmps129 rfl ?_
    simp only [List.length_cons, List.length_nil, List.cons_append, List.nil_append, List.replicate]
    repeat' (first
      | refine aw_seq ?_
      | (refine aw_run [] ?_; try simp -implicitDefEqProofs (maxSteps := 1000000) [bsizeL, h1, hp, h0, h2])
      | ((first | refine awl_skip' [] rfl ?_ | refine aw_skip ?_ | refine aw_exit ?_); try simp -implicitDefEqProofs (maxSteps := 1000000) [bsizeL, h1, hp, h0, h2])
      | (refine aw_cond rfl (fun h => ?_) (fun h => ?_) <;> try (with_reducible first | exact ff_tt h | exact tt_ff h))
      | refine aw_block ?_
      | refine aw_ret (ret_of (.inr rfl) (by simp [Try.results129]; rfl) (Fin.of ?_))
      | refine ret_of (.inl rfl) (by simp [Try.results129]; rfl) (Fin.of ?_))
    all_goals first | (rename_i h _; simp at h; omega) | skip
    all_goals
      rename_i h
      simp [q43, q45, q42, q47, q40, q41, q44, q58, q60, q61, q62, d61, d62] at h
      simp only [tupOf, AV.p.injEq, Value.int.injEq, true_and]
      simp only [markD]
      grind
end Go.AL
