/- Parts of the proof of LexerBlanks: the logic, contracts, plain laws. -/
import Derived.Test.YtfpjojjgoelckaaDoorZLexerBlanks29
/-! Tokens, with blanks about them: what is scanned. -/
namespace Go.AL
open Go.Proofs
set_option linter.unusedSimpArgs false
set_option linter.unusedVariables false
/-- A text's tokens, each with the number of bytes from it on. -/
inductive Sc : List UInt8 → List (Tok × Nat) → Prop where
  | nil : Sc [] []
  | blank (l : List UInt8) (ts : List (Tok × Nat)) (h : Sc l ts) : Sc (32 :: l) ts
  | tok (b : UInt8) (l : List UInt8) (x : Tok) (ts : List (Tok × Nat)) (hb : b ≠ 32) (hx : x = nextT ⟨⟨b :: l⟩⟩ b) (hl : x.len ≠ 0) (h : Sc ((b :: l).drop x.len) ts) : Sc (b :: l) ((x, l.length + 1) :: ts)
theorem scan_Sc (sz : Nat) : ∀ (n : Nat) (l : List UInt8), l.length ≤ n → (scanL sz n l).2.2 = 0 → ∃ ts, Sc l ts ∧ (scanL sz n l).1 = ts.map fun p => (p.1, sz - p.2)
  | 0, [], _, _ => ⟨[], .nil, rfl⟩
  | 0, b :: l, h, _ => by simp at h
  | n + 1, [], _, _ => ⟨[], .nil, rfl⟩
  | n + 1, b :: l, h, he => by
    simp only [List.length_cons] at h
    unfold scanL at he ⊢
    by_cases hb : b = 32
    · rw [if_pos hb] at he ⊢
      obtain ⟨ts, h1, h2⟩ := scan_Sc sz n l (by omega) he
      exact ⟨ts, hb ▸ .blank l ts h1, h2⟩
    · rw [if_neg hb] at he ⊢
      by_cases hx : (nextT ⟨⟨b :: l⟩⟩ b).len = 0
      · rw [if_pos hx] at he; simp at he
      · rw [if_neg hx] at he ⊢
        unfold scanK at he ⊢
        split at he
        · rename_i hr
          obtain ⟨ts, h1, h2⟩ := scan_Sc sz n _ (by simp only [List.length_drop, List.length_cons]; omega) hr
          refine ⟨(_, l.length + 1) :: ts, .tok b l _ ts hb rfl hx h1, ?_⟩
          rw [if_pos hr, List.map_cons, h2]
        · rename_i hr; exact absurd he hr
theorem Sc_scan (sz : Nat) {l : List UInt8} {ts : List (Tok × Nat)} (h : Sc l ts) : ∀ n, l.length ≤ n → scanL sz n l = (ts.map fun p => (p.1, sz - p.2), 0, 0) := by
  induction h with
  | nil => intro n _; cases n <;> rfl
  | blank l ts h ih =>
    intro n hn
    cases n with
    | zero => simp at hn
    | succ n => rw [scanL, if_pos rfl]; exact ih n (by simpa using hn)
  | tok b l x ts hb hx hl h ih =>
    intro n hn
    cases n with
    | zero => simp at hn
    | succ n =>
      simp only [List.length_cons] at hn
      rw [scanL, if_neg hb, ← hx, if_neg hl, ih n (by simp only [List.length_drop, List.length_cons]; omega), scanK, if_pos rfl]
      rfl
theorem Sc.le {l : List UInt8} {ts : List (Tok × Nat)} (h : Sc l ts) : ∀ p ∈ ts, 0 < p.2 ∧ p.2 ≤ l.length := by
  induction h with
  | nil => simp
  | blank l ts h ih => intro p hp; have := ih p hp; simp; omega
  | tok b l x ts hb hx hl h ih =>
    intro p hp
    rcases List.mem_cons.1 hp with rfl | hp
    · simp
    · have := ih p hp; simp only [List.length_drop, List.length_cons] at this ⊢; omega
theorem Sc.ahead {l : List UInt8} {ts : List (Tok × Nat)} (h : Sc l ts) : ∀ k, Sc (List.replicate k 32 ++ l) ts
  | 0 => h
  | k + 1 => by rw [List.replicate_succ, List.cons_append]; exact .blank _ _ (h.ahead k)
theorem bl_rep (k : Nat) : Bl (List.replicate k 32) := by
  cases k with
  | zero => exact .inl rfl
  | succ k => exact .inr ⟨_, List.replicate_succ⟩
theorem Sc.behind {l : List UInt8} {ts : List (Tok × Nat)} (h : Sc l ts) (k : Nat) : Sc (l ++ List.replicate k 32) (ts.map fun p => (p.1, p.2 + k)) := by
  induction h with
  | nil =>
    have : Sc (List.replicate k 32 ++ []) [] := Sc.nil.ahead k
    simpa using this
  | blank l ts h ih => exact .blank _ _ ih
  | tok b l x ts hb hx hl h ih =>
    have hn : nextT ⟨⟨(b :: l) ++ List.replicate k 32⟩⟩ b = x := by rw [nextT_app b l _ (bl_rep k), hx]
    rw [List.cons_append] at hn
    have hle := nextT_len b l
    rw [← hx] at hle
    have := Sc.tok b (l ++ List.replicate k 32) x (ts.map fun p => (p.1, p.2 + k)) hb hn.symm hl (by
      rw [← List.cons_append, List.drop_append_of_le_length (by simpa using hle)]; exact ih)
    rw [List.length_append, List.length_replicate] at this
    rw [List.map_cons]
    simp only [List.cons_append] at this ⊢
    rw [show l.length + 1 + k = l.length + k + 1 by omega]
    exact this
/-- From one place on, up to another: the bytes, and a blank. -/
def seg (s : List UInt8) (f g : Nat) : List UInt8 := (s.take g).drop f ++ [32]
/-- Tokens, each with what is behind it, and a blank. -/
def apG (s : List UInt8) : List Nat → List UInt8
  | [] => []
  | f :: fs => seg s f (fs.head?.getD s.length) ++ apG s fs
/-- The bytes ahead of the first token are blanks. -/
theorem Sc.lead {l : List UInt8} {ts : List (Tok × Nat)} (h : Sc l ts) : ∃ k, l.take (l.length - (ts.head?.map (·.2)).getD 0) = List.replicate k 32 := by
  induction h with
  | nil => exact ⟨0, rfl⟩
  | blank l ts h ih =>
    obtain ⟨k, hk⟩ := ih
    have hle : (ts.head?.map (·.2)).getD 0 ≤ l.length := by
      cases ts with
      | nil => simp
      | cons p ts => exact (h.le p List.mem_cons_self).2
    refine ⟨k + 1, ?_⟩
    rw [List.length_cons, show l.length + 1 - (ts.head?.map (·.2)).getD 0 = (l.length - (ts.head?.map (·.2)).getD 0) + 1 by omega, List.take_succ_cons, hk, List.replicate_succ]
  | tok b l x ts hb hx hl h ih => exact ⟨0, by simp⟩
theorem Sc.apart {l : List UInt8} {ts : List (Tok × Nat)} (h : Sc l ts) : ∀ pre : List UInt8, ∃ us, Sc (apG (pre ++ l) (ts.map fun p => (pre ++ l).length - p.2)) us ∧ us.map (·.1) = ts.map (·.1) := by
  induction h with
  | nil => intro pre; exact ⟨[], .nil, rfl⟩
  | blank l ts h ih =>
    intro pre
    obtain ⟨us, h1, h2⟩ := ih (pre ++ [32])
    refine ⟨us, ?_, h2⟩
    simpa using h1
  | tok b l x ts hb hx hl h ih =>
    intro pre
    obtain ⟨w, hw⟩ : ∃ w, w = b :: l := ⟨_, rfl⟩
    have hlw : w.length = l.length + 1 := by rw [hw]; rfl
    have hle : x.len ≤ w.length := by rw [hx, hlw]; exact nextT_len b l
    rw [← hw] at h ih ⊢
    obtain ⟨us, h1, h2⟩ := ih (pre ++ w.take x.len)
    rw [List.append_assoc, List.take_append_drop] at h1
    obtain ⟨k, hk⟩ := h.lead
    -- the first one's bytes, those behind it, a blank
    have hr : (ts.head?.map (·.2)).getD 0 ≤ (w.drop x.len).length := by
      cases ts with
      | nil => simp
      | cons p ts => exact (h.le p List.mem_cons_self).2
    have hg : ((ts.map fun p => (pre ++ w).length - p.2).head?.getD (pre ++ w).length) = (pre ++ w).length - (ts.head?.map (·.2)).getD 0 := by
      cases ts with
      | nil => simp
      | cons p ts => simp
    have hseg : seg (pre ++ w) ((pre ++ w).length - (l.length + 1)) ((pre ++ w).length - (ts.head?.map (·.2)).getD 0) = w.take x.len ++ List.replicate (k + 1) 32 := by
      unfold seg
      rw [List.length_append, ← hlw, show pre.length + w.length - w.length = pre.length by omega]
      rw [List.length_drop] at hk hr
      rw [show pre.length + w.length - (ts.head?.map (·.2)).getD 0 = pre.length + (w.length - (ts.head?.map (·.2)).getD 0) by omega, List.take_append, List.drop_append]
      simp only [List.take_of_length_le (show pre.length ≤ pre.length + (w.length - (ts.head?.map (·.2)).getD 0) by omega), List.drop_length, List.nil_append, Nat.sub_self, List.drop_zero, Nat.add_sub_cancel_left]
      have e : w.take (w.length - (ts.head?.map (·.2)).getD 0) = w.take x.len ++ (w.drop x.len).take (w.length - x.len - (ts.head?.map (·.2)).getD 0) := by
        conv => lhs; rw [← List.take_append_drop x.len w]
        rw [List.take_append]
        simp only [List.length_append, List.length_take, List.length_drop, Nat.min_eq_left hle]
        congr 1
        · rw [List.take_of_length_le]; simp; omega
        · congr 1; omega
      rw [e, hk, List.append_assoc, List.replicate_succ']
    obtain ⟨N, hN⟩ : ∃ N, N + 1 = x.len := ⟨_, Nat.sub_one_add_one hl⟩
    have hhd : w.take x.len = b :: l.take N := by rw [hw, ← hN, List.take_succ_cons]
    obtain ⟨R, hR⟩ : ∃ R, R = apG (pre ++ w) (ts.map fun p => (pre ++ w).length - p.2) := ⟨_, rfl⟩
    refine ⟨(x, (l.take N ++ (List.replicate (k + 1) 32 ++ R)).length + 1) :: us, ?_, by rw [List.map_cons, List.map_cons, h2]⟩
    rw [List.map_cons, apG, hg, hseg]
    rw [← hR] at h1 ⊢
    rw [hhd, List.append_assoc, List.cons_append]
    refine .tok b _ x us hb ?_ hl ?_
    · rw [← List.cons_append, ← hhd, hx, hw]
      symm
      refine nextT_alone b l _ (by rw [← hx]; exact hl) (.inr ⟨List.replicate k 32 ++ R, by rw [List.replicate_succ]; rfl⟩)
    · rw [← List.cons_append, ← hhd, List.drop_append_of_le_length (by rw [List.length_take]; omega), List.drop_of_length_le (by rw [List.length_take]; omega), List.nil_append]
      exact h1.ahead (k + 1)
theorem apG_len (s : List UInt8) : ∀ (fs : List Nat), (∀ f ∈ fs, f ≤ s.length) → fs.Pairwise (· < ·) → ∀ f0, (∀ f ∈ fs, f0 ≤ f) → f0 ≤ s.length → (apG s fs).length ≤ s.length - f0 + fs.length
  | [], _, _, f0, _, _ => by simp [apG]
  | [f], h1, _, f0, h3, h4 => by
    have := h3 f (by simp); have := h1 f (by simp)
    simp [apG, seg]; omega
  | f :: g :: fs, h1, h2, f0, h3, h4 => by
    have hf := h3 f (by simp); have hfl := h1 f (by simp); have hgl := h1 g (by simp)
    have hfg : f < g := by
      have := List.rel_of_pairwise_cons h2 (a' := g) (by simp)
      exact this
    have ih := apG_len s (g :: fs) (fun x hx => h1 x (List.mem_cons_of_mem _ hx)) h2.of_cons g (fun x hx => by
      rcases List.mem_cons.1 hx with rfl | hx
      · exact Nat.le_refl _
      · exact Nat.le_of_lt (List.rel_of_pairwise_cons h2.of_cons hx)) hgl
    rw [apG, List.length_append]
    simp only [List.length_cons] at ih ⊢
    simp only [seg, List.head?_cons, Option.getD_some, List.length_append, List.length_drop, List.length_take, List.length_cons, List.length_nil]
    omega
/-- They rise. -/
theorem Sc.rises {l : List UInt8} {ts : List (Tok × Nat)} (h : Sc l ts) : ts.Pairwise fun p q => q.2 < p.2 := by
  induction h with
  | nil => exact .nil
  | blank l ts h ih => exact ih
  | tok b l x ts hb hx hl h ih =>
    refine .cons (fun p hp => ?_) ih
    have := (h.le p hp).2
    simp only [List.length_drop, List.length_cons] at this ⊢
    omega
end Go.AL
