/- Parts of the proof of LexerBlanks: the logic, contracts, plain laws. -/
import Derived.Test.YtfpjojjgoelckaaDoorZLexerBlanks28
/-! Tokens, with blanks about them: no program in sight. -/
namespace Go.AL
open Go.Proofs Go.Proofs.YtfpjojjgoelckaaDoor.Dec Go.Lib
set_option linter.unusedSimpArgs false
set_option linter.unusedVariables false
/-- Empty, or a blank ahead. -/
def Bl (v : List UInt8) : Prop := v = [] ∨ ∃ r, v = 32 :: r
theorem leadL_app {p : Int → Bool} (h32 : p 32 = false) (w v : List UInt8) (hv : Bl v) : leadL p ⟨⟨w ++ v⟩⟩ = leadL p ⟨⟨w⟩⟩ := by
  show ((w ++ v).takeWhile fun b => p b.toNat).length = (w.takeWhile fun b => p b.toNat).length
  induction w with
  | nil =>
    rcases hv with rfl | ⟨r, rfl⟩
    · rfl
    · rw [List.nil_append, List.takeWhile_cons_of_neg (by simpa using h32)]; rfl
  | cons b w ih =>
    rw [List.cons_append]
    by_cases hb : p b.toNat = true
    · rw [List.takeWhile_cons_of_pos (by simpa using hb), List.takeWhile_cons_of_pos (by simpa using hb)]; simpa using ih
    · rw [List.takeWhile_cons_of_neg (by simpa using hb), List.takeWhile_cons_of_neg (by simpa using hb)]
theorem leadL_le' (p : Int → Bool) (w : List UInt8) : leadL p ⟨⟨w⟩⟩ ≤ w.length := leadL_le p ⟨⟨w⟩⟩
theorem leadS_app {p : Int → Bool} (h32 : p 32 = false) (w v : List UInt8) (hv : Bl v) : leadS p ⟨⟨w ++ v⟩⟩ = leadS p ⟨⟨w⟩⟩ := by
  rw [leadS_eq, leadS_eq, leadL_app h32 w v hv, List.take_append_of_le_length (leadL_le' p w)]
theorem take_app (w v p : List UInt8) (hv : Bl v) (h32 : (32 : UInt8) ∉ p) : (w ++ v).take p.length = p ↔ w.take p.length = p := by
  by_cases hl : p.length ≤ w.length
  · rw [List.take_append_of_le_length hl]
  · constructor
    · intro h
      rcases hv with rfl | ⟨r, rfl⟩
      · rw [List.append_nil] at h; exact h
      · exfalso
        have hg : p[w.length]? = some 32 := by
          rw [← h, List.getElem?_take, if_pos (by omega), List.getElem?_append_right (Nat.le_refl _)]; simp
        exact h32 (List.mem_of_getElem? hg)
    · intro h
      have := congrArg List.length h
      rw [List.length_take] at this; omega
theorem hasPre_app (w v p : List UInt8) (hv : Bl v) (h32 : (32 : UInt8) ∉ p) : hasPre ⟨⟨w ++ v⟩⟩ ⟨⟨p⟩⟩ = hasPre ⟨⟨w⟩⟩ ⟨⟨p⟩⟩ := by
  rw [Bool.eq_iff_iff, hasPre_iff, hasPre_iff]
  exact take_app w v p hv h32
theorem markD_32 (b : UInt8) : markD b 32 = markD b 0 := by
  unfold markD; simp
theorem markN_app (b : UInt8) (l v : List UInt8) (hv : Bl v) : markN ((b :: l) ++ v) = markN (b :: l) := by
  rw [List.cons_append, markN_D, markN_D]
  cases l with
  | nil =>
    rcases hv with rfl | ⟨r, rfl⟩
    · rfl
    · exact markD_32 b
  | cons d l => rfl
/-- What follows, from a blank on, does not matter. -/
theorem nextT_app (b : UInt8) (l v : List UInt8) (hv : Bl v) : nextT ⟨⟨(b :: l) ++ v⟩⟩ b = nextT ⟨⟨b :: l⟩⟩ b := by
  unfold nextT
  have e1 := leadS_app (p := figR) (by decide) (b :: l) v hv
  have e2 := leadL_app (p := figR) (by decide) (b :: l) v hv
  have e3 := leadS_app (p := nameR) (by decide) (b :: l) v hv
  have e4 := leadL_app (p := nameR) (by decide) (b :: l) v hv
  have e5 := hasPre_app (b :: l) v [35, 82, 69, 70] hv (by decide)
  have e6 := markN_app b l v hv
  have e7 : ∀ c r e, placeTok ⟨⟨(b :: l) ++ v⟩⟩ c r e = placeTok ⟨⟨b :: l⟩⟩ c r e := fun c r e => by unfold placeTok; rw [e4]
  have e8 : (⟨⟨(b :: l) ++ v⟩⟩ : ByteArray).extract 0 (markN (b :: l)) = (⟨⟨b :: l⟩⟩ : ByteArray).extract 0 (markN (b :: l)) := by
    rw [extract_take, extract_take, List.take_append_of_le_length (markN_le _)]
  rw [e1, e2, e3, e4, e7]
  show (if _ then _ else if _ then _ else if hasPre ⟨⟨(b :: l) ++ v⟩⟩ ⟨⟨[35, 82, 69, 70]⟩⟩ = true then _ else (⟨if markN ((b :: l) ++ v) = 0 then 0 else 5, 0, 0, 0, (⟨⟨(b :: l) ++ v⟩⟩ : ByteArray).extract 0 (markN ((b :: l) ++ v)), markN ((b :: l) ++ v)⟩ : Tok)) = _
  rw [e5, e6, e8]
theorem leadL_take' (p : Int → Bool) (w : List UInt8) : leadL p ⟨⟨w.take (leadL p ⟨⟨w⟩⟩)⟩⟩ = leadL p ⟨⟨w⟩⟩ := by
  refine leadL_at ?_ ?_ (.inl ?_)
  · intro x hx; rw [List.take_take, Nat.min_self] at hx; exact leadL_take p w x hx
  · rw [List.length_take]; have := leadL_le' p w; omega
  · rw [List.length_take]; have := leadL_le' p w; omega
/-- A token's own bytes tell it. -/
theorem nextT_own (b : UInt8) (l : List UInt8) (h : (nextT ⟨⟨b :: l⟩⟩ b).len ≠ 0) : nextT ⟨⟨(b :: l).take (nextT ⟨⟨b :: l⟩⟩ b).len⟩⟩ b = nextT ⟨⟨b :: l⟩⟩ b := by
  obtain ⟨w, hw⟩ : ∃ w, w = b :: l := ⟨_, rfl⟩
  rw [← hw] at h ⊢
  have hS : ∀ p, leadS p ⟨⟨w.take (leadL p ⟨⟨w⟩⟩)⟩⟩ = leadS p ⟨⟨w⟩⟩ := fun p => by
    rw [leadS_eq, leadS_eq, leadL_take', List.take_take, Nat.min_self]
  by_cases hf : figR b.toNat = true
  · have e : ∀ s, nextT s b = (match Lib.atoiAll (leadS figR s).data.toList with | .ok v => ⟨1, v, 0, 0, ⟨#[]⟩, leadL figR s⟩ | _ => noTok) := fun s => by
      first
        | (rw [nextT, if_pos hf]; done)
        | (rw [nextT, if_pos hf]; cases Lib.atoiAll (leadS figR s).data.toList <;> rfl)
    have hlen : (nextT ⟨⟨w⟩⟩ b).len = leadL figR ⟨⟨w⟩⟩ := by
      rw [e] at h ⊢
      split at h
      · rfl
      · exact absurd rfl h
    rw [hlen, e, e, hS, leadL_take']
  · by_cases hl : letR b.toNat = true
    · have e : ∀ s, nextT s b = (if isWord (leadS nameR s) then ⟨4, 0, 0, 0, leadS nameR s, leadL nameR s⟩
          else placeTok s (z (parseB (leadS nameR s)) (atC (parseI (leadS nameR s)))) (z (parseB (leadS nameR s)) (atR (parseI (leadS nameR s)))) (parseE (leadS nameR s))) := fun s => by
        rw [nextT, if_neg hf, if_pos hl]
      have hlen : (nextT ⟨⟨w⟩⟩ b).len = leadL nameR ⟨⟨w⟩⟩ := by
        rw [e] at h ⊢
        split at h
        · rename_i hw; rw [if_pos hw]
        · rename_i hw
          rw [if_neg hw]
          unfold placeTok at h ⊢
          simp only at h ⊢
          split at h
          · rename_i he; rw [if_pos he]
          · exact absurd rfl h
      rw [hlen, e, e, hS]
      unfold placeTok
      rw [leadL_take']
    · have e : ∀ s, nextT s b = (if hasPre s ⟨#[35, 82, 69, 70]⟩ = true then ⟨3, 0, 0, 0, ⟨#[]⟩, 4⟩
          else ⟨if markN s.data.toList = 0 then 0 else 5, 0, 0, 0, s.extract 0 (markN s.data.toList), markN s.data.toList⟩) := fun s => by
        rw [nextT, if_neg hf, if_neg hl]
      by_cases hp : hasPre ⟨⟨w⟩⟩ ⟨#[35, 82, 69, 70]⟩ = true
      · have hlen : (nextT ⟨⟨w⟩⟩ b).len = 4 := by rw [e, if_pos hp]
        rw [hlen, e, e, if_pos hp, if_pos]
        have := (hasPre_iff w [35, 82, 69, 70]).1 hp
        refine (hasPre_iff _ [35, 82, 69, 70]).2 ?_
        rw [List.take_take]; exact this
      · have hlen : (nextT ⟨⟨w⟩⟩ b).len = markN w := by rw [e, if_neg hp]
        rw [hlen] at h ⊢
        have hp2 : ¬ hasPre ⟨⟨w.take (markN w)⟩⟩ ⟨#[35, 82, 69, 70]⟩ = true := by
          intro hh
          have := (hasPre_iff _ [35, 82, 69, 70]).1 hh
          refine hp ((hasPre_iff w [35, 82, 69, 70]).2 ?_)
          rw [List.take_take] at this
          have hl := congrArg List.length this
          rw [List.length_take] at hl
          simp only [List.length_cons, List.length_nil] at hl this ⊢
          rw [show min (0 + 1 + 1 + 1 + 1) (markN w) = 4 by omega] at this
          exact this
        have hM : markN (w.take (markN w)) = markN w := by
          rw [hw] at h ⊢
          rw [markN_D] at h ⊢
          generalize hd : l.head?.getD 0 = d at h ⊢
          have h12 : markD b d = 1 ∨ markD b d = 2 := by
            unfold markD at h ⊢
            split
            · exact .inr rfl
            · rename_i h1
              rw [if_neg h1] at h
              split
              · exact .inl rfl
              · rename_i h2; rw [if_neg h2] at h; exact absurd rfl h
          rcases h12 with h12 | h12
          · rw [h12]
            show markN [b] = 1
            rw [markN_D]
            show markD b 0 = 1
            unfold markD at h12 ⊢
            grind
          · rw [h12]
            cases l with
            | nil =>
              exfalso
              have : d = 0 := by rw [← hd]; rfl
              subst this
              unfold markD at h12
              grind
            | cons d' l =>
              have : d' = d := by rw [← hd]; rfl
              subst this
              show markN [b, d'] = 2
              rw [markN_D]
              exact h12
        rw [e, e, if_neg hp, if_neg hp2]
        show (⟨if markN (w.take (markN w)) = 0 then 0 else 5, 0, 0, 0, (⟨⟨w.take (markN w)⟩⟩ : ByteArray).extract 0 (markN (w.take (markN w))), markN (w.take (markN w))⟩ : Tok) = ⟨if markN w = 0 then 0 else 5, 0, 0, 0, (⟨⟨w⟩⟩ : ByteArray).extract 0 (markN w), markN w⟩
        rw [hM, extract_take, extract_take, List.take_take, Nat.min_self]
/-- A token that stands alone, by itself, with blanks or nothing behind. -/
theorem nextT_alone (b : UInt8) (l v : List UInt8) (h : (nextT ⟨⟨b :: l⟩⟩ b).len ≠ 0) (hv : Bl v) : nextT ⟨⟨(b :: l).take (nextT ⟨⟨b :: l⟩⟩ b).len ++ v⟩⟩ b = nextT ⟨⟨b :: l⟩⟩ b := by
  have h1 := nextT_own b l h
  obtain ⟨n, hn⟩ : ∃ n, n + 1 = (nextT ⟨⟨b :: l⟩⟩ b).len := ⟨_, Nat.sub_one_add_one h⟩
  rw [← hn] at h1 ⊢
  rw [List.take_succ_cons] at h1 ⊢
  rw [nextT_app b _ v hv]; exact h1
end Go.AL
