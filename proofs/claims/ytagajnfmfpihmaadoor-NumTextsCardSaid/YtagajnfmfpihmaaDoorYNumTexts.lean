import Derived.Test.YtagajnfmfpihmaaDoorYNum
import Derived.Test.YtagajnfmfpihmaaDoorYDec
import Derived.Lib.IndexBytes
import Derived.Test.YtagajnfmfpihmaaDoorGGridironlaw01NumTexts
namespace Go.Proofs.YtagajnfmfpihmaaDoor.G
open Go.Lib Go.Proofs.YtagajnfmfpihmaaDoor.Dec Go.RowKit Go.Proofs.YtagajnfmfpihmaaDoorW.PrintWords Go.Proofs.YtagajnfmfpihmaaDoorW.PrintLast
set_option linter.unusedVariables false

theorem text_eq {a : Int} (ha : In64 a) : num_Text.f a = some ⟨(itoa a).toArray⟩ := if_pos ha
theorem bsize (l : List UInt8) : (⟨l.toArray⟩ : ByteArray).size = l.length := by simp [ByteArray.size]
theorem data_eq (l : List UInt8) : (⟨l.toArray⟩ : ByteArray).data.toList = l := by simp
theorem parse_text {a : Int} (ha : In64 a) : num_Parse.f ⟨(itoa a).toArray⟩ = some (a, true) := by
  have hl := itoa_length_le a ha.1 ha.2
  unfold num_Parse.f
  rw [if_pos (by rw [bsize]; omega), data_eq, atoi_itoa a ha.1 ha.2]
  simp only [ByteArray.toList_eq, beq_self_eq_true, ifb, if_true]

/-! ### the reference's text -/
theorem app_eq (l m : List UInt8) : (⟨l.toArray⟩ : ByteArray) ++ ⟨m.toArray⟩ = ⟨(l ++ m).toArray⟩ := by
  apply ByteArray.ext
  rw [ByteArray.data_append]
  simp
theorem figs_eq (k : Nat) : ∀ u : Nat, u < 10 ^ (k + 1) → k < 30 → u < 18446744073709551616 → gridironref01_figures.f (k + 1) (u : Int) = some ⟨(decDigits u).toArray⟩ := by
  induction k with
  | zero =>
    intro u h _ _
    have hu : u < 10 := by simpa using h
    simp only [gridironref01_figures.f, Option.bind_some]
    rw [if_neg (by omega), Int.tmod_eq_emod_of_nonneg (by omega), wrap_u (by omega) (by omega), decDigits, dif_pos hu]
    simp only [strOfNums, List.map_cons, List.map_nil]
    rw [show ((48 + (u : Int) % 10) % 256).toNat = 48 + u from by omega]
  | succ k ih =>
    intro u h hk hu
    rw [Nat.pow_succ] at h
    rw [gridironref01_figures.f, Option.bind_some]
    by_cases g : u < 10
    · rw [if_neg (by omega), Int.tmod_eq_emod_of_nonneg (by omega), wrap_u (by omega) (by omega), decDigits, dif_pos g]
      simp only [strOfNums, List.map_cons, List.map_nil]
      rw [show ((48 + (u : Int) % 10) % 256).toNat = 48 + u from by omega]
    · have e : IntKind.u64.wrap (Int.tdiv (u : Int) 10) = ((u / 10 : Nat) : Int) := by
        rw [Int.tdiv_eq_ediv_of_nonneg (by omega), wrap_u (by omega) (by omega)]; omega
      rw [if_pos (by omega), e, ih (u / 10) (by omega) (by omega) (by omega), Option.bind_some, Int.tmod_eq_emod_of_nonneg (by omega), wrap_u (by omega) (by omega)]
      have hl := dec_len k (u / 10) (by omega)
      have es : strOfNums [(48 + (u : Int) % 10) % 256] = ⟨([UInt8.ofNat (48 + u % 10)] : List UInt8).toArray⟩ := by
        simp only [strOfNums, List.map_cons, List.map_nil]
        rw [show ((48 + (u : Int) % 10) % 256).toNat = 48 + u % 10 from by omega]
      rw [es, if_pos (by rw [bsize, bsize]; simp only [List.length_cons, List.length_nil]; omega), app_eq]
      rw [show decDigits u = decDigits (u / 10) ++ [UInt8.ofNat (48 + u % 10)] from by rw [decDigits, dif_neg g]]
theorem rtext_eq (k : Nat) {a : Int} (ha : In64 a) : gridironref01_Text.f 20 a = some ⟨(itoa a).toArray⟩ := by
  have hn : a.natAbs < 10 ^ (19 + 1) := by unfold In64 at ha; simp only [Nat.reduceAdd, Nat.reducePow]; omega
  unfold gridironref01_Text.f
  rw [size_eq ha, Option.bind_some, figs_eq 19 a.natAbs hn (by omega) (by unfold In64 at ha; omega), Option.bind_some]
  have hl := dec_len 19 a.natAbs hn
  unfold itoa
  by_cases h : a < 0
  · rw [if_pos h, if_pos h, if_pos (by rw [bsize]; omega)]
    have := app_eq [45] (decDigits a.natAbs)
    rw [show (⟨#[45]⟩ : ByteArray) = ⟨([45] : List UInt8).toArray⟩ from rfl, this]
    rfl
  · rw [if_neg h, if_neg h, show a.natAbs = a.toNat from by omega]

/-! ### the reference's parse -/
theorem bt_list (s : ByteArray) (i : Nat) (c : UInt8) (h : s.data.toList[i]? = some c) : bt s (i : Int) = c.toNat := by
  have hi : i < s.size := by
    have := (List.getElem?_eq_some_iff.1 h).1
    rwa [data_length] at this
  have e := bt_at s i (by simpa using hi)
  rw [← e]
  have : s.data.toList[i]'(by rw [data_length]; exact hi) = c := (List.getElem?_eq_some_iff.1 h).2
  rw [← this]
  rfl
theorem loop_eq (m : Bool) (d : ByteArray) (hn : d.size ≤ 19) : ∀ (t : List UInt8) (i : Nat), d.data.toList.drop i = t → i ≤ d.size → (d.data.toList.take i).all fig = true → ∀ k,
    gridironref01_Parse.l0 (k + t.length + 2) m d (fval 0 (d.data.toList.take i) : Int) (i : Int) = some (if t.all fig = true then chk (if m = true then -(fval 0 d.data.toList : Int) else fval 0 d.data.toList) else (0, false)) := by
  intro t
  induction t with
  | nil =>
    intro i ht hi ha k
    have hlen := data_length d
    have : i = d.size := by
      have := congrArg List.length ht
      rw [List.length_drop, List.length_nil] at this
      omega
    subst this
    rw [List.take_of_length_le (by omega)] at ha ⊢
    have hv := fval_lt 0 d.data.toList ha
    have hp : 10 ^ d.data.toList.length ≤ 10 ^ 19 := Nat.pow_le_pow_right (by omega) (by omega)
    simp only [Nat.reducePow] at hp
    rw [show k + ([] : List UInt8).length + 2 = (k + 1) + 1 from rfl, gridironref01_Parse.l0]
    rw [if_neg (by omega), signed_eq _ m (by omega) (by omega), Option.bind_some, List.all_nil, if_pos rfl]
  | cons c r ih =>
    intro i ht hi ha k
    have hlen := data_length d
    have hl := congrArg List.length ht
    rw [List.length_drop, List.length_cons] at hl
    have hc : d.data.toList[i]? = some c := by
      have := congrArg List.head? ht
      rwa [List.head?_drop, List.head?_cons] at this
    have hb := bt_list d i c hc
    rw [List.length_cons, show k + (r.length + 1) + 2 = (k + r.length + 2) + 1 from by omega, gridironref01_Parse.l0]
    rw [if_pos (by omega), if_pos (by omega), hb]
    by_cases f : fig c = true
    · have fc := of_fig f
      have htake : d.data.toList.take (i + 1) = d.data.toList.take i ++ [c] := by
        rw [List.take_add_one, hc]; rfl
      have ha' : (d.data.toList.take (i + 1)).all fig = true := by rw [htake, List.all_append, ha]; simp [f]
      have hv := fval_lt 0 (d.data.toList.take i) ha
      have hp : 10 ^ (d.data.toList.take i).length ≤ 10 ^ 18 := Nat.pow_le_pow_right (by omega) (by rw [List.length_take]; omega)
      simp only [Nat.reducePow] at hp
      have hr : d.data.toList.drop (i + 1) = r := by rw [← List.drop_drop, ht]; rfl
      have e := ih (i + 1) hr (by omega) ha' k
      rw [htake, fval_append, fval_cons, fval_nil] at e
      rw [if_neg (by omega), if_neg (by omega)]
      have w1 : IntKind.u64.wrap (IntKind.u64.wrap (10 * (fval 0 (d.data.toList.take i) : Int)) + ((c.toNat : Int) - 48) % 256) = ((fval 0 (d.data.toList.take i) * 10 + (c.toNat - 48) : Nat) : Int) := by
        rw [wrap_u (x := 10 * _) (by omega) (by omega), wrap_u (by omega) (by omega)]; omega
      have w2 : wrap64 ((i : Int) + 1) = ((i + 1 : Nat) : Int) := by unfold wrap64; omega
      rw [w1, w2, e, List.all_cons, f, Bool.true_and]
    · have fc : ¬ (48 ≤ c.toNat ∧ c.toNat ≤ 57) := fun h => f (by unfold fig; simpa using h)
      rw [List.all_cons, Bool.eq_false_iff.mpr f, Bool.false_and, if_neg (c := false = true) (by decide)]
      by_cases lo : (c.toNat : Int) < 48
      · rw [if_pos lo]
      · rw [if_neg lo, if_pos (by omega)]
/-- What a canonical numeral behind a sign is. -/
def Canon (m : Bool) (d : List UInt8) : Prop := d ≠ [] ∧ d.length ≤ 19 ∧ (d.head? = some 48 → m = false ∧ d.length = 1) ∧ d.all fig = true
instance (m : Bool) (d : List UInt8) : Decidable (Canon m d) := by unfold Canon; infer_instance
theorem canon_of (v : Int) (h : In64 v) : Canon (decide (v < 0)) (decDigits v.natAbs) := by
  unfold In64 at h
  refine ⟨dec_ne _, dec_len 18 _ (by simp only [Nat.reduceAdd, Nat.reducePow]; omega), fun hh => ?_, dec_all _⟩
  by_cases z : v = 0
  · subst z
    refine ⟨by decide, ?_⟩
    rw [show (0 : Int).natAbs = 0 from rfl, decDigits]; simp
  · have := dec_head v.natAbs (by omega) 48 hh
    exact absurd this (by decide)
def sgn (m : Bool) (d : List UInt8) : List UInt8 := if m = true then 45 :: d else d
theorem itoa_sgn (v : Int) : itoa v = sgn (decide (v < 0)) (decDigits v.natAbs) := by
  unfold itoa sgn
  by_cases h : v < 0
  · rw [if_pos h, if_pos (by simpa using h)]
  · rw [if_neg h, if_neg (by simpa using h), show v.natAbs = v.toNat from by omega]
theorem canon_atoi {m : Bool} {d : List UInt8} (h : Canon m d) :
    ∃ v : Int, v = (if m = true then -(fval 0 d : Int) else fval 0 d) ∧ itoa v = sgn m d ∧ atoiAll (sgn m d) = (if -9223372036854775808 ≤ v ∧ v ≤ 9223372036854775807 then NumEnd.ok v else NumEnd.range) := by
  obtain ⟨h0, h1, h2, h3⟩ := h
  have hv := fval_lt 0 d h3
  have hp : 10 ^ d.length ≤ 10 ^ 19 := Nat.pow_le_pow_right (by omega) h1
  simp only [Nat.reducePow] at hp
  have hd := dec_canon _ d rfl h0 h3 (fun c hc e => (h2 (by rw [hc]; congr 1; exact UInt8.toNat_inj.1 e)).2)
  refine ⟨_, rfl, ?_, ?_⟩
  · cases m with
    | false =>
      rw [if_neg (by decide), itoa_sgn, show decide ((fval 0 d : Int) < 0) = false from decide_eq_false (by omega)]
      show decDigits (fval 0 d : Int).natAbs = d
      rw [show (fval 0 d : Int).natAbs = fval 0 d from by omega, hd]
    | true =>
      have hpos : 0 < fval 0 d := by
        rcases Nat.eq_zero_or_pos (fval 0 d) with z | z
        · rw [z] at hd
          have : d = [48] := by rw [← hd, decDigits]; rfl
          have := h2 (by rw [this]; rfl)
          exact absurd this.1 (by decide)
        · exact z
      rw [if_pos rfl, itoa_sgn, show decide (-(fval 0 d : Int) < 0) = true from decide_eq_true (by omega)]
      show 45 :: decDigits (-(fval 0 d : Int)).natAbs = 45 :: d
      rw [show (-(fval 0 d : Int)).natAbs = fval 0 d from by omega, hd]
  · cases m with
    | false =>
      show atoiAll d = _
      rw [atoi_plain h0 h3 (by omega), if_neg (c := false = true) (by decide)]
      split <;> split <;> first | rfl | omega
    | true =>
      show atoiAll (45 :: d) = _
      rw [atoi_minus h0 h3 (by omega), if_pos rfl]
      split <;> split <;> first | rfl | omega
theorem sgn_inj {m n : Bool} {d e : List UInt8} (hd : d.all fig = true) (he : e.all fig = true) (h : sgn m d = sgn n e) : m = n ∧ d = e := by
  have hm : ∀ (l : List UInt8), l.all fig = true → l.head? ≠ some 45 := fun l hl hh => absurd (fig_head hl hh) (by decide)
  cases m <;> cases n
  · exact ⟨rfl, h⟩
  · exact absurd (by rw [show d = 45 :: e from h]; rfl) (hm d hd)
  · exact absurd (by rw [show e = 45 :: d from h.symm]; rfl) (hm e he)
  · exact ⟨rfl, (List.cons.inj h).2⟩
/-- The program's parse, as the document has it: canonical numerals alone. -/
theorem parse_yes {s : ByteArray} (hs : s.size ≤ 281474976710656) {m : Bool} {d : List UInt8} (h : Canon m d) (e : s.data.toList = sgn m d) :
    num_Parse.f s = some (chk (if m = true then -(fval 0 d : Int) else fval 0 d)) := by
  obtain ⟨v, rfl, hi, ha⟩ := canon_atoi h
  unfold num_Parse.f
  rw [if_pos hs, e, ha]
  by_cases hv : In64 (if m = true then -(fval 0 d : Int) else fval 0 d)
  · rw [if_pos (show _ ∧ _ from hv), chk_yes hv]
    simp only [ByteArray.toList_eq]
    rw [e, hi, beq_self_eq_true]
    rfl
  · rw [if_neg (show ¬ (_ ∧ _) from hv), chk_no hv]
theorem parse_no {s : ByteArray} (hs : s.size ≤ 281474976710656) (h : ∀ m d, s.data.toList = sgn m d → ¬ Canon m d) : num_Parse.f s = some (0, false) := by
  unfold num_Parse.f
  rw [if_pos hs]
  rcases ha : atoiAll s.data.toList with v | - | -
  · have hv := atoiAll_bounds ha
    have : (itoa v == s.toList) = false := by
      rw [beq_eq_false_iff_ne, ByteArray.toList_eq]
      intro e
      exact h _ _ (e.symm.trans (itoa_sgn v)) (canon_of v hv)
    simp only [this]
    rfl
  · rfl
  · rfl
theorem rparse_eq (s : ByteArray) (hs : s.size ≤ 300) : gridironref01_Parse.f 40 s = num_Parse.f s := by
  have hlen := data_length s
  -- behind the sign
  have key : ∀ (m : Bool) (d : ByteArray), s.data.toList = sgn m d.data.toList → (m = false → d.data.toList.head? ≠ some 45) → gridironref01_Parse.j1 39 m d = num_Parse.f s := by
    intro m d hd h45
    have hl := data_length d
    have uniq : ∀ m' d', s.data.toList = sgn m' d' → Canon m' d' → m' = m ∧ d' = d.data.toList := by
      intro m' d' he hc
      rw [hd] at he
      cases m <;> cases m'
      · exact ⟨rfl, he.symm⟩
      · exact absurd (by rw [show d.data.toList = 45 :: d' from he]; rfl) (h45 rfl)
      · have : d' = 45 :: d.data.toList := he.symm
        exact absurd (fig_head hc.2.2.2 (c := 45) (by rw [this]; rfl)) (by decide)
      · exact ⟨rfl, (List.cons.inj he).2.symm⟩
    have no : ¬ Canon m d.data.toList → num_Parse.f s = some (0, false) := fun hc => parse_no (by omega) (fun m' d' he hc' => by
      obtain ⟨rfl, rfl⟩ := uniq m' d' he hc'
      exact hc hc')
    have j2t : ∀ k, gridironref01_Parse.j2 (k + 1) m d true = some (0, false) := fun k => by simp only [gridironref01_Parse.j2]; rw [if_pos trivial]
    simp only [gridironref01_Parse.j1]
    by_cases z : (d.size : Int) = 0
    · rw [if_pos z, j2t 37, no (fun hc => hc.1 (List.eq_nil_of_length_eq_zero (by omega)))]
    rw [if_neg z]
    by_cases g : (d.size : Int) > 19
    · rw [if_pos g, j2t 37, no (fun hc => by have := hc.2.1; omega)]
    rw [if_neg g, if_pos (by omega)]
    obtain ⟨c, r, hcr⟩ : ∃ c r, d.data.toList = c :: r := by
      cases h : d.data.toList with
      | nil => rw [h] at hl; simp at hl; omega
      | cons c r => exact ⟨c, r, rfl⟩
    have hb := bt_list d 0 c (by rw [hcr]; rfl)
    rw [show ((0 : Nat) : Int) = 0 from rfl] at hb
    rw [hb]
    have fin : (d.data.toList.head? = some 48 → m = false ∧ d.data.toList.length = 1) → gridironref01_Parse.j2 38 m d false = num_Parse.f s := by
      intro hh
      have L := loop_eq m d (by omega) d.data.toList 0 rfl (by omega) (by simp) (35 - d.size)
      simp only [gridironref01_Parse.j2]
      rw [if_neg (by decide)]
      rw [hl, show 35 - d.size + d.size + 2 = 37 from by omega] at L
      rw [show (fval 0 (d.data.toList.take 0) : Int) = 0 from rfl] at L
      rw [show ((0 : Nat) : Int) = 0 from rfl] at L
      rw [L]
      by_cases ha : d.data.toList.all fig = true
      · rw [if_pos ha, parse_yes (by omega) (m := m) (d := d.data.toList) ⟨by rw [hcr]; simp, by omega, hh, ha⟩ hd]
      · rw [if_neg ha, no (fun hc => ha hc.2.2.2)]
    by_cases c0 : (c.toNat : Int) = 48
    · have ec : c = 48 := UInt8.toNat_inj.1 (by simpa using (by omega : c.toNat = 48))
      rw [if_pos c0]
      cases m with
      | true => rw [if_pos rfl, j2t 37, no (fun hc => by have := (hc.2.2.1 (by rw [hcr, ec]; rfl)).1; cases this)]
      | false =>
        rw [if_neg (by decide)]
        by_cases one : (d.size : Int) > 1
        · rw [decide_eq_true one, j2t 37, no (fun hc => by have := (hc.2.2.1 (by rw [hcr, ec]; rfl)).2; omega)]
        · rw [decide_eq_false one]
          exact fin (fun _ => ⟨rfl, by omega⟩)
    · rw [if_neg c0]
      exact fin (fun hh => by rw [hcr] at hh; simp at hh; subst hh; exact absurd rfl c0)
  unfold gridironref01_Parse.f
  cases hs0 : s.data.toList with
  | nil =>
    rw [hs0] at hlen
    simp at hlen
    rw [if_neg (by omega), gridironref01_Parse.j0, if_neg (by decide)]
    exact key false s rfl (fun _ => by rw [hs0]; simp)
  | cons c r =>
    rw [hs0] at hlen
    simp at hlen
    have hb := bt_list s 0 c (by rw [hs0]; rfl)
    rw [show ((0 : Nat) : Int) = 0 from rfl] at hb
    rw [if_pos (by omega), if_pos (by omega), hb, gridironref01_Parse.j0]
    by_cases c5 : c = 45
    · subst c5
      rw [if_pos (by decide), if_pos (by omega), show (((45 : UInt8).toNat : Int) == 45) = true from by decide]
      refine key true _ ?_ (fun h => by cases h)
      rw [extract_to_end, hs0]
      rfl
    · have : ((c.toNat : Int) == 45) = false := by
        rw [beq_eq_false_iff_ne]
        intro e
        exact c5 (UInt8.toNat_inj.1 (by simpa using (by omega : c.toNat = 45)))
      rw [this, if_neg (by decide)]
      exact key false s rfl (fun _ h => by rw [hs0] at h; simp at h; exact c5 h)

theorem fig_mono {a b : Nat} (h : a ≤ b) {s : ByteArray} {r : Int × Bool} (e : gridironref01_Parse.f a s = some r) : gridironref01_Parse.f b s = some r := at_rounds (g := fun k => gridironref01_Parse.f k s) (fun k => gridironref01_Parse.mono s k) h e
theorem NumTexts : gridironlaw01_NumTexts.Pure := by
  intro a s wa _
  have ha := In64.of_wf wa
  refine ⟨40, ?_⟩
  unfold gridironlaw01_NumTexts.f
  rw [alive_true 34, Option.bind_some]
  by_cases h : (s.size : Int) > 300
  · rw [if_pos h]
  · rw [if_neg h, text_eq ha, Option.bind_some, parse_text ha, Option.bind_some, rparse_eq s (by omega)]
    have hp : ∃ x, num_Parse.f s = some x := by
      unfold num_Parse.f
      rw [if_pos (by omega)]
      split <;> exact ⟨_, rfl⟩
    obtain ⟨x, hx⟩ := hp
    have ht : gridironref01_Text.f 40 a = some ⟨(itoa a).toArray⟩ := at_rounds (g := fun k => gridironref01_Text.f k a) (fun k => gridironref01_Text.mono a k) (show 20 ≤ 40 by omega) (rtext_eq 0 ha)
    rw [hx, Option.bind_some, Option.bind_some, Option.bind_some, if_pos rfl, Option.bind_some, ht, Option.bind_some, if_pos rfl, if_pos rfl, if_pos rfl, if_pos rfl, beq_self_eq_true]
end Go.Proofs.YtagajnfmfpihmaaDoor.G
