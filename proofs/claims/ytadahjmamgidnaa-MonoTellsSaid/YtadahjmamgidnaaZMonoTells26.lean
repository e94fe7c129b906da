/- Parts of the proof of MonoTells: the logic, contracts, plain laws. -/
import Derived.Test.YtadahjmamgidnaaZMonoTells25
import Derived.Test.YtadahjmamgidnaaZMonoTells15
import Derived.Test.YtadahjmamgidnaaZMonoTells10
/-! The program's 'right' is the document's. -/
namespace Go.AL
open Go.Proofs
set_option linter.unusedSimpArgs false
set_option linter.unusedVariables false
theorem str_lvl (w : ByteArray) : strT w < 3 ↔ 0 < lvl w := by
  have e0 : 0 ≤ idxS w mk0 0 ↔ w = ⟨#[60]⟩ ∨ w = ⟨#[60, 61]⟩ ∨ w = ⟨#[61]⟩ ∨ w = ⟨#[60, 62]⟩ ∨ w = ⟨#[62, 61]⟩ ∨ w = ⟨#[62]⟩ := by rw [idxS_iff]; simp [mk0]
  have e1 : 0 ≤ idxS w mk1 0 ↔ w = ⟨#[43]⟩ ∨ w = ⟨#[45]⟩ := by rw [idxS_iff]; simp [mk1]
  have e2 : 0 ≤ idxS w mk2 0 ↔ w = ⟨#[42]⟩ ∨ w = ⟨#[47]⟩ := by rw [idxS_iff]; simp [mk2]
  unfold strT lvl
  by_cases h0 : 0 ≤ idxS w mk0 0
  · rw [if_pos h0, if_pos (e0.1 h0)]; decide
  rw [if_neg h0, if_neg (fun h => h0 (e0.2 h))]
  by_cases h1 : 0 ≤ idxS w mk1 0
  · rw [if_pos h1, if_pos (e1.1 h1)]; decide
  rw [if_neg h1, if_neg (fun h => h1 (e1.2 h))]
  by_cases h2 : 0 ≤ idxS w mk2 0
  · rw [if_pos h2, if_pos (e2.1 h2)]; decide
  · rw [if_neg h2, if_neg (fun h => h2 (e2.2 h))]; decide
def Base (k n a b c d : Int) (w : ByteArray) : Prop := (k = 0 ∨ n = 0) ∧ (k = 1 ∨ k = 6 ∨ (a = 0 ∧ b = 0 ∧ c = 0 ∧ d = 0)) ∧ (k = 4 ∨ k = 5 ∨ w = ⟨#[]⟩)
theorem only_iff (k n a b c d : Int) (w : ByteArray) (ks : List Tree) (m : Int) : onlyB (.mk k n a b c d w ks) m = true ↔ Base k n a b c d w ∧ (ks.length : Int) = m := by
  simp only [onlyB, Base, Bool.and_eq_true, Bool.or_eq_true, decide_eq_true_eq]
  constructor
  · rintro ⟨⟨⟨h1, h2⟩, h3⟩, h4⟩
    refine ⟨⟨h1, ?_, ?_⟩, h4⟩
    · rcases h2 with (h | h) | h
      · exact .inl h
      · exact .inr (.inl h)
      · exact .inr (.inr ⟨h.1.1.1, h.1.1.2, h.1.2, h.2⟩)
    · rcases h3 with (h | h) | h
      · exact .inl h
      · exact .inr (.inl h)
      · exact .inr (.inr h)
  · rintro ⟨⟨h1, h2, h3⟩, h4⟩
    refine ⟨⟨⟨h1, ?_⟩, ?_⟩, h4⟩
    · rcases h2 with h | h | h
      · exact .inl (.inl h)
      · exact .inl (.inr h)
      · exact .inr ⟨⟨⟨h.1, h.2.1⟩, h.2.2.1⟩, h.2.2.2⟩
    · rcases h3 with h | h | h
      · exact .inl (.inl h)
      · exact .inl (.inr h)
      · exact .inr h
theorem bare_iff (k n a b c d : Int) (w : ByteArray) (ks : List Tree) : (bareT (.mk k n a b c d w ks)).words = (n, (a, b, c, d), w) ↔ Base k n a b c d w := by
  simp only [bareT, Tree.words, Prod.mk.injEq, Base]
  by_cases h0 : k = 0 <;> by_cases h1 : k = 1 <;> by_cases h6 : k = 6 <;> by_cases h4 : k = 4 <;> by_cases h5 : k = 5 <;> simp [h0, h1, h6, h4, h5, eq_comm] <;> (try omega) <;> (try (constructor <;> (intro h; simp_all)))
theorem own_iff (k n a b c d : Int) (w : ByteArray) (ks : List Tree) : ownK (.mk k n a b c d w ks) = true ↔ Base k n a b c d w ∧
    (if k = 0 then ks.length = 0 ∧ 0 ≤ n
    else if k = 1 then ks.length = 0 ∧ rightP a b = true ∧ a = c ∧ b = d
    else if k = 2 then ks.length = 0
    else if k = 6 then ks.length = 0 ∧ wholeP a b c d = true
    else if k = 3 then ks.length = 1
    else if k = 4 then ks.length = 2 ∧ 0 < lvl w
    else k = 5 ∧ (if w = bIF then ks.length = 3 else isFn w = true ∧ 0 < ks.length)) := by
  rw [ownK]
  by_cases hb : (bareT (.mk k n a b c d w ks)).words = (n, (a, b, c, d), w)
  · rw [if_neg (by simpa using hb)]
    have hB := (bare_iff k n a b c d w ks).1 hb
    simp only [hB, true_and]
    by_cases h0 : k = 0
    · simp [h0]
    rw [if_neg h0, if_neg h0]
    by_cases h1 : k = 1
    · simp [h1, and_assoc]
    rw [if_neg h1, if_neg h1]
    by_cases h2 : k = 2
    · simp [h2]
    rw [if_neg h2, if_neg h2]
    by_cases h6 : k = 6
    · simp [h6]
    rw [if_neg h6, if_neg h6]
    by_cases h3 : k = 3
    · simp [h3]
    rw [if_neg h3, if_neg h3]
    by_cases h4 : k = 4
    · simp [h4, str_lvl]
    rw [if_neg h4, if_neg h4]
    by_cases hw : w = bIF
    · simp [hw]
    rw [if_neg hw, if_neg hw]
    by_cases hf : isFn w = true
    · simp [hf]
    · simp [hf]
  · rw [if_pos (by simpa using hb)]
    exact ⟨fun h => (by cases h), fun h => absurd ((bare_iff k n a b c d w ks).2 h.1) hb⟩
theorem pass_iff (sp co m : Bool) (k : Int) : passB sp co m k = true ↔ m = true ∧ (sp = true ∨ k ≠ 6) ∧ (co = false ∨ k = 6 ∨ k = 2) := by
  unfold passB
  cases sp <;> cases co <;> cases m <;> by_cases h6 : k = 6 <;> by_cases h2 : k = 2 <;> simp [h6, h2]
theorem may_own (k n a b c d : Int) (w : ByteArray) (ks : List Tree) : mayB (.mk k n a b c d w ks) = true ↔ ownK (.mk k n a b c d w ks) = true ∧ ∀ u ∈ ks, fitsK (.mk k n a b c d w ks) u = true ∧ mayB u = true := by
  have hall : ∀ sp co, allB sp co ks = true ↔ ∀ u ∈ ks, mayB u = true ∧ (sp = true ∨ u.kind ≠ 6) ∧ (co = false ∨ u.kind = 6 ∨ u.kind = 2) := fun sp co => by
    rw [allB_all, List.all_eq_true]
    exact forall_congr' fun u => imp_congr_right fun _ => pass_iff _ _ _ _
  have hnil : ks.length = 0 → ∀ u ∈ ks, fitsK (.mk k n a b c d w ks) u = true ∧ mayB u = true := fun h u hu => by
    rw [List.length_eq_zero_iff.1 h] at hu; cases hu
  have hlen : ∀ m : Nat, ((ks.length : Int) = m) ↔ ks.length = m := fun m => by omega
  rw [own_iff, mayB]
  by_cases h0 : k = 0
  · rw [if_pos h0, if_pos h0, Bool.and_eq_true, only_iff, decide_eq_true_eq]
    exact ⟨fun h => ⟨⟨h.1.1, by have := h.1.2; omega, h.2⟩, hnil (by have := h.1.2; omega)⟩, fun h => ⟨⟨h.1.1, by have := h.1.2.1; omega⟩, h.1.2.2⟩⟩
  rw [if_neg h0, if_neg h0]
  by_cases h1 : k = 1
  · rw [if_pos h1, if_pos h1]
    simp only [Bool.and_eq_true, only_iff, decide_eq_true_eq]
    exact ⟨fun h => ⟨⟨h.1.1.1, by have := h.1.1.2; omega, h.1.2, h.2⟩, hnil (by have := h.1.1.2; omega)⟩, fun h => ⟨⟨⟨h.1.1, by have := h.1.2.1; omega⟩, h.1.2.2.1⟩, h.1.2.2.2⟩⟩
  rw [if_neg h1, if_neg h1]
  by_cases h2 : k = 2
  · rw [if_pos h2, if_pos h2, only_iff]
    exact ⟨fun h => ⟨⟨h.1, by have := h.2; omega⟩, hnil (by have := h.2; omega)⟩, fun h => ⟨h.1.1, by have := h.1.2; omega⟩⟩
  rw [if_neg h2, if_neg h2]
  by_cases h6 : k = 6
  · rw [if_pos h6, if_pos h6]
    simp only [Bool.and_eq_true, only_iff]
    exact ⟨fun h => ⟨⟨h.1.1, by have := h.1.2; omega, h.2⟩, hnil (by have := h.1.2; omega)⟩, fun h => ⟨⟨h.1.1, by have := h.1.2.1; omega⟩, h.1.2.2⟩⟩
  rw [if_neg h6, if_neg h6]
  have hfit : k ≠ 5 → ∀ u, fitsK (.mk k n a b c d w ks) u = true ↔ u.kind ≠ 6 := fun h5 u => by
    rw [fitsK, if_neg (fun h => h5 h.1), if_neg (fun h => h5 h.1)]; simp only [Bool.not_eq_true', decide_eq_false_iff_not, ne_eq]
  by_cases h3 : k = 3
  · rw [if_pos h3, if_pos h3]
    simp only [Bool.and_eq_true, only_iff, hall, hfit (by omega)]
    exact ⟨fun h => ⟨⟨h.1.1, by have := h.1.2; omega⟩, fun u hu => ⟨((h.2 u hu).2.1).resolve_left (by decide), (h.2 u hu).1⟩⟩, fun h => ⟨⟨h.1.1, by have := h.1.2; omega⟩, fun u hu => ⟨(h.2 u hu).2, .inr (h.2 u hu).1, Or.inl (by trivial)⟩⟩⟩
  rw [if_neg h3, if_neg h3]
  by_cases h4 : k = 4
  · rw [if_pos h4, if_pos h4]
    simp only [Bool.and_eq_true, only_iff, hall, hfit (by omega), decide_eq_true_eq]
    exact ⟨fun h => ⟨⟨h.1.1.1, by have := h.1.1.2; omega, h.2⟩, fun u hu => ⟨((h.1.2 u hu).2.1).resolve_left (by decide), (h.1.2 u hu).1⟩⟩, fun h => ⟨⟨⟨h.1.1, by have := h.1.2.1; omega⟩, fun u hu => ⟨(h.2 u hu).2, .inr (h.2 u hu).1, Or.inl (by trivial)⟩⟩, h.1.2.2⟩⟩
  rw [if_neg h4, if_neg h4]
  by_cases h5 : k = 5
  · rw [if_pos h5]
    simp only [h5, true_and]
    by_cases hw : w = bIF
    · have hc : ¬ w = bCOUNT := by rw [hw]; decide
      rw [if_pos hw, if_pos hw]
      have hf : ∀ u, fitsK (.mk 5 n a b c d w ks) u = true ↔ u.kind ≠ 6 := fun u => by
        rw [fitsK, if_neg (fun h => hc h.2), if_neg (fun h => h.2 hw)]; simp only [Bool.not_eq_true', decide_eq_false_iff_not, ne_eq]
      simp only [Bool.and_eq_true, only_iff, hall, hf, decide_eq_true_eq, h5]
      have e1 : (!decide (w = bIF)) = false := by simp [hw]
      have e2 : decide (w = bCOUNT) = false := by simp [hc]
      rw [e1, e2]
      exact ⟨fun h => ⟨⟨h.1.1.1, by have := h.2; omega⟩, fun u hu => ⟨((h.1.2 u hu).2.1).resolve_left (by decide), (h.1.2 u hu).1⟩⟩, fun h => ⟨⟨⟨h.1.1, trivial⟩, fun u hu => ⟨(h.2 u hu).2, .inr (h.2 u hu).1, Or.inl (by trivial)⟩⟩, by have := h.1.2; omega⟩⟩
    · rw [if_neg hw, if_neg hw]
      by_cases hfn : isFn w = true
      · rw [if_pos hfn]
        have e1 : (!decide (w = bIF)) = true := by simp [hw]
        simp only [Bool.and_eq_true, only_iff, hall, decide_eq_true_eq, h5, hfn, true_and]
        rw [e1]
        by_cases hc : w = bCOUNT
        · have e2 : decide (w = bCOUNT) = true := by simp [hc]
          have hf : ∀ u, fitsK (.mk 5 n a b c d w ks) u = true ↔ u.kind = 6 ∨ u.kind = 2 := fun u => by
            rw [fitsK, if_pos ⟨rfl, hc⟩]; simp only [Bool.or_eq_true, decide_eq_true_eq]
          rw [e2]
          simp only [hf]
          exact ⟨fun h => ⟨⟨h.1.1.1, by have := h.2; omega⟩, fun u hu => ⟨((h.1.2 u hu).2.2).resolve_left (by decide), (h.1.2 u hu).1⟩⟩, fun h => ⟨⟨⟨h.1.1, trivial⟩, fun u hu => ⟨(h.2 u hu).2, Or.inl (by trivial), .inr (h.2 u hu).1⟩⟩, by have := h.1.2; omega⟩⟩
        · have e2 : decide (w = bCOUNT) = false := by simp [hc]
          have hf : ∀ u, fitsK (.mk 5 n a b c d w ks) u = true := fun u => by
            rw [fitsK, if_neg (fun h => hc h.2), if_pos ⟨rfl, hw⟩]
          rw [e2]
          simp only [hf]
          exact ⟨fun h => ⟨⟨h.1.1.1, by have := h.2; omega⟩, fun u hu => ⟨trivial, (h.1.2 u hu).1⟩⟩, fun h => ⟨⟨⟨h.1.1, trivial⟩, fun u hu => ⟨(h.2 u hu).2, Or.inl (by trivial), Or.inl (by trivial)⟩⟩, by have := h.1.2; omega⟩⟩
      · rw [if_neg hfn]
        simp [hfn]
  · rw [if_neg h5]
    simp [h5]
theorem deeps_le {l : List Tree} {d : Nat} : deeps l ≤ d ↔ ∀ u ∈ l, deepT u ≤ d := by
  induction l with
  | nil => simp [deeps]
  | cons t l ih => rw [deeps]; simp only [List.mem_cons, forall_eq_or_imp, ← ih]; omega
theorem right_may : ∀ (d : Nat) (t : Tree), rightK d t = true ↔ deepT t ≤ d ∧ mayB t = true := by
  intro d
  induction d with
  | zero =>
    intro t
    obtain ⟨k, n, a, b, c, e, w, ks⟩ := t
    rw [rightK, deepT]; simp
  | succ d ih =>
    intro t
    obtain ⟨k, n, a, b, c, e, w, ks⟩ := t
    rw [rightK, Bool.and_eq_true, List.all_eq_true, may_own, deepT]
    simp only [Bool.and_eq_true, ih, Tree.kids]
    have : deeps ks + 1 ≤ d + 1 ↔ ∀ u ∈ ks, deepT u ≤ d := by rw [← deeps_le]; omega
    rw [this]
    exact ⟨fun h => ⟨fun u hu => (h.2 u hu).2.1, h.1, fun u hu => ⟨(h.2 u hu).1, (h.2 u hu).2.2⟩⟩, fun h => ⟨h.2.1, fun u hu => ⟨(h.2.2 u hu).1, h.1 u hu, (h.2.2 u hu).2⟩⟩⟩
/-- The program's answer is the document's. -/
theorem rightK_B (t : Tree) : (!decide (t.kind = 6) && rightK 16 t) = rightB t := by
  apply Bool.eq_iff_iff.2
  unfold rightB
  simp only [Bool.and_eq_true, decide_eq_true_eq, right_may]
  constructor
  · rintro ⟨h1, h2, h3⟩; exact ⟨⟨h2, h1⟩, h3⟩
  · rintro ⟨⟨h2, h1⟩, h3⟩; exact ⟨h1, h2, h3⟩
end Go.AL
/-! Contracts: a place's way; a constant. -/
namespace Go.AL
open Go.Proofs
set_option linter.unusedSimpArgs false
set_option linter.unusedVariables false
def kn (p : Int × Int × Int) : AV := .agg [vi p.1, vi p.2.1, vi p.2.2]
def kns (l : List (Int × Int × Int)) : List AV := l.map kn
@[simp] theorem cl_kns (l : List (Int × Int × Int)) : (∀ c ∈ kns l, Cl c) = True := eq_true fun c hc => by
  obtain ⟨p, _, rfl⟩ := List.mem_map.1 hc
  exact .agg _ (by simp)
theorem kns_len (l : List (Int × Int × Int)) : (kns l).length = l.length := List.length_map _
theorem kns_get {l : List (Int × Int × Int)} {i : Nat} {a b w : Int} (h : l[i]? = some (a, b, w)) : (kns l)[i]? = some (.agg [vi a, vi b, vi w]) := by rw [kns, List.getElem?_map, h]; rfl
/-- A place's way: the first one that is known. -/
def atK : List (Int × Int × Int) → Int → Int → Int
  | [], _, _ => 0
  | (a, b, w) :: l, x, y => if a = x ∧ b = y then cleanW w else atK l x y
theorem cleanW_in (w : Int) : 0 ≤ cleanW w ∧ cleanW w ≤ 3 := by unfold cleanW; split <;> omega
theorem atK_in (x y : Int) : ∀ l, 0 ≤ atK l x y ∧ atK l x y ≤ 3
  | [] => by simp [atK]
  | (a, b, w) :: l => by
    rw [atK]
    split
    · exact cleanW_in w
    · exact atK_in x y l
set_option maxHeartbeats 4000000 in
set_option maxRecDepth 100000 in
theorem rat8_ok (l : List (Int × Int × Int)) (hl : (l.length : Int) ≤ 9223372036854775807) (x y : Int) : APure Try.prog 84 [.vsl (kns l), place x y] (vi (atK l x y)) := by
  have hvl := kns_len l
  refine apure_of Try.func84 Try.ntmps84 rfl ?_
  simp only [List.length_cons, List.length_nil, List.cons_append, List.nil_append, List.replicate]
  repeat' (first
    | refine aw_seq ?_
    | ((first | refine aw_run [] ?_ | refine aw_ymix [] draws (by decide +kernel) ?_); try simp -implicitDefEqProofs (maxSteps := 1000000) [hvl])
    | ((first | refine aw_zrun [] [] draws (by decide +kernel) (by decide +kernel) ?_ | refine zl_skip (by simp) rfl ?_); try simp -implicitDefEqProofs (maxSteps := 1000000) [hvl]; repeat first | refine zcurL (by decide +kernel) ?_ | refine zcurH (by decide +kernel) ?_ | refine zcurL' (by decide +kernel) ?_ | refine zcurH' (by decide +kernel) ?_)
    | ((first | refine aw_yrun draws (by kernel_rfl) ?_ | refine awl_skip' [] rfl ?_ | refine yl_skip rfl ?_ | refine aw_skip ?_ | refine aw_exit ?_); try simp -implicitDefEqProofs (maxSteps := 1000000) [hvl])
    | (refine aw_cond rfl (fun h => ?_) (fun h => ?_) <;> try (with_reducible first | exact ff_tt h | exact tt_ff h))
    | refine aw_block ?_
    | refine aw_ret (ret_of (.inr rfl) (by simp [Try.results84]; rfl) (Fin.of ?_))
    | refine ret_of (.inl rfl) (by simp [Try.results84]; rfl) (Fin.of ?_))
  refine aw_loopW [0, 3, 5] (fun q fr σ => ∃ i N : Nat, i + q = l.length ∧ atK l x y = atK (l.drop i) x y ∧ σ = mkSt [] [] N ∧ fr = frm 25 [(0, .vsl (kns l)), (3, .vel [place x y] 0 0), (5, vi (i : Nat))]) l.length ?_ ?_
  · exact ⟨_, le_mkSt (bs := []) (ss := []) (n := 0) (by simp) (by simp) (by simp [σ0]), 0, 0, by omega, rfl, rfl, by simp [hvl]⟩
  · rintro q fr σ ⟨i, N, hi, hat, rfl, rfl⟩
    simp -implicitDefEqProofs
    by_cases hlt : i < l.length
    · have hlti : (i : Int) < l.length := by omega
      obtain ⟨⟨a, b, w⟩, hw⟩ : ∃ w, l[i]? = some w := ⟨_, List.getElem?_eq_getElem hlt⟩
      have hg := kns_get hw
      have hla : i < (kns l).length := by omega
      have wi : IntKind.i64.wrap ((i : Int) + 1) = (i : Int) + 1 := wrap_id (by omega) (by omega)
      have hcons : l.drop i = (a, b, w) :: l.drop (i + 1) := by
        rw [List.drop_eq_getElem_cons hlt]
        congr 1
        rw [List.getElem?_eq_getElem hlt] at hw
        exact Option.some.inj hw
      rw [hcons, atK] at hat
      repeat' (first
        | refine aw_seq ?_
        | ((first | refine aw_run [] ?_ | refine aw_ymix [] draws (by decide +kernel) ?_); try simp -implicitDefEqProofs (maxSteps := 1000000) [hlti, hvl, hla, hg, wi])
        | ((first | refine aw_zrun [] [] draws (by decide +kernel) (by decide +kernel) ?_ | refine zl_skip (by simp) rfl ?_ | refine zl_pure_guard (by simp) rfl rfl rfl (by first | assumption | kernel_rfl) rfl (fun hc => by first | exact rclean8_ok _) (by simp) (by simp) (by simp) ?_ | refine zl_pure (by simp) rfl rfl rfl (by first | assumption | kernel_rfl) rfl (by first | exact rclean8_ok _) (by simp) (by simp) ?_); try simp -implicitDefEqProofs (maxSteps := 1000000) [hlti, hvl, hla, hg, wi]; repeat first | refine zcurL (by decide +kernel) ?_ | refine zcurH (by decide +kernel) ?_ | refine zcurL' (by decide +kernel) ?_ | refine zcurH' (by decide +kernel) ?_)
        | ((first | refine aw_yrun draws (by kernel_rfl) ?_ | refine awl_skip' [] rfl ?_ | refine yl_skip rfl ?_ | refine awl_pure_guard [] rfl rfl rfl (by first | assumption | kernel_rfl) rfl (fun hc => by first | exact rclean8_ok _) (by simp) (by simp) (by simp) ?_ | refine yl_pureG rfl rfl rfl (by first | assumption | kernel_rfl) rfl (fun hc => by first | exact rclean8_ok _) (by simp) (by simp) (by simp) ?_ | refine awl_pure' [] rfl rfl rfl (by first | assumption | kernel_rfl) rfl (by first | exact rclean8_ok _) (by simp) (by simp) ?_ | refine yl_pure rfl rfl rfl (by first | assumption | kernel_rfl) rfl (by first | exact rclean8_ok _) (by simp) (by simp) ?_ | refine aw_skip ?_ | refine aw_exit ?_); try simp -implicitDefEqProofs (maxSteps := 1000000) [hlti, hvl, hla, hg, wi])
        | (refine aw_cond rfl (fun h => ?_) (fun h => ?_) <;> try (with_reducible first | exact ff_tt h | exact tt_ff h))
        | refine aw_block ?_
        | refine aw_ret (ret_of (.inr rfl) (by simp [Try.results84]; rfl) (Fin.of ?_))
        | refine ret_of (.inl rfl) (by simp [Try.results84]; rfl) (Fin.of ?_))
      · rw [if_pos (by simpa using h)] at hat
        simp [tupOf, hat]
      · rw [if_neg (by simpa using h)] at hat
        exact ⟨q - 1, by omega, _, le_mkSt (bs := []) (ss := []) (n := N) (by simp) (by simp) (by simp), i + 1, by omega, hat, ⟨_, rfl⟩, by omega⟩
    · have hlti : ¬ (i : Int) < l.length := by omega
      rw [List.drop_eq_nil_of_le (by omega), atK] at hat
      rw [hat]
      repeat' (first
        | refine aw_seq ?_
        | ((first | refine aw_run [] ?_ | refine aw_ymix [] draws (by decide +kernel) ?_); try simp -implicitDefEqProofs (maxSteps := 1000000) [hlti, hvl])
        | ((first | refine aw_zrun [] [] draws (by decide +kernel) (by decide +kernel) ?_ | refine zl_skip (by simp) rfl ?_); try simp -implicitDefEqProofs (maxSteps := 1000000) [hlti, hvl]; repeat first | refine zcurL (by decide +kernel) ?_ | refine zcurH (by decide +kernel) ?_ | refine zcurL' (by decide +kernel) ?_ | refine zcurH' (by decide +kernel) ?_)
        | ((first | refine aw_yrun draws (by kernel_rfl) ?_ | refine awl_skip' [] rfl ?_ | refine yl_skip rfl ?_ | refine aw_skip ?_ | refine aw_exit ?_); try simp -implicitDefEqProofs (maxSteps := 1000000) [hlti, hvl])
        | (refine aw_cond rfl (fun h => ?_) (fun h => ?_) <;> try (with_reducible first | exact ff_tt h | exact tt_ff h))
        | refine aw_block ?_
        | refine aw_ret (ret_of (.inr rfl) (by simp [Try.results84]; rfl) (Fin.of ?_))
        | refine ret_of (.inl rfl) (by simp [Try.results84]; rfl) (Fin.of ?_))
      all_goals first | (simp [tupOf]; done) | trace_state
/-! ### constants -/
mutual
def conT : Tree → Option Int
  | .mk k n _ _ _ _ _ ks => if k = 0 then some n else if k = 3 then (conK ks).map (fun m => -m) else none
def conK : List Tree → Option Int
  | [] => none
  | t :: _ => conT t
end
def sgnW (m : Int) : Int := if m < 0 then -1 else if m = 0 then 0 else 1
def numZ (t : Tree) : Int := (conT t).getD 0
def numB (t : Tree) : Bool := (conT t).isSome
theorem may_num {n a b c d : Int} {w : ByteArray} {ks : List Tree} (h : mayB (.mk 0 n a b c d w ks) = true) : 0 ≤ n := by
  have h1 := ((own_iff _ _ _ _ _ _ _ _).1 ((may_own _ _ _ _ _ _ _ _).1 h).1).2
  exact h1.2
theorem may_neg {n a b c d : Int} {w : ByteArray} {ks : List Tree} (h : mayB (.mk 3 n a b c d w ks) = true) : ∃ u, ks = [u] ∧ mayB u = true := by
  have h0 := (may_own _ _ _ _ _ _ _ _).1 h
  have h1 := ((own_iff _ _ _ _ _ _ _ _).1 h0.1).2
  obtain ⟨u, rfl⟩ := List.length_eq_one_iff.1 (show ks.length = 1 from h1)
  exact ⟨u, rfl, (h0.2 u (by simp)).2⟩
theorem may_op {n a b c d : Int} {w : ByteArray} {ks : List Tree} (h : mayB (.mk 4 n a b c d w ks) = true) : ∃ u v, ks = [u, v] ∧ mayB u = true ∧ mayB v = true := by
  have h0 := (may_own _ _ _ _ _ _ _ _).1 h
  have h1 := ((own_iff _ _ _ _ _ _ _ _).1 h0.1).2
  obtain ⟨u, v, rfl⟩ : ∃ u v, ks = [u, v] := by
    have h2 : ks.length = 2 := h1.1
    match ks, h2 with
    | [u, v], _ => exact ⟨u, v, rfl⟩
  exact ⟨u, v, rfl, (h0.2 u (by simp)).2, (h0.2 v (by simp)).2⟩
theorem num_bd : ∀ t : Tree, t.In → mayB t = true → -9223372036854775807 ≤ numZ t ∧ numZ t ≤ 9223372036854775807 := by
  refine Tree.byKids fun k n a b c d w ks ih => ?_
  intro hin hm
  rw [Tree.In, ins_all] at hin
  obtain ⟨_, hn, _, _, _, _, _, _, hks⟩ := hin
  unfold numZ
  rw [conT]
  by_cases h0 : k = 0
  · subst h0
    have := may_num hm
    unfold In64 at hn
    simp
    omega
  by_cases h3 : k = 3
  · subst h3
    obtain ⟨u, rfl, hu⟩ := may_neg hm
    have := ih u (by simp) (hks u (by simp)) hu
    unfold numZ at this
    simp only [conK]
    generalize conT u = o at *
    cases o with
    | none => simp
    | some m => simp at this ⊢; omega
  · simp [h0, h3]
def ConP (F : FuncId) (r : Tree → AV) (t : Tree) : Prop := t.In → mayB t = true → APure Try.prog F [t.av] (r t)
set_option maxHeartbeats 8000000 in
set_option maxRecDepth 100000 in
theorem con_ok : ∀ t, ConP 105 (fun t => .tup [vi (numZ t), vb (numB t)]) t := by
  refine Tree.byKids fun k n a b c d w ks ih => ?_
  intro hin hm
  have hin0 := hin
  rw [Tree.In, ins_all] at hin
  obtain ⟨_, hn, _, _, _, _, _, _, hks⟩ := hin
  unfold numZ numB
  simp only [conT]
  by_cases h0 : k = 0
  · subst h0
    rw [Tree.av]
    refine apure_of Try.func105 Try.ntmps105 rfl ?_
    simp only [List.length_cons, List.length_nil, List.cons_append, List.nil_append, List.replicate]
    repeat' (first
      | refine aw_seq ?_
      | (refine aw_run [] ?_; try simp -implicitDefEqProofs (maxSteps := 1000000))
      | ((first | refine awl_skip' [] rfl ?_ | refine aw_skip ?_ | refine aw_exit ?_); try simp -implicitDefEqProofs (maxSteps := 1000000))
      | (refine aw_cond rfl (fun h => ?_) (fun h => ?_) <;> try (with_reducible first | exact ff_tt h | exact tt_ff h))
      | refine aw_block ?_
      | refine aw_ret (ret_of (.inr rfl) (by simp [Try.results105]; rfl) (Fin.of ?_))
      | refine ret_of (.inl rfl) (by simp [Try.results105]; rfl) (Fin.of ?_))
    all_goals first | (simp [tupOf]; done) | trace_state
  by_cases h3 : k = 3
  · subst h3
    obtain ⟨u, rfl, hu⟩ := may_neg hm
    have hr : APure Try.prog 105 [u.av] (.tup [vi (numZ u), vb (numB u)]) := ih u (by simp) (hks u (by simp)) hu
    have hb := num_bd u (hks u (by simp)) hu
    have wn : IntKind.i64.wrap (-numZ u) = -numZ u := wrap_id (by omega) (by omega)
    have e1 : ((conT u).map (fun m => -m)).getD 0 = -numZ u := by unfold numZ; cases conT u <;> simp
    have e2 : ((conT u).map (fun m => -m)).isSome = numB u := by unfold numB; cases conT u <;> simp
    simp only [conK, if_neg h0, if_true, e1, e2]
    generalize numZ u = nz at *
    generalize numB u = nb at *
    obtain ⟨tk, tn, ta, tb, tc, td, tw, tks⟩ := u
    rw [Tree.av] at hr
    simp only [Tree.av, avs]
    refine apure_of Try.func105 Try.ntmps105 rfl ?_
    simp only [List.length_cons, List.length_nil, List.cons_append, List.nil_append, List.replicate]
    repeat' (first
      | refine aw_seq ?_
      | (refine aw_run [] ?_; try simp -implicitDefEqProofs (maxSteps := 1000000) [wn])
      | ((first | refine awl_skip' [] rfl ?_ | refine awl_pure_guard [] rfl rfl rfl (by first | assumption | kernel_rfl) rfl (fun hc => by first | exact hr) (by simp) (by simp) (by simp) ?_ | refine awl_pure' [] rfl rfl rfl (by first | assumption | kernel_rfl) rfl (by first | exact hr) (by simp) (by simp) ?_ | refine aw_skip ?_ | refine aw_exit ?_); try simp -implicitDefEqProofs (maxSteps := 1000000) [wn])
      | (refine aw_cond rfl (fun h => ?_) (fun h => ?_) <;> try (with_reducible first | exact ff_tt h | exact tt_ff h))
      | refine aw_block ?_
      | refine aw_ret (ret_of (.inr rfl) (by simp [Try.results105]; rfl) (Fin.of ?_))
      | refine ret_of (.inl rfl) (by simp [Try.results105]; rfl) (Fin.of ?_))
    all_goals first | (simp [tupOf]; done) | trace_state
  · simp only [if_neg h0, if_neg h3, Option.getD, Option.isSome]
    rw [Tree.av]
    refine apure_of Try.func105 Try.ntmps105 rfl ?_
    simp only [List.length_cons, List.length_nil, List.cons_append, List.nil_append, List.replicate]
    repeat' (first
      | refine aw_seq ?_
      | (refine aw_run [] ?_; try simp -implicitDefEqProofs (maxSteps := 1000000) [h0, h3])
      | ((first | refine awl_skip' [] rfl ?_ | refine aw_skip ?_ | refine aw_exit ?_); try simp -implicitDefEqProofs (maxSteps := 1000000) [h0, h3])
      | (refine aw_cond rfl (fun h => ?_) (fun h => ?_) <;> try (with_reducible first | exact ff_tt h | exact tt_ff h))
      | refine aw_block ?_
      | refine aw_ret (ret_of (.inr rfl) (by simp [Try.results105]; rfl) (Fin.of ?_))
      | refine ret_of (.inl rfl) (by simp [Try.results105]; rfl) (Fin.of ?_))
    all_goals first | (simp [tupOf]; done) | trace_state
set_option maxHeartbeats 8000000 in
set_option maxRecDepth 100000 in
theorem rcon8_ok : ∀ t, ConP 108 (fun t => .tup [vi (sgnW (numZ t)), vb (numB t)]) t := by
  refine Tree.byKids fun k n a b c d w ks ih => ?_
  intro hin hm
  have hin0 := hin
  rw [Tree.In, ins_all] at hin
  obtain ⟨_, hn, _, _, _, _, _, _, hks⟩ := hin
  unfold numZ numB
  simp only [conT]
  by_cases h0 : k = 0
  · subst h0
    have hn0 := may_num hm
    have e1 : min n 1 = sgnW n := by unfold sgnW; split <;> (try split) <;> omega
    simp only [if_true, Option.getD, Option.isSome]
    rw [Tree.av]
    refine apure_of Try.func108 Try.ntmps108 rfl ?_
    simp only [List.length_cons, List.length_nil, List.cons_append, List.nil_append, List.replicate]
    repeat' (first
      | refine aw_seq ?_
      | (refine aw_run [] ?_; try simp -implicitDefEqProofs (maxSteps := 1000000) [e1])
      | ((first | refine awl_skip' [] rfl ?_ | refine aw_skip ?_ | refine aw_exit ?_); try simp -implicitDefEqProofs (maxSteps := 1000000) [e1])
      | (refine aw_cond rfl (fun h => ?_) (fun h => ?_) <;> try (with_reducible first | exact ff_tt h | exact tt_ff h))
      | refine aw_block ?_
      | refine aw_ret (ret_of (.inr rfl) (by simp [Try.results108]; rfl) (Fin.of ?_))
      | refine ret_of (.inl rfl) (by simp [Try.results108]; rfl) (Fin.of ?_))
    all_goals first | (simp [tupOf, e1]; done) | (simp [tupOf]; omega) | trace_state
  by_cases h3 : k = 3
  · subst h3
    obtain ⟨u, rfl, hu⟩ := may_neg hm
    have hr : APure Try.prog 108 [u.av] (.tup [vi (sgnW (numZ u)), vb (numB u)]) := ih u (by simp) (hks u (by simp)) hu
    have wn : IntKind.i64.wrap (-sgnW (numZ u)) = sgnW (-numZ u) := by
      unfold sgnW
      split
      · rw [if_neg (by omega), if_neg (by omega)]; decide
      · split
        · rw [if_neg (by omega), if_pos (by omega)]; decide
        · rw [if_pos (by omega)]; decide
    have e1 : ((conT u).map (fun m => -m)).getD 0 = -numZ u := by unfold numZ; cases conT u <;> simp
    have e2 : ((conT u).map (fun m => -m)).isSome = numB u := by unfold numB; cases conT u <;> simp
    simp only [conK, if_neg h0, if_true, e1, e2]
    generalize sgnW (-numZ u) = sz at *
    generalize sgnW (numZ u) = nz at *
    generalize numB u = nb at *
    obtain ⟨tk, tn, ta, tb, tc, td, tw, tks⟩ := u
    rw [Tree.av] at hr
    simp only [Tree.av, avs]
    refine apure_of Try.func108 Try.ntmps108 rfl ?_
    simp only [List.length_cons, List.length_nil, List.cons_append, List.nil_append, List.replicate]
    repeat' (first
      | refine aw_seq ?_
      | (refine aw_run [] ?_; try simp -implicitDefEqProofs (maxSteps := 1000000) [wn])
      | ((first | refine awl_skip' [] rfl ?_ | refine awl_pure_guard [] rfl rfl rfl (by first | assumption | kernel_rfl) rfl (fun hc => by first | exact hr) (by simp) (by simp) (by simp) ?_ | refine awl_pure' [] rfl rfl rfl (by first | assumption | kernel_rfl) rfl (by first | exact hr) (by simp) (by simp) ?_ | refine aw_skip ?_ | refine aw_exit ?_); try simp -implicitDefEqProofs (maxSteps := 1000000) [wn])
      | (refine aw_cond rfl (fun h => ?_) (fun h => ?_) <;> try (with_reducible first | exact ff_tt h | exact tt_ff h))
      | refine aw_block ?_
      | refine aw_ret (ret_of (.inr rfl) (by simp [Try.results108]; rfl) (Fin.of ?_))
      | refine ret_of (.inl rfl) (by simp [Try.results108]; rfl) (Fin.of ?_))
    all_goals first | (simp [tupOf]; done) | trace_state
  · simp only [if_neg h0, if_neg h3, Option.getD, Option.isSome]
    rw [Tree.av]
    refine apure_of Try.func108 Try.ntmps108 rfl ?_
    simp only [List.length_cons, List.length_nil, List.cons_append, List.nil_append, List.replicate]
    repeat' (first
      | refine aw_seq ?_
      | (refine aw_run [] ?_; try simp -implicitDefEqProofs (maxSteps := 1000000) [h0, h3])
      | ((first | refine awl_skip' [] rfl ?_ | refine aw_skip ?_ | refine aw_exit ?_); try simp -implicitDefEqProofs (maxSteps := 1000000) [h0, h3])
      | (refine aw_cond rfl (fun h => ?_) (fun h => ?_) <;> try (with_reducible first | exact ff_tt h | exact tt_ff h))
      | refine aw_block ?_
      | refine aw_ret (ret_of (.inr rfl) (by simp [Try.results108]; rfl) (Fin.of ?_))
      | refine ret_of (.inl rfl) (by simp [Try.results108]; rfl) (Fin.of ?_))
    all_goals first | (simp [tupOf, sgnW]; done) | trace_state
end Go.AL
/-! The cells of both are the same. -/
namespace Go.AL
open Go.Proofs
set_option linter.unusedSimpArgs false
set_option linter.unusedVariables false
theorem atC_nat1 {i : Nat} (h : i < 1024) : atC (i : Int) = ((i % 16 : Nat) : Int) := by unfold atC; rw [if_pos (by omega)]; omega
theorem atR_nat1 {i : Nat} (h : i < 1024) : atR (i : Int) = ((i / 16 : Nat) : Int) := by unfold atR; rw [if_pos (by omega)]; omega
theorem range1024 : List.range 1024 = (List.range 64).flatMap fun m => (List.range 16).map fun x => 16 * m + x := by decide +kernel
theorem cut16 : ∀ a : Nat, a < 16 → ∀ c : Nat, c < 16 → a ≤ c → (List.range 16).filter (fun x => decide (a ≤ x) && decide (x ≤ c)) = (List.range (c - a + 1)).map fun i => a + i := by decide +kernel
theorem cut64 : ∀ b : Nat, b < 64 → ∀ d : Nat, d < 64 → b ≤ d → (List.range 64).filter (fun y => decide (b ≤ y) && decide (y ≤ d)) = (List.range (d - b + 1)).map fun j => b + j := by decide +kernel
theorem flatMap_cong {α β : Type} {l : List α} {f g : α → List β} (h : ∀ x ∈ l, f x = g x) : l.flatMap f = l.flatMap g := by
  induction l with
  | nil => rfl
  | cons x l ih => rw [List.flatMap_cons, List.flatMap_cons, h x (by simp), ih fun y hy => h y (by simp [hy])]
theorem flatMap_cut {α β : Type} (p : α → Bool) (f : α → List β) (l : List α) : (l.flatMap fun x => if p x = true then f x else []) = (l.filter p).flatMap f := by
  induction l with
  | nil => rfl
  | cons x l ih => rw [List.flatMap_cons, List.filter_cons, ih]; by_cases h : p x = true <;> simp [h]
theorem cellsL_eq (a b c d : Int) : cellsL a b c d = gridL a b c d := by
  have hg : ∀ i : Nat, i ∈ List.range 64 → ∀ x : Nat, x ∈ List.range 16 → atC ((16 * i + x : Nat) : Int) = (x : Int) ∧ atR ((16 * i + x : Nat) : Int) = (i : Int) := by
    intro i hi x hx
    have h1 := List.mem_range.1 hi
    have h2 := List.mem_range.1 hx
    rw [atC_nat1 (by omega), atR_nat1 (by omega)]
    omega
  have e : cellsL a b c d = (List.range 64).flatMap fun m : Nat => ((List.range 16).filter fun x : Nat => hasP a b c d (x : Int) (m : Int)).map fun x : Nat => ((x : Int), (m : Int)) := by
    unfold cellsL cellsN
    rw [range1024, List.filter_flatMap, List.map_flatMap]
    refine flatMap_cong fun m hm => ?_
    rw [List.filter_map, List.map_map]
    rw [List.filter_congr (q := fun x : Nat => hasP a b c d (x : Int) (m : Int)) fun x hx => by simp only [Function.comp]; rw [(hg m hm x hx).1, (hg m hm x hx).2]]
    refine List.map_congr_left fun x hx => ?_
    have hx := (List.mem_filter.1 hx).1
    simp only [Function.comp]
    rw [(hg m hm x hx).1, (hg m hm x hx).2]
  rw [e]
  unfold gridL
  split
  · rename_i hw
    obtain ⟨⟨a0, ac, c1⟩, b0, bd, d1⟩ := whole_iff.1 hw
    obtain ⟨a, rfl⟩ := Int.eq_ofNat_of_zero_le a0
    obtain ⟨b, rfl⟩ := Int.eq_ofNat_of_zero_le b0
    obtain ⟨c, rfl⟩ := Int.eq_ofNat_of_zero_le (show 0 ≤ c by omega)
    obtain ⟨d, rfl⟩ := Int.eq_ofNat_of_zero_le (show 0 ≤ d by omega)
    have hr : ∀ m ∈ List.range 64, (((List.range 16).filter fun x : Nat => hasP a b c d (x : Int) (m : Int)).map fun x : Nat => ((x : Int), (m : Int))) = if (decide (b ≤ m) && decide (m ≤ d)) = true then rowN a (m : Int) (c - a + 1) else [] := by
      intro m _
      split
      · rename_i hm
        simp only [Bool.and_eq_true, decide_eq_true_eq] at hm
        rw [List.filter_congr (q := fun x : Nat => decide (a ≤ x) && decide (x ≤ c)) fun x hx => by
          simp only [hasP, withinP, hw, Bool.true_and, Int.ofNat_le, hm, decide_true, Bool.and_true, Int.ofNat_eq_natCast], cut16 a (by omega) c (by omega) (by omega), List.map_map]
        unfold rowN
        exact List.map_congr_left fun i _ => by simp
      · rename_i hm
        rw [List.filter_eq_nil_iff.2, List.map_nil]
        intro x hx
        simp only [Bool.and_eq_true, decide_eq_true_eq] at hm
        simp only [hasP, withinP, Bool.and_eq_true, decide_eq_true_eq]
        omega
    rw [flatMap_cong hr, flatMap_cut, cut64 b (by omega) d (by omega) (by omega), List.flatMap_map]
    unfold gridN
    rw [show ((c : Int) - a + 1).toNat = c - a + 1 by omega, show ((d : Int) - b + 1).toNat = d - b + 1 by omega]
    exact flatMap_cong fun j _ => by simp
  · rename_i hw
    have hw : wholeP a b c d = false := by simpa using hw
    rw [flatMap_cong (g := fun _ => []) fun m _ => by simp [hasP, hw]]
    simp
theorem gridL_len1 (a b c d : Int) : (gridL a b c d).length ≤ 1024 := by
  unfold gridL
  split
  · rename_i hw
    have := whole_iff.1 hw
    rw [gridN_len]
    exact Nat.le_trans (Nat.mul_le_mul (show (d - b + 1).toNat ≤ 64 by omega) (show (c - a + 1).toNat ≤ 16 by omega)) (by decide)
  · simp
theorem gridL_one {a b : Int} (h : rightP a b = true) : gridL a b a b = [(a, b)] := by
  have h1 : 0 ≤ a ∧ a < 16 ∧ 0 ≤ b ∧ b < 64 := by
    simp only [rightP, Bool.and_eq_true, decide_eq_true_eq] at h
    omega
  have hw : wholeP a b a b = true := whole_iff.2 (by omega)
  rw [gridL, if_pos hw, show (a - a + 1).toNat = 1 by omega, show (b - b + 1).toNat = 1 by omega]
  simp [gridN, rowN]
end Go.AL
/-! Contracts: gridironref08.way, Of. -/
namespace Go.AL
open Go.Proofs
set_option linter.unusedSimpArgs false
set_option linter.unusedVariables false
def stW (a b : Int) : Int := if a = 0 ∧ b = 0 then 0 else 3
def byW (a n : Int) : Int := if n < 0 then flipW a else a
/-- An Op's way. -/
def opW (w : ByteArray) (a b : Int) (p : Bool) (m : Int) (q : Bool) (n : Int) : Int :=
  if w = ⟨#[43]⟩ then twoW a b
  else if w = ⟨#[45]⟩ ∨ w = ⟨#[62]⟩ ∨ w = ⟨#[62, 61]⟩ then twoW a (flipW b)
  else if w = ⟨#[60]⟩ ∨ w = ⟨#[60, 61]⟩ then twoW b (flipW a)
  else if w = ⟨#[42]⟩ then (if q = true then byW a n else if p = true then byW b m else stW a b)
  else if w = ⟨#[47]⟩ then (if q = true ∧ n ≠ 0 then byW a n else stW a b)
  else stW a b
mutual
def wayT (f : Int → Int → Int) : Tree → Int
  | .mk k n a b c d w ks =>
    if k = 1 then f a b
    else if k = 6 then joinW ((gridL a b c d).map fun p => f p.1 p.2)
    else if k = 3 then flipW ((wayTs f ks).headD 0)
    else if k = 4 then opW w ((wayTs f ks).headD 0) ((wayTs f ks).tail.headD 0) (numB (ks.headD badT)) (numZ (ks.headD badT)) (numB (ks.tail.headD badT)) (numZ (ks.tail.headD badT))
    else if k = 5 then (if w = bCOUNT then 0 else if w = bIF ∧ (wayTs f ks).headD 0 ≠ 0 then 3 else joinW (wayTs f ks))
    else 0
def wayTs (f : Int → Int → Int) : List Tree → List Int
  | [] => []
  | t :: ts => wayT f t :: wayTs f ts
end
theorem wayTs_map (f : Int → Int → Int) : ∀ l, wayTs f l = l.map (wayT f)
  | [] => rfl
  | t :: ts => by rw [wayTs, wayTs_map f ts]; rfl
/-! ### in range -/
def InW (w : Int) : Prop := 0 ≤ w ∧ w ≤ 3
instance (w : Int) : Decidable (InW w) := by unfold InW; infer_instance
theorem twoW_in (a b : Int) : InW (twoW a b) := by unfold twoW InW; repeat' split <;> omega
theorem flipW_in (a : Int) : InW (flipW a) := by unfold flipW cleanW InW; repeat' split <;> omega
theorem joinW_in : ∀ l : List Int, InW (joinW l) := by
  intro l
  have : ∀ (l : List Int) (a : Int), InW a → InW (l.foldl twoW a) := by
    intro l
    induction l with
    | nil => intro a h; exact h
    | cons b l ih => intro a _; exact ih _ (twoW_in _ _)
  exact this l 0 (by decide)
theorem byW_in {a : Int} (n : Int) (h : InW a) : InW (byW a n) := by unfold byW; split <;> first | exact flipW_in _ | exact h
theorem stW_in (a b : Int) : InW (stW a b) := by unfold stW; split <;> decide
theorem opW_in {w : ByteArray} {a b : Int} {p : Bool} {m : Int} {q : Bool} {n : Int} (ha : InW a) (hb : InW b) : InW (opW w a b p m q n) := by
  unfold opW
  repeat' split
  all_goals first | exact twoW_in _ _ | exact byW_in _ ha | exact byW_in _ hb | exact stW_in _ _
theorem wayT_in {f : Int → Int → Int} (hf : ∀ x y, InW (f x y)) : ∀ t, InW (wayT f t) := by
  refine Tree.byKids fun k n a b c d w ks ih => ?_
  have h0 : ∀ l : List Tree, (∀ t ∈ l, InW (wayT f t)) → InW ((wayTs f l).headD 0) := by
    intro l h
    cases l with
    | nil => exact (by decide : InW 0)
    | cons t ts => exact h t (by simp)
  have h1 := h0 ks ih
  have h2 : InW ((wayTs f ks).tail.headD 0) := by
    have : (wayTs f ks).tail = wayTs f ks.tail := by cases ks <;> simp [wayTs]
    rw [this]; exact h0 _ fun t ht => ih t (List.mem_of_mem_tail ht)
  rw [wayT]
  repeat' split
  all_goals first | exact hf _ _ | exact joinW_in _ | exact flipW_in _ | exact opW_in h1 h2 | decide
/-- As the document joins them. -/
theorem lt_ref {a b : Int} (ha : InW a) (hb : InW b) : flipW (twoW a (flipW b)) = twoW b (flipW a) := by
  unfold InW at ha hb
  have h1 : a = 0 ∨ a = 1 ∨ a = 2 ∨ a = 3 := by omega
  have h2 : b = 0 ∨ b = 1 ∨ b = 2 ∨ b = 3 := by omega
  rcases h1 with rfl | rfl | rfl | rfl <;> rcases h2 with rfl | rfl | rfl | rfl <;> decide
theorem joinW2 {a b : Int} (ha : InW a) : joinW [a, b] = twoW a b := by
  unfold InW at ha
  have h1 : a = 0 ∨ a = 1 ∨ a = 2 ∨ a = 3 := by omega
  rcases h1 with rfl | rfl | rfl | rfl <;> rfl
theorem joinW1 {a : Int} (ha : InW a) : joinW [a] = a := by
  unfold InW at ha
  have h1 : a = 0 ∨ a = 1 ∨ a = 2 ∨ a = 3 := by omega
  rcases h1 with rfl | rfl | rfl | rfl <;> rfl
theorem st_join {a b : Int} (ha : InW a) (hb : InW b) : (if joinW [a, b] = 0 then (0 : Int) else 3) = stW a b := by
  rw [joinW2 ha]
  unfold InW at ha hb
  have h1 : a = 0 ∨ a = 1 ∨ a = 2 ∨ a = 3 := by omega
  have h2 : b = 0 ∨ b = 1 ∨ b = 2 ∨ b = 3 := by omega
  rcases h1 with rfl | rfl | rfl | rfl <;> rcases h2 with rfl | rfl | rfl | rfl <;> decide
theorem sgn_neg (n : Int) : sgnW n < 0 ↔ n < 0 := by unfold sgnW; split <;> (try split) <;> omega
theorem sgn_zero (n : Int) : sgnW n = 0 ↔ n = 0 := by unfold sgnW; split <;> (try split) <;> omega
theorem by_sgn (a n : Int) : (if sgnW n < 0 then flipW a else a) = byW a n := by unfold byW; simp only [sgn_neg]
/-! ### the document's -/
def RWayP (l : List (Int × Int × Int)) (t : Tree) : Prop := t.In → mayB t = true → APure Try.prog 57 [t.av, .vsl (kns l)] (vi (wayT (atK l) t))
set_option maxHeartbeats 16000000 in
set_option maxRecDepth 100000 in
theorem rop8_ok (l : List (Int × Int × Int)) (hlen : (l.length : Int) ≤ 9223372036854775807) (k n a b c d : Int) (w : ByteArray) (u v : Tree) (A B : Int) (p q : Bool) (M N : Int) (hA : InW A) (hB : InW B)
    (hu : APure Try.prog 57 [u.av, .vsl (kns l)] (vi A)) (hv : APure Try.prog 57 [v.av, .vsl (kns l)] (vi B))
    (cu : APure Try.prog 108 [u.av] (.tup [vi (sgnW M), vb p])) (cv : APure Try.prog 108 [v.av] (.tup [vi (sgnW N), vb q])) :
    APure Try.prog 85 [.agg [vi k, vi n, vi a, vi b, vi c, vi d, vs w, .vsl (avs [u, v])], .vsl (kns l)] (vi (opW w A B p M q N)) := by
  have e1 := by_sgn A N
  have e2 := by_sgn B M
  have e3 := lt_ref hA hB
  have e4 : sgnW N = 0 ↔ N = 0 := sgn_zero N
  unfold opW
  rw [← e1, ← e2, ← e3]
  generalize sgnW M = sm at *
  generalize hsn : sgnW N = sn at *
  obtain ⟨uk, un, ua, ub, uc, ud, uw, uks⟩ := u
  obtain ⟨vk, vn, va, vb', vc, vd, vw, vks⟩ := v
  rw [Tree.av] at hu hv cu cv
  simp only [avs, Tree.av]
  clear e1 e2 e3
  refine apure_of Try.func85 Try.ntmps85 rfl ?_
  simp only [List.length_cons, List.length_nil, List.cons_append, List.nil_append, List.replicate]
  repeat' (first
    | refine aw_seq ?_
    | (refine aw_run [] ?_; try simp -implicitDefEqProofs (maxSteps := 1000000))
    | ((first | refine awl_skip' [] rfl ?_ | refine awl_pure_guard [] rfl rfl rfl (by first | assumption | kernel_rfl) rfl (fun hc => by first | exact hu | exact hv | exact cu | exact cv | exact rtwo8_ok _ _ | exact rflip8_ok _ | exact rby8_ok _ _) (by simp) (by simp) (by simp) ?_ | refine awl_pure' [] rfl rfl rfl (by first | assumption | kernel_rfl) rfl (by first | exact hu | exact hv | exact cu | exact cv | exact rtwo8_ok _ _ | exact rflip8_ok _ | exact rby8_ok _ _) (by simp) (by simp) ?_ | refine aw_skip ?_ | refine aw_exit ?_); try simp -implicitDefEqProofs (maxSteps := 1000000))
    | (refine aw_cond rfl (fun h => ?_) (fun h => ?_) <;> try (with_reducible first | exact ff_tt h | exact tt_ff h))
    | refine aw_block ?_
    | refine aw_ret (ret_of (.inr rfl) (by simp [Try.results85]; rfl) (Fin.of ?_))
    | refine ret_of (.inl rfl) (by simp [Try.results85]; rfl) (Fin.of ?_))
  all_goals first | (simp_all [tupOf, stW]; done) | (simp_all [tupOf, stW]; (repeat' split) <;> simp_all; done) | trace_state
end Go.AL
/-! Contracts: gridironref08.way, Of. -/
namespace Go.AL
open Go.Proofs
set_option linter.unusedSimpArgs false
set_option linter.unusedVariables false
theorem may_call {n a b c d : Int} {w : ByteArray} {ks : List Tree} (h : mayB (.mk 5 n a b c d w ks) = true) : 0 < ks.length ∧ ∀ u ∈ ks, mayB u = true := by
  have h0 := (may_own _ _ _ _ _ _ _ _).1 h
  have h1 := ((own_iff _ _ _ _ _ _ _ _).1 h0.1).2
  refine ⟨?_, fun u hu => (h0.2 u hu).2⟩
  have h2 : (5 : Int) = 5 ∧ (if w = bIF then ks.length = 3 else isFn w = true ∧ 0 < ks.length) := h1
  have h2 := h2.2
  split at h2 <;> omega
@[simp] theorem cl_pl1 (l : List (Int × Int)) : (∀ c ∈ l.map pl, Cl c) = True := eq_true fun c hc => by
  obtain ⟨p, _, rfl⟩ := List.mem_map.1 hc
  exact .agg _ (by simp)
@[simp] theorem cl_pl2 (l : List (Int × Int)) : (∀ (c : AV) (x y : Int), (x, y) ∈ l → pl (x, y) = c → Cl c) = True := eq_true fun c x y _ h => by
  rw [← h]; exact .agg _ (by simp)
theorem may_read {n a b c d : Int} {w : ByteArray} {ks : List Tree} (h : mayB (.mk 1 n a b c d w ks) = true) : rightP a b = true ∧ a = c ∧ b = d := by
  have h0 := (may_own _ _ _ _ _ _ _ _).1 h
  exact (((own_iff _ _ _ _ _ _ _ _).1 h0.1).2).2
set_option maxHeartbeats 16000000 in
set_option maxRecDepth 100000 in
theorem rway8_ok (l : List (Int × Int × Int)) (hlen : (l.length : Int) ≤ 9223372036854775807) : ∀ t, RWayP l t := by
  refine Tree.byKids fun k n a b c d w ks ih => ?_
  intro hin hm
  have hat := rat8_ok l hlen
  have hF : ∀ x y, InW (atK l x y) := fun x y => atK_in x y l
  rw [Tree.In, ins_all] at hin
  obtain ⟨_, hn, _, _, _, _, hw, hlk, hks⟩ := hin
  have hl := avs_len ks
  rw [wayT]
  by_cases h1 : k = 1
  · subst h1
    rw [if_pos rfl, Tree.av]
    refine apure_of Try.func57 Try.ntmps57 rfl ?_
    simp only [List.length_cons, List.length_nil, List.cons_append, List.nil_append, List.replicate]
    repeat' (first
      | refine aw_seq ?_
      | (refine aw_run [] ?_; try simp -implicitDefEqProofs (maxSteps := 1000000))
      | ((first | refine awl_skip' [] rfl ?_ | refine awl_pure_guard [] rfl rfl rfl (by first | assumption | kernel_rfl) rfl (fun hc => by first | exact hat _ _) (by simp) (by simp) (by simp) ?_ | refine awl_pure' [] rfl rfl rfl (by first | assumption | kernel_rfl) rfl (by first | exact hat _ _) (by simp) (by simp) ?_ | refine aw_skip ?_ | refine aw_exit ?_); try simp -implicitDefEqProofs (maxSteps := 1000000))
      | (refine aw_cond rfl (fun h => ?_) (fun h => ?_) <;> try (with_reducible first | exact ff_tt h | exact tt_ff h))
      | refine aw_block ?_
      | refine aw_ret (ret_of (.inr rfl) (by simp [Try.results57]; rfl) (Fin.of ?_))
      | refine ret_of (.inl rfl) (by simp [Try.results57]; rfl) (Fin.of ?_))
    all_goals first | (simp [tupOf]; done) | trace_state
  rw [if_neg h1]
  by_cases h6 : k = 6
  · subst h6
    rw [if_pos rfl, Tree.av]
    have hc := rcells_ok a b c d
    rw [cellsL_eq] at hc
    have hL := gridL_len1 a b c d
    generalize gridL a b c d = L at *
    have hLm : (L.map pl).length = L.length := List.length_map _
    obtain ⟨W, hW⟩ : ∃ W, W = L.map fun p => atK l p.1 p.2 := ⟨_, rfl⟩
    have hWl : W.length = L.length := by rw [hW, List.length_map]
    rw [← hW]
    refine apure_of Try.func57 Try.ntmps57 rfl ?_
    simp only [List.length_cons, List.length_nil, List.cons_append, List.nil_append, List.replicate]
    repeat' (first
      | refine aw_seq ?_
      | (refine aw_run [] ?_; try simp -implicitDefEqProofs (maxSteps := 1000000) [hLm])
      | ((first | refine awl_skip' [] rfl ?_ | refine awl_pure_guard [] rfl rfl rfl (by first | assumption | kernel_rfl) rfl (fun hc => by first | exact hc) (by simp) (by simp) (by simp) ?_ | refine awl_pure' [] rfl rfl rfl (by first | assumption | kernel_rfl) rfl (by first | exact hc) (by simp) (by simp) ?_ | refine aw_skip ?_ | refine aw_exit ?_); try simp -implicitDefEqProofs (maxSteps := 1000000) [hLm])
      | (refine aw_cond rfl (fun h => ?_) (fun h => ?_) <;> try (with_reducible first | exact ff_tt h | exact tt_ff h))
      | refine aw_block ?_
      | refine aw_ret (ret_of (.inr rfl) (by simp [Try.results57]; rfl) (Fin.of ?_))
      | refine ret_of (.inl rfl) (by simp [Try.results57]; rfl) (Fin.of ?_))
    refine aw_loopW [1, 5, 6, 7] (fun q fr σ => ∃ i N : Nat, i + q = L.length ∧ σ = mkSt [] [] N ∧ fr = frm 88 [(1, .vsl (kns l)), (5, vi (joinW (W.take i))), (6, .vsl (L.map pl)), (7, vi (i : Nat))]) L.length ?_ ?_
    · exact ⟨_, le_mkSt (bs := []) (ss := []) (n := 0) (by simp) (by simp) (by simp [σ0]), 0, 0, by omega, rfl, by simp [joinW, hLm]⟩
    · rintro q fr σ ⟨i, N, hi, rfl, rfl⟩
      simp -implicitDefEqProofs
      by_cases hlt : i < L.length
      · have hlti : (i : Int) < L.length := by omega
        obtain ⟨⟨x, y⟩, hp⟩ : ∃ p, L[i]? = some p := ⟨_, List.getElem?_eq_getElem hlt⟩
        have hg : (L.map pl)[i]? = some (.agg [vi x, vi y]) := by rw [List.getElem?_map, hp]; rfl
        have wi : IntKind.i64.wrap ((i : Int) + 1) = (i : Int) + 1 := wrap_id (by omega) (by omega)
        have hWi : W[i]? = some (atK l x y) := by rw [hW, List.getElem?_map, hp]; rfl
        have hjn : joinW (W.take (i + 1)) = twoW (joinW (W.take i)) (atK l x y) := by
          rw [List.take_add_one, hWi]; exact joinW_snoc _ _
        have hr := hat x y
        generalize atK l x y = ap at *
        generalize joinW (W.take i) = jw at *
        repeat' (first
          | refine aw_seq ?_
          | (refine aw_run [] ?_; try simp -implicitDefEqProofs (maxSteps := 1000000) [hlti, hLm, hg, hp, wi])
          | ((first | refine awl_skip' [] rfl ?_ | refine awl_pure_guard [] rfl rfl rfl (by first | assumption | kernel_rfl) rfl (fun hc => by first | exact hr | exact rtwo8_ok _ _) (by simp) (by simp) (by simp) ?_ | refine awl_pure' [] rfl rfl rfl (by first | assumption | kernel_rfl) rfl (by first | exact hr | exact rtwo8_ok _ _) (by simp) (by simp) ?_ | refine aw_skip ?_ | refine aw_exit ?_); try simp -implicitDefEqProofs (maxSteps := 1000000) [hlti, hLm, hg, hp, wi])
          | (refine aw_cond rfl (fun h => ?_) (fun h => ?_) <;> try (with_reducible first | exact ff_tt h | exact tt_ff h))
          | refine aw_block ?_
          | refine aw_ret (ret_of (.inr rfl) (by simp [Try.results57]; rfl) (Fin.of ?_))
          | refine ret_of (.inl rfl) (by simp [Try.results57]; rfl) (Fin.of ?_))
        exact ⟨q - 1, by omega, mkSt [] [] N, le_mkSt (by simp) (by simp) (Nat.le_refl _), i + 1, by omega, ⟨_, rfl⟩, hjn.symm, by omega⟩
      · have hlti : ¬ (i : Int) < L.length := by omega
        rw [List.take_of_length_le (by omega)]
        repeat' (first
          | refine aw_seq ?_
          | (refine aw_run [] ?_; try simp -implicitDefEqProofs (maxSteps := 1000000) [hlti, hLm])
          | ((first | refine awl_skip' [] rfl ?_ | refine aw_skip ?_ | refine aw_exit ?_); try simp -implicitDefEqProofs (maxSteps := 1000000) [hlti, hLm])
          | (refine aw_cond rfl (fun h => ?_) (fun h => ?_) <;> try (with_reducible first | exact ff_tt h | exact tt_ff h))
          | refine aw_block ?_
          | refine aw_ret (ret_of (.inr rfl) (by simp [Try.results57]; rfl) (Fin.of ?_))
          | refine ret_of (.inl rfl) (by simp [Try.results57]; rfl) (Fin.of ?_))
        all_goals first | (simp [tupOf]; done) | trace_state
  rw [if_neg h6]
  by_cases h3 : k = 3
  · subst h3
    rw [if_pos rfl]
    obtain ⟨u, rfl, hu⟩ := may_neg hm
    have hr : APure Try.prog 57 [u.av, .vsl (kns l)] (vi (wayT (atK l) u)) := ih u (by simp) (hks u (by simp)) hu
    simp only [wayTs, List.headD]
    generalize wayT (atK l) u = wu at *
    obtain ⟨tk, tn, ta, tb, tc, td, tw, tks⟩ := u
    rw [Tree.av] at hr
    simp only [Tree.av, avs]
    refine apure_of Try.func57 Try.ntmps57 rfl ?_
    simp only [List.length_cons, List.length_nil, List.cons_append, List.nil_append, List.replicate]
    repeat' (first
      | refine aw_seq ?_
      | (refine aw_run [] ?_; try simp -implicitDefEqProofs (maxSteps := 1000000))
      | ((first | refine awl_skip' [] rfl ?_ | refine awl_pure_guard [] rfl rfl rfl (by first | assumption | kernel_rfl) rfl (fun hc => by first | exact hr | exact rflip8_ok _) (by simp) (by simp) (by simp) ?_ | refine awl_pure' [] rfl rfl rfl (by first | assumption | kernel_rfl) rfl (by first | exact hr | exact rflip8_ok _) (by simp) (by simp) ?_ | refine aw_skip ?_ | refine aw_exit ?_); try simp -implicitDefEqProofs (maxSteps := 1000000))
      | (refine aw_cond rfl (fun h => ?_) (fun h => ?_) <;> try (with_reducible first | exact ff_tt h | exact tt_ff h))
      | refine aw_block ?_
      | refine aw_ret (ret_of (.inr rfl) (by simp [Try.results57]; rfl) (Fin.of ?_))
      | refine ret_of (.inl rfl) (by simp [Try.results57]; rfl) (Fin.of ?_))
    all_goals first | (simp [tupOf]; done) | trace_state
  rw [if_neg h3]
  by_cases h4 : k = 4
  · subst h4
    rw [if_pos rfl]
    obtain ⟨u, v, rfl, hu, hv⟩ := may_op hm
    have ru : APure Try.prog 57 [u.av, .vsl (kns l)] (vi (wayT (atK l) u)) := ih u (by simp) (hks u (by simp)) hu
    have rv : APure Try.prog 57 [v.av, .vsl (kns l)] (vi (wayT (atK l) v)) := ih v (by simp) (hks v (by simp)) hv
    have cu := rcon8_ok u (hks u (by simp)) hu
    have cv := rcon8_ok v (hks v (by simp)) hv
    have ho := rop8_ok l hlen 4 n a b c d w u v _ _ _ _ _ _ (wayT_in hF u) (wayT_in hF v) ru rv cu cv
    simp only [wayTs, List.headD, List.tail]
    generalize wayT (atK l) u = wu at *
    generalize wayT (atK l) v = wv at *
    generalize opW w wu wv (numB u) (numZ u) (numB v) (numZ v) = r at *
    obtain ⟨tk, tn, ta, tb, tc, td, tw, tks⟩ := u
    obtain ⟨vk, vn, va, vb', vc, vd, vw, vks⟩ := v
    clear ru rv cu cv ih
    simp only [Tree.av, avs] at ho ⊢
    refine apure_of Try.func57 Try.ntmps57 rfl ?_
    simp only [List.length_cons, List.length_nil, List.cons_append, List.nil_append, List.replicate]
    repeat' (first
      | refine aw_seq ?_
      | (refine aw_run [] ?_; try simp -implicitDefEqProofs (maxSteps := 1000000))
      | ((first | refine awl_skip' [] rfl ?_ | refine awl_pure_guard [] rfl rfl rfl (by first | assumption | kernel_rfl) rfl (fun hc => by first | exact ho) (by simp) (by simp) (by simp) ?_ | refine awl_pure' [] rfl rfl rfl (by first | assumption | kernel_rfl) rfl (by first | exact ho) (by simp) (by simp) ?_ | refine aw_skip ?_ | refine aw_exit ?_); try simp -implicitDefEqProofs (maxSteps := 1000000))
      | (refine aw_cond rfl (fun h => ?_) (fun h => ?_) <;> try (with_reducible first | exact ff_tt h | exact tt_ff h))
      | refine aw_block ?_
      | refine aw_ret (ret_of (.inr rfl) (by simp [Try.results57]; rfl) (Fin.of ?_))
      | refine ret_of (.inl rfl) (by simp [Try.results57]; rfl) (Fin.of ?_))
    all_goals first | (simp [tupOf]; done) | trace_state
  rw [if_neg h4]
  by_cases h5 : k = 5
  · subst h5
    rw [if_pos rfl, Tree.av]
    obtain ⟨hpos, hmk⟩ := may_call hm
    by_cases hcw : w = bCOUNT
    · subst hcw
      rw [if_pos rfl]
      refine apure_of Try.func57 Try.ntmps57 rfl ?_
      simp only [List.length_cons, List.length_nil, List.cons_append, List.nil_append, List.replicate]
      repeat' (first
        | refine aw_seq ?_
        | (refine aw_run [] ?_; try simp -implicitDefEqProofs (maxSteps := 1000000) [bCOUNT])
        | ((first | refine awl_skip' [] rfl ?_ | refine aw_skip ?_ | refine aw_exit ?_); try simp -implicitDefEqProofs (maxSteps := 1000000) [bCOUNT])
        | (refine aw_cond rfl (fun h => ?_) (fun h => ?_) <;> try (with_reducible first | exact ff_tt h | exact tt_ff h))
        | refine aw_block ?_
        | refine aw_ret (ret_of (.inr rfl) (by simp [Try.results57]; rfl) (Fin.of ?_))
        | refine ret_of (.inl rfl) (by simp [Try.results57]; rfl) (Fin.of ?_))
      all_goals first | (simp [tupOf]; done) | trace_state
    · rw [if_neg hcw]
      have hcw' := hcw
      unfold bCOUNT at hcw'
      rw [wayTs_map]
      obtain ⟨W, hW⟩ : ∃ W, W = ks.map (wayT (atK l)) := ⟨_, rfl⟩
      have hWl : W.length = ks.length := by rw [hW, List.length_map]
      rw [← hW]
      obtain ⟨hd, hhd⟩ : ∃ hd, hd = W.headD 0 := ⟨_, rfl⟩
      rw [← hhd]
      refine apure_of Try.func57 Try.ntmps57 rfl ?_
      simp only [List.length_cons, List.length_nil, List.cons_append, List.nil_append, List.replicate]
      repeat' (first
        | refine aw_seq ?_
        | (refine aw_run [] ?_; try simp -implicitDefEqProofs (maxSteps := 1000000) [hcw', hl])
        | ((first | refine awl_skip' [] rfl ?_ | refine aw_skip ?_ | refine aw_exit ?_); try simp -implicitDefEqProofs (maxSteps := 1000000) [hcw', hl])
        | (refine aw_cond rfl (fun h => ?_) (fun h => ?_) <;> try (with_reducible first | exact ff_tt h | exact tt_ff h))
        | refine aw_block ?_
        | refine aw_ret (ret_of (.inr rfl) (by simp [Try.results57]; rfl) (Fin.of ?_))
        | refine ret_of (.inl rfl) (by simp [Try.results57]; rfl) (Fin.of ?_))
      refine aw_loopW [1, 2, 8, 9] (fun q fr σ => ∃ i N : Nat, i + q = ks.length ∧ (w = bIF → 0 < i → hd = 0) ∧ σ = mkSt [] [] N ∧ fr = frm 88 [(1, .vsl (kns l)), (2, .vel [.agg [vi 5, vi n, vi a, vi b, vi c, vi d, vs w, .vsl (avs ks)]] 0 0), (8, vi (joinW (W.take i))), (9, vi (i : Nat))]) ks.length ?_ ?_
      · exact ⟨_, le_mkSt (bs := []) (ss := []) (n := 0) (by simp) (by simp) (by simp [σ0]), 0, 0, by omega, fun _ h => absurd h (by omega), rfl, by simp [joinW, hl]⟩
      · rintro q fr σ ⟨i, N, hi, hif, rfl, rfl⟩
        simp -implicitDefEqProofs
        by_cases hlt : i < ks.length
        · have hlti : (i : Int) < ks.length := by omega
          obtain ⟨t, ht⟩ : ∃ t, ks[i] = t := ⟨_, rfl⟩
          have hmem : t ∈ ks := ht ▸ List.getElem_mem hlt
          have hr : APure Try.prog 57 [t.av, .vsl (kns l)] (vi (wayT (atK l) t)) := ih t hmem (hks t hmem) (hmk t hmem)
          have hg := avs_get hlt
          rw [ht] at hg
          have hla : i < (avs ks).length := by omega
          have wi : IntKind.i64.wrap ((i : Int) + 1) = (i : Int) + 1 := wrap_id (by omega) (by omega)
          have hWi : W[i]? = some (wayT (atK l) t) := by rw [hW, List.getElem?_map, List.getElem?_eq_getElem hlt, ht]; rfl
          have hjn : joinW (W.take (i + 1)) = twoW (joinW (W.take i)) (wayT (atK l) t) := by rw [List.take_add_one, hWi]; exact joinW_snoc _ _
          have hW0 : i = 0 → hd = wayT (atK l) t := fun e => by rw [hhd]; subst e; cases W with | nil => cases hWi | cons x xs => simpa using hWi
          generalize wayT (atK l) t = wt at *
          generalize joinW (W.take i) = jw at *
          obtain ⟨tk, tn, ta, tb, tc, td, tw, tks⟩ := t
          rw [Tree.av] at hr hg
          repeat' (first
            | refine aw_seq ?_
            | (refine aw_run [] ?_; try simp -implicitDefEqProofs (maxSteps := 1000000) [hlti, hl, hla, hg, wi])
            | ((first | refine awl_skip' [] rfl ?_ | refine awl_pure_guard [] rfl rfl rfl (by first | assumption | kernel_rfl) rfl (fun hc => by first | exact hr | exact rtwo8_ok _ _) (by simp) (by simp) (by simp) ?_ | refine awl_pure' [] rfl rfl rfl (by first | assumption | kernel_rfl) rfl (by first | exact hr | exact rtwo8_ok _ _) (by simp) (by simp) ?_ | refine aw_skip ?_ | refine aw_exit ?_); try simp -implicitDefEqProofs (maxSteps := 1000000) [hlti, hl, hla, hg, wi])
            | (refine aw_cond rfl (fun h => ?_) (fun h => ?_) <;> try (with_reducible first | exact ff_tt h | exact tt_ff h))
            | refine aw_block ?_
            | refine aw_ret (ret_of (.inr rfl) (by simp [Try.results57]; rfl) (Fin.of ?_))
            | refine ret_of (.inl rfl) (by simp [Try.results57]; rfl) (Fin.of ?_))
          · simp only [Bool.and_eq_true, Bool.not_eq_true', decide_eq_true_eq, decide_eq_false_iff_not] at h
            rw [if_pos ⟨h.1.1, by rw [hW0 h.1.2]; exact h.2⟩]
            simp [tupOf]
          · refine ⟨q - 1, by omega, mkSt [] [] N, le_mkSt (by simp) (by simp) (Nat.le_refl _), i + 1, by omega, fun e _ => ?_, ⟨_, rfl⟩, hjn.symm, by omega⟩
            by_cases hi0 : i = 0
            · have e' : w = ⟨#[73, 70]⟩ := e
              simp [e', hi0] at h
              rw [hW0 hi0]; exact h
            · exact hif e (by omega)
        · have hlti : ¬ (i : Int) < ks.length := by omega
          rw [List.take_of_length_le (by omega)]
          rw [if_neg (fun h => h.2 (hif h.1 (by omega)))]
          repeat' (first
            | refine aw_seq ?_
            | (refine aw_run [] ?_; try simp -implicitDefEqProofs (maxSteps := 1000000) [hlti, hl])
            | ((first | refine awl_skip' [] rfl ?_ | refine aw_skip ?_ | refine aw_exit ?_); try simp -implicitDefEqProofs (maxSteps := 1000000) [hlti, hl])
            | (refine aw_cond rfl (fun h => ?_) (fun h => ?_) <;> try (with_reducible first | exact ff_tt h | exact tt_ff h))
            | refine aw_block ?_
            | refine aw_ret (ret_of (.inr rfl) (by simp [Try.results57]; rfl) (Fin.of ?_))
            | refine ret_of (.inl rfl) (by simp [Try.results57]; rfl) (Fin.of ?_))
          all_goals first | (simp [tupOf]; done) | trace_state
  rw [if_neg h5, Tree.av]
  refine apure_of Try.func57 Try.ntmps57 rfl ?_
  simp only [List.length_cons, List.length_nil, List.cons_append, List.nil_append, List.replicate]
  repeat' (first
    | refine aw_seq ?_
    | (refine aw_run [] ?_; try simp -implicitDefEqProofs (maxSteps := 1000000) [h1, h3, h4, h5, h6])
    | ((first | refine awl_skip' [] rfl ?_ | refine aw_skip ?_ | refine aw_exit ?_); try simp -implicitDefEqProofs (maxSteps := 1000000) [h1, h3, h4, h5, h6])
    | (refine aw_cond rfl (fun h => ?_) (fun h => ?_) <;> try (with_reducible first | exact ff_tt h | exact tt_ff h))
    | refine aw_block ?_
    | refine aw_ret (ret_of (.inr rfl) (by simp [Try.results57]; rfl) (Fin.of ?_))
    | refine ret_of (.inl rfl) (by simp [Try.results57]; rfl) (Fin.of ?_))
  all_goals first | (simp [tupOf]; done) | trace_state
end Go.AL
