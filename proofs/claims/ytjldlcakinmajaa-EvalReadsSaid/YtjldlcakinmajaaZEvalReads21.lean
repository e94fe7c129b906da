/- Parts of the proof of EvalReads: the logic, contracts, plain laws. -/
import Derived.Test.YtjldlcakinmajaaZEvalReads20
import Derived.Test.YtjldlcakinmajaaZEvalReads14
import Derived.Test.YtjldlcakinmajaaZEvalReads6
import Derived.Test.YtjldlcakinmajaaZEvalReads12
import Derived.Test.YtjldlcakinmajaaZEvalReads19
import Derived.Laws.FloatArith
import Derived.Laws.ComplexArith
/-! The program's 'right' is the document's. -/
namespace Go.AL
open Go.Proofs
set_option linter.unusedSimpArgs false
set_option linter.unusedVariables false
theorem str_lvl (w : ByteArray) : strT w < 3 ↔ 0 < lvl w := by
  have e0 : 0 ≤ idxS w mk0 0 ↔ w = ⟨#[60]⟩ ∨ w = ⟨#[60, 61]⟩ ∨ w = ⟨#[61]⟩ ∨ w = ⟨#[60, 62]⟩ ∨ w = ⟨#[62, 61]⟩ ∨ w = ⟨#[62]⟩ := by rw [idxS_iff]; simp [mk0]
  have e1 : 0 ≤ idxS w mk1 0 ↔ w = ⟨#[43]⟩ ∨ w = ⟨#[45]⟩ := by rw [idxS_iff]; simp [mk1]
  have e2 : 0 ≤ idxS w mk2 0 ↔ w = ⟨#[42]⟩ ∨ w = ⟨#[47]⟩ := by rw [idxS_iff]; simp [mk2]
  unfold strT lvl
  by_cases h0 : 0 ≤ idxS w mk0 0
  · rw [if_pos h0, if_pos (e0.1 h0)]; decide
  rw [if_neg h0, if_neg (fun h => h0 (e0.2 h))]
  by_cases h1 : 0 ≤ idxS w mk1 0
  · rw [if_pos h1, if_pos (e1.1 h1)]; decide
  rw [if_neg h1, if_neg (fun h => h1 (e1.2 h))]
  by_cases h2 : 0 ≤ idxS w mk2 0
  · rw [if_pos h2, if_pos (e2.1 h2)]; decide
  · rw [if_neg h2, if_neg (fun h => h2 (e2.2 h))]; decide
def Base (k n a b c d : Int) (w : ByteArray) : Prop := (k = 0 ∨ n = 0) ∧ (k = 1 ∨ k = 6 ∨ (a = 0 ∧ b = 0 ∧ c = 0 ∧ d = 0)) ∧ (k = 4 ∨ k = 5 ∨ w = ⟨#[]⟩)
theorem only_iff (k n a b c d : Int) (w : ByteArray) (ks : List Tree) (m : Int) : onlyB (.mk k n a b c d w ks) m = true ↔ Base k n a b c d w ∧ (ks.length : Int) = m := by
  simp only [onlyB, Base, Bool.and_eq_true, Bool.or_eq_true, decide_eq_true_eq]
  constructor
  · rintro ⟨⟨⟨h1, h2⟩, h3⟩, h4⟩
    refine ⟨⟨h1, ?_, ?_⟩, h4⟩
    · rcases h2 with (h | h) | h
      · exact .inl h
      · exact .inr (.inl h)
      · exact .inr (.inr ⟨h.1.1.1, h.1.1.2, h.1.2, h.2⟩)
    · rcases h3 with (h | h) | h
      · exact .inl h
      · exact .inr (.inl h)
      · exact .inr (.inr h)
  · rintro ⟨⟨h1, h2, h3⟩, h4⟩
    refine ⟨⟨⟨h1, ?_⟩, ?_⟩, h4⟩
    · rcases h2 with h | h | h
      · exact .inl (.inl h)
      · exact .inl (.inr h)
      · exact .inr ⟨⟨⟨h.1, h.2.1⟩, h.2.2.1⟩, h.2.2.2⟩
    · rcases h3 with h | h | h
      · exact .inl (.inl h)
      · exact .inl (.inr h)
      · exact .inr h
theorem bare_iff (k n a b c d : Int) (w : ByteArray) (ks : List Tree) : (bareT (.mk k n a b c d w ks)).words = (n, (a, b, c, d), w) ↔ Base k n a b c d w := by
  simp only [bareT, Tree.words, Prod.mk.injEq, Base]
  by_cases h0 : k = 0 <;> by_cases h1 : k = 1 <;> by_cases h6 : k = 6 <;> by_cases h4 : k = 4 <;> by_cases h5 : k = 5 <;> simp [h0, h1, h6, h4, h5, eq_comm] <;> (try omega) <;> (try (constructor <;> (intro h; simp_all)))
theorem own_iff (k n a b c d : Int) (w : ByteArray) (ks : List Tree) : ownK (.mk k n a b c d w ks) = true ↔ Base k n a b c d w ∧
    (if k = 0 then ks.length = 0 ∧ 0 ≤ n
    else if k = 1 then ks.length = 0 ∧ rightP a b = true ∧ a = c ∧ b = d
    else if k = 2 then ks.length = 0
    else if k = 6 then ks.length = 0 ∧ wholeP a b c d = true
    else if k = 3 then ks.length = 1
    else if k = 4 then ks.length = 2 ∧ 0 < lvl w
    else k = 5 ∧ (if w = bIF then ks.length = 3 else isFn w = true ∧ 0 < ks.length)) := by
  rw [ownK]
  by_cases hb : (bareT (.mk k n a b c d w ks)).words = (n, (a, b, c, d), w)
  · rw [if_neg (by simpa using hb)]
    have hB := (bare_iff k n a b c d w ks).1 hb
    simp only [hB, true_and]
    by_cases h0 : k = 0
    · simp [h0]
    rw [if_neg h0, if_neg h0]
    by_cases h1 : k = 1
    · simp [h1, and_assoc]
    rw [if_neg h1, if_neg h1]
    by_cases h2 : k = 2
    · simp [h2]
    rw [if_neg h2, if_neg h2]
    by_cases h6 : k = 6
    · simp [h6]
    rw [if_neg h6, if_neg h6]
    by_cases h3 : k = 3
    · simp [h3]
    rw [if_neg h3, if_neg h3]
    by_cases h4 : k = 4
    · simp [h4, str_lvl]
    rw [if_neg h4, if_neg h4]
    by_cases hw : w = bIF
    · simp [hw]
    rw [if_neg hw, if_neg hw]
    by_cases hf : isFn w = true
    · simp [hf]
    · simp [hf]
  · rw [if_pos (by simpa using hb)]
    exact ⟨fun h => (by cases h), fun h => absurd ((bare_iff k n a b c d w ks).2 h.1) hb⟩
theorem pass_iff (sp co m : Bool) (k : Int) : passB sp co m k = true ↔ m = true ∧ (sp = true ∨ k ≠ 6) ∧ (co = false ∨ k = 6 ∨ k = 2) := by
  unfold passB
  cases sp <;> cases co <;> cases m <;> by_cases h6 : k = 6 <;> by_cases h2 : k = 2 <;> simp [h6, h2]
theorem may_own (k n a b c d : Int) (w : ByteArray) (ks : List Tree) : mayB (.mk k n a b c d w ks) = true ↔ ownK (.mk k n a b c d w ks) = true ∧ ∀ u ∈ ks, fitsK (.mk k n a b c d w ks) u = true ∧ mayB u = true := by
  have hall : ∀ sp co, allB sp co ks = true ↔ ∀ u ∈ ks, mayB u = true ∧ (sp = true ∨ u.kind ≠ 6) ∧ (co = false ∨ u.kind = 6 ∨ u.kind = 2) := fun sp co => by
    rw [allB_all, List.all_eq_true]
    exact forall_congr' fun u => imp_congr_right fun _ => pass_iff _ _ _ _
  have hnil : ks.length = 0 → ∀ u ∈ ks, fitsK (.mk k n a b c d w ks) u = true ∧ mayB u = true := fun h u hu => by
    rw [List.length_eq_zero_iff.1 h] at hu; cases hu
  have hlen : ∀ m : Nat, ((ks.length : Int) = m) ↔ ks.length = m := fun m => by omega
  rw [own_iff, mayB]
  by_cases h0 : k = 0
  · rw [if_pos h0, if_pos h0, Bool.and_eq_true, only_iff, decide_eq_true_eq]
    exact ⟨fun h => ⟨⟨h.1.1, by have := h.1.2; omega, h.2⟩, hnil (by have := h.1.2; omega)⟩, fun h => ⟨⟨h.1.1, by have := h.1.2.1; omega⟩, h.1.2.2⟩⟩
  rw [if_neg h0, if_neg h0]
  by_cases h1 : k = 1
  · rw [if_pos h1, if_pos h1]
    simp only [Bool.and_eq_true, only_iff, decide_eq_true_eq]
    exact ⟨fun h => ⟨⟨h.1.1.1, by have := h.1.1.2; omega, h.1.2, h.2⟩, hnil (by have := h.1.1.2; omega)⟩, fun h => ⟨⟨⟨h.1.1, by have := h.1.2.1; omega⟩, h.1.2.2.1⟩, h.1.2.2.2⟩⟩
  rw [if_neg h1, if_neg h1]
  by_cases h2 : k = 2
  · rw [if_pos h2, if_pos h2, only_iff]
    exact ⟨fun h => ⟨⟨h.1, by have := h.2; omega⟩, hnil (by have := h.2; omega)⟩, fun h => ⟨h.1.1, by have := h.1.2; omega⟩⟩
  rw [if_neg h2, if_neg h2]
  by_cases h6 : k = 6
  · rw [if_pos h6, if_pos h6]
    simp only [Bool.and_eq_true, only_iff]
    exact ⟨fun h => ⟨⟨h.1.1, by have := h.1.2; omega, h.2⟩, hnil (by have := h.1.2; omega)⟩, fun h => ⟨⟨h.1.1, by have := h.1.2.1; omega⟩, h.1.2.2⟩⟩
  rw [if_neg h6, if_neg h6]
  have hfit : k ≠ 5 → ∀ u, fitsK (.mk k n a b c d w ks) u = true ↔ u.kind ≠ 6 := fun h5 u => by
    rw [fitsK, if_neg (fun h => h5 h.1), if_neg (fun h => h5 h.1)]; simp only [Bool.not_eq_true', decide_eq_false_iff_not, ne_eq]
  by_cases h3 : k = 3
  · rw [if_pos h3, if_pos h3]
    simp only [Bool.and_eq_true, only_iff, hall, hfit (by omega)]
    exact ⟨fun h => ⟨⟨h.1.1, by have := h.1.2; omega⟩, fun u hu => ⟨((h.2 u hu).2.1).resolve_left (by decide), (h.2 u hu).1⟩⟩, fun h => ⟨⟨h.1.1, by have := h.1.2; omega⟩, fun u hu => ⟨(h.2 u hu).2, .inr (h.2 u hu).1, Or.inl (by trivial)⟩⟩⟩
  rw [if_neg h3, if_neg h3]
  by_cases h4 : k = 4
  · rw [if_pos h4, if_pos h4]
    simp only [Bool.and_eq_true, only_iff, hall, hfit (by omega), decide_eq_true_eq]
    exact ⟨fun h => ⟨⟨h.1.1.1, by have := h.1.1.2; omega, h.2⟩, fun u hu => ⟨((h.1.2 u hu).2.1).resolve_left (by decide), (h.1.2 u hu).1⟩⟩, fun h => ⟨⟨⟨h.1.1, by have := h.1.2.1; omega⟩, fun u hu => ⟨(h.2 u hu).2, .inr (h.2 u hu).1, Or.inl (by trivial)⟩⟩, h.1.2.2⟩⟩
  rw [if_neg h4, if_neg h4]
  by_cases h5 : k = 5
  · rw [if_pos h5]
    simp only [h5, true_and]
    by_cases hw : w = bIF
    · have hc : ¬ w = bCOUNT := by rw [hw]; decide
      rw [if_pos hw, if_pos hw]
      have hf : ∀ u, fitsK (.mk 5 n a b c d w ks) u = true ↔ u.kind ≠ 6 := fun u => by
        rw [fitsK, if_neg (fun h => hc h.2), if_neg (fun h => h.2 hw)]; simp only [Bool.not_eq_true', decide_eq_false_iff_not, ne_eq]
      simp only [Bool.and_eq_true, only_iff, hall, hf, decide_eq_true_eq, h5]
      have e1 : (!decide (w = bIF)) = false := by simp [hw]
      have e2 : decide (w = bCOUNT) = false := by simp [hc]
      rw [e1, e2]
      exact ⟨fun h => ⟨⟨h.1.1.1, by have := h.2; omega⟩, fun u hu => ⟨((h.1.2 u hu).2.1).resolve_left (by decide), (h.1.2 u hu).1⟩⟩, fun h => ⟨⟨⟨h.1.1, trivial⟩, fun u hu => ⟨(h.2 u hu).2, .inr (h.2 u hu).1, Or.inl (by trivial)⟩⟩, by have := h.1.2; omega⟩⟩
    · rw [if_neg hw, if_neg hw]
      by_cases hfn : isFn w = true
      · rw [if_pos hfn]
        have e1 : (!decide (w = bIF)) = true := by simp [hw]
        simp only [Bool.and_eq_true, only_iff, hall, decide_eq_true_eq, h5, hfn, true_and]
        rw [e1]
        by_cases hc : w = bCOUNT
        · have e2 : decide (w = bCOUNT) = true := by simp [hc]
          have hf : ∀ u, fitsK (.mk 5 n a b c d w ks) u = true ↔ u.kind = 6 ∨ u.kind = 2 := fun u => by
            rw [fitsK, if_pos ⟨rfl, hc⟩]; simp only [Bool.or_eq_true, decide_eq_true_eq]
          rw [e2]
          simp only [hf]
          exact ⟨fun h => ⟨⟨h.1.1.1, by have := h.2; omega⟩, fun u hu => ⟨((h.1.2 u hu).2.2).resolve_left (by decide), (h.1.2 u hu).1⟩⟩, fun h => ⟨⟨⟨h.1.1, trivial⟩, fun u hu => ⟨(h.2 u hu).2, Or.inl (by trivial), .inr (h.2 u hu).1⟩⟩, by have := h.1.2; omega⟩⟩
        · have e2 : decide (w = bCOUNT) = false := by simp [hc]
          have hf : ∀ u, fitsK (.mk 5 n a b c d w ks) u = true := fun u => by
            rw [fitsK, if_neg (fun h => hc h.2), if_pos ⟨rfl, hw⟩]
          rw [e2]
          simp only [hf]
          exact ⟨fun h => ⟨⟨h.1.1.1, by have := h.2; omega⟩, fun u hu => ⟨trivial, (h.1.2 u hu).1⟩⟩, fun h => ⟨⟨⟨h.1.1, trivial⟩, fun u hu => ⟨(h.2 u hu).2, Or.inl (by trivial), Or.inl (by trivial)⟩⟩, by have := h.1.2; omega⟩⟩
      · rw [if_neg hfn]
        simp [hfn]
  · rw [if_neg h5]
    simp [h5]
theorem deeps_le {l : List Tree} {d : Nat} : deeps l ≤ d ↔ ∀ u ∈ l, deepT u ≤ d := by
  induction l with
  | nil => simp [deeps]
  | cons t l ih => rw [deeps]; simp only [List.mem_cons, forall_eq_or_imp, ← ih]; omega
theorem right_may : ∀ (d : Nat) (t : Tree), rightK d t = true ↔ deepT t ≤ d ∧ mayB t = true := by
  intro d
  induction d with
  | zero =>
    intro t
    obtain ⟨k, n, a, b, c, e, w, ks⟩ := t
    rw [rightK, deepT]; simp
  | succ d ih =>
    intro t
    obtain ⟨k, n, a, b, c, e, w, ks⟩ := t
    rw [rightK, Bool.and_eq_true, List.all_eq_true, may_own, deepT]
    simp only [Bool.and_eq_true, ih, Tree.kids]
    have : deeps ks + 1 ≤ d + 1 ↔ ∀ u ∈ ks, deepT u ≤ d := by rw [← deeps_le]; omega
    rw [this]
    exact ⟨fun h => ⟨fun u hu => (h.2 u hu).2.1, h.1, fun u hu => ⟨(h.2 u hu).1, (h.2 u hu).2.2⟩⟩, fun h => ⟨h.2.1, fun u hu => ⟨(h.2.2 u hu).1, h.1 u hu, (h.2.2 u hu).2⟩⟩⟩
/-- The program's answer is the document's. -/
theorem rightK_B (t : Tree) : (!decide (t.kind = 6) && rightK 16 t) = rightB t := by
  apply Bool.eq_iff_iff.2
  unfold rightB
  simp only [Bool.and_eq_true, decide_eq_true_eq, right_may]
  constructor
  · rintro ⟨h1, h2, h3⟩; exact ⟨⟨h2, h1⟩, h3⟩
  · rintro ⟨⟨h2, h1⟩, h3⟩; exact ⟨h1, h2, h3⟩
end Go.AL
/-! Contracts: gridironref02's lists. -/
namespace Go.AL
open Go.Proofs
set_option linter.unusedSimpArgs false
set_option linter.unusedVariables false
def pl (p : Int × Int) : AV := place p.1 p.2
end Go.AL
/-! Contracts: place.Cells. -/
namespace Go.AL
open Go.Proofs
set_option linter.unusedSimpArgs false
set_option linter.unusedVariables false
/-- A row's first n places. -/
def rowN (a y : Int) (n : Nat) : List (Int × Int) := (List.range n).map fun i : Nat => (a + (i : Int), y)
/-- The first n rows. -/
def gridN (a b : Int) (k n : Nat) : List (Int × Int) := (List.range n).flatMap fun j : Nat => rowN a (b + (j : Int)) k
def gridL (a b c d : Int) : List (Int × Int) := if wholeP a b c d = true then gridN a b (c - a + 1).toNat (d - b + 1).toNat else []
theorem rowN_succ (a y : Int) (n : Nat) : rowN a y (n + 1) = rowN a y n ++ [(a + (n : Int), y)] := by
  unfold rowN; rw [List.range_succ, List.map_append]; rfl
theorem rowN_len (a y : Int) (n : Nat) : (rowN a y n).length = n := by simp [rowN]
theorem gridN_succ (a b : Int) (k n : Nat) : gridN a b k (n + 1) = gridN a b k n ++ rowN a (b + (n : Int)) k := by
  unfold gridN; rw [List.range_succ, List.flatMap_append]; simp
theorem gridN_len (a b : Int) (k : Nat) : ∀ n : Nat, (gridN a b k n).length = n * k
  | 0 => by simp [gridN]
  | n + 1 => by rw [gridN_succ, List.length_append, gridN_len a b k n, rowN_len, Nat.succ_mul]
theorem whole_iff {a b c d : Int} : wholeP a b c d = true ↔ (0 ≤ a ∧ a ≤ c ∧ c < 16) ∧ (0 ≤ b ∧ b ≤ d ∧ d < 64) := by
  simp only [wholeP, rightP, withinP, Bool.and_eq_true, decide_eq_true_eq]; omega
set_option maxRecDepth 100000 in
theorem cells_ok (a b c d : Int) : APure Try.prog 56 [range a b c d] (.vsl ((gridL a b c d).map pl)) := by
  refine apure_in Try.func56 Try.ntmps56 rfl ?_
  refine aw_seq (aw_run [4] ?_)
  simp -implicitDefEqProofs
  refine aw_seq (aw_seq (aw_run [4] ?_))
  simp -implicitDefEqProofs
  refine awl_pure' [] rfl rfl rfl (by kernel_rfl) rfl (whole_ok a b c d) (by simp) (by simp) ?_
  simp -implicitDefEqProofs
  refine aw_cond rfl (fun h => ?_) (fun h => aw_skip ?_)
  · refine aw_seq (aw_run [4] ?_)
    simp -implicitDefEqProofs
    refine aw_ret (ret_of (.inr rfl) (by simp [Try.results56]; rfl) (Fin.vnil (Fin.of ?_)))
    have : wholeP a b c d = false := by simpa using h
    simp [gridL, this]
  · have hw : wholeP a b c d = true := by simpa using h
    have hb := whole_iff.1 hw
    have hG : gridL a b c d = gridN a b (c - a + 1).toNat (d - b + 1).toNat := if_pos hw
    rw [hG]
    obtain ⟨W, hW⟩ : ∃ W, W = (c - a + 1).toNat := ⟨_, rfl⟩
    obtain ⟨H, hH⟩ : ∃ H, H = (d - b + 1).toNat := ⟨_, rfl⟩
    rw [← hW, ← hH]
    refine aw_seq (aw_run [4] ?_)
    simp -implicitDefEqProofs
    refine aw_seq (aw_seq (aw_run [4] ?_))
    simp -implicitDefEqProofs
    refine aw_block (aw_open (i := 3) rfl ?_)
    refine aw_loopW [1, 3, 4] (fun n fr σ => ∃ k3 k4 m j : Nat, ∃ x : Int, j + n = H ∧ k3 < m ∧ k4 < m ∧ σ = mkSt [(k4, [vi x, vi (b + (j : Int))])] [(k3, (gridN a b W j).map pl)] m ∧ fr = frm 40 [(1, .vel [range a b c d] 0 0), (3, .hsl k3 0 (gridN a b W j).length), (4, .ptr k4 0)]) H ?_ ?_
    · refine ⟨mkSt [(0, [vi a, vi b])] [(1, [])] 2, le_mkSt (by simp [σ0]) (by simp [σ0]) (by simp [σ0]), 1, 0, 2, 0, a, by omega, by omega, by omega, by simp [gridN], ?_⟩
      simp [gridN, σ0]
    · rintro n0 fr σ ⟨k3, k4, m, j, x, hj, h3, h4, rfl, rfl⟩
      simp
      refine aw_seq (aw_seq (aw_run [4] ?_))
      simp -implicitDefEqProofs [List.lookup]
      refine aw_cond rfl (fun h => aw_skip ?_) (fun h => aw_exit ?_)
      · have hlt : j < H := by simp at h; omega
        have hny : IntKind.i64.wrap (b + (j : Int) + 1) = b + ((j + 1 : Nat) : Int) := by rw [wrap_id (by omega) (by omega)]; omega
        have hgl := gridN_len a b W j
        have hjW : j * W ≤ 64 * 16 := Nat.mul_le_mul (by omega) (by omega)
        have hm4 : ¬ k4 = m := by omega
        simp -implicitDefEqProofs [List.lookup]
        refine aw_seq (aw_block (aw_seq (aw_run [4] ?_)))
        simp -implicitDefEqProofs [List.lookup]
        refine aw_block (aw_loopW [1, 3, 4] (fun n fr σ => ∃ k3 m i : Nat, i + n = W ∧ k3 < m ∧ k4 < m ∧ σ = mkSt [(k4, [vi (a + (i : Int)), vi (b + (j : Int))])] [(k3, (gridN a b W j ++ rowN a (b + (j : Int)) i).map pl)] m ∧ fr = frm 40 [(1, .vel [range a b c d] 0 0), (3, .hsl k3 0 (j * W + i)), (4, .ptr k4 0)]) W ?_ ?_)
        · refine ⟨mkSt [(k4, [vi a, vi (b + (j : Int))])] [(k3, (gridN a b W j).map pl)] m, le_mkSt (by simp [List.lookup]) (by simp [List.lookup]) (by simp), k3, m, 0, by omega, by omega, by omega, by simp [rowN], ?_⟩
          simp [hgl]
        · rintro n fr σ ⟨k3, m, i, hi, h3, h4, rfl, rfl⟩
          have hm4 : ¬ k4 = m := by omega
          simp
          refine aw_seq (aw_seq (aw_run [4] ?_))
          simp -implicitDefEqProofs [List.lookup]
          refine aw_cond rfl (fun h => aw_skip ?_) (fun h => aw_exit ?_)
          · have hlt2 : i < W := by simp at h; omega
            have hnx : IntKind.i64.wrap (a + (i : Int) + 1) = a + ((i + 1 : Nat) : Int) := by rw [wrap_id (by omega) (by omega)]; omega
            simp -implicitDefEqProofs [List.lookup]
            repeat' (first
              | refine aw_seq ?_
              | (refine aw_run [4] ?_; try simp -implicitDefEqProofs (maxSteps := 1000000) [List.lookup])
              | ((first | refine awl_skip' [4] rfl ?_ | refine aw_skip ?_ | refine aw_exit ?_); try simp -implicitDefEqProofs (maxSteps := 1000000) [List.lookup])
              | (refine aw_cond rfl (fun h => ?_) (fun h => ?_) <;> try (with_reducible first | exact ff_tt h | exact tt_ff h))
              | refine aw_block ?_
              | refine aw_ret (ret_of (.inr rfl) (by simp [Try.results56]; rfl) (Fin.of ?_))
              | refine ret_of (.inl rfl) (by simp [Try.results56]; rfl) (Fin.of ?_))
            have hlen : (gridN a b W j ++ rowN a (b + (j : Int)) i).length = j * W + i := by rw [List.length_append, hgl, rowN_len]
            refine awl_append [4] rfl rfl rfl (xs := (gridN a b W j ++ rowN a (b + (j : Int)) i).map pl) (by simp [List.lookup]) (by rw [List.length_map, hlen]; omega) rfl (by simp) te44 tet44 tz24 rfl ?_ (by simp) (by simp; omega) (by simp; omega) ?_
            · intro y hy
              simp at hy
              rcases hy with ⟨_, _, _, rfl⟩ | ⟨_, _, _, rfl⟩ <;> rfl
            simp -implicitDefEqProofs [List.lookup, hm4]
            repeat' (first
              | refine aw_seq ?_
              | (refine aw_run [4] ?_; try simp -implicitDefEqProofs (maxSteps := 1000000) [List.lookup, hm4])
              | ((first | refine awl_skip' [4] rfl ?_ | refine aw_skip ?_ | refine aw_exit ?_); try simp -implicitDefEqProofs (maxSteps := 1000000) [List.lookup, hm4])
              | (refine aw_cond rfl (fun h => ?_) (fun h => ?_) <;> try (with_reducible first | exact ff_tt h | exact tt_ff h))
              | refine aw_block ?_
              | refine aw_ret (ret_of (.inr rfl) (by simp [Try.results56]; rfl) (Fin.of ?_))
              | refine ret_of (.inl rfl) (by simp [Try.results56]; rfl) (Fin.of ?_))
            refine ⟨n - 1, by omega, mkSt [(k4, [vi (a + ((i + 1 : Nat) : Int)), vi (b + (j : Int))])] [(m, (gridN a b W j ++ rowN a (b + (j : Int)) (i + 1)).map pl)] (m + 1), le_mkSt (by simp [List.lookup, hnx]) (by simp [List.lookup, rowN_succ, List.take_of_length_le, hgl, rowN_len, pl]) (by simp), m, m + 1, i + 1, by omega, by omega, by omega, by simp, rfl, by omega⟩
          · have : i = W := by simp at h; omega
            subst this
            simp -implicitDefEqProofs [List.lookup]
            refine aw_seq (aw_seq (aw_run [4] ?_))
            simp -implicitDefEqProofs [List.lookup]
            refine aw_run [4] ?_
            simp -implicitDefEqProofs [List.lookup]
            refine aw_run [4] ?_
            simp -implicitDefEqProofs [List.lookup]
            refine ⟨n0 - 1, by omega, mkSt [(m, [vi (a + (i : Int)), vi (b + ((j + 1 : Nat) : Int))])] [(k3, (gridN a b i (j + 1)).map pl)] (m + 1), le_mkSt (by simp [List.lookup, hny]) (by simp [List.lookup, gridN_succ]) (by simp), k3, m, m + 1, j + 1, by omega, by omega, by omega, ⟨_, rfl⟩, ?_⟩
            simp [gridN_len, Nat.succ_mul]
      · have : j = H := by simp at h; omega
        subst this
        simp -implicitDefEqProofs [List.lookup]
        refine aw_freeze (b := k3) (xs := (gridN a b W j).map pl) (by simp [List.lookup]) ?_
        simp [frz, frz1, frz0]
        repeat' first | refine aw_N [4] trivial trivial ?_ | refine aw_cond rfl (fun h => ?_) (fun h => ?_)
        simp [tupOf, List.take_of_length_le]
end Go.AL
/-! The cells of both are the same. -/
namespace Go.AL
open Go.Proofs
set_option linter.unusedSimpArgs false
set_option linter.unusedVariables false
theorem flatMap_cong {α β : Type} {l : List α} {f g : α → List β} (h : ∀ x ∈ l, f x = g x) : l.flatMap f = l.flatMap g := by
  induction l with
  | nil => rfl
  | cons x l ih => rw [List.flatMap_cons, List.flatMap_cons, h x (by simp), ih fun y hy => h y (by simp [hy])]
theorem gridL_len1 (a b c d : Int) : (gridL a b c d).length ≤ 1024 := by
  unfold gridL
  split
  · rename_i hw
    have := whole_iff.1 hw
    rw [gridN_len]
    exact Nat.le_trans (Nat.mul_le_mul (show (d - b + 1).toNat ≤ 64 by omega) (show (c - a + 1).toNat ≤ 16 by omega)) (by decide)
  · simp
end Go.AL
/-! Contracts: gridironref07.At; what a tree comes to. -/
namespace Go.AL
open Go.Proofs
set_option linter.unusedSimpArgs false
set_option linter.unusedVariables false
abbrev Cel := Int × Int × Int × Int
def cel (p : Cel) : AV := .agg [vi p.1, vi p.2.1, vi p.2.2.1, vi p.2.2.2]
def cels (l : List Cel) : List AV := l.map cel
@[simp] theorem cl_cels (l : List Cel) : (∀ c ∈ cels l, Cl c) = True := eq_true fun c hc => by
  obtain ⟨p, _, rfl⟩ := List.mem_map.1 hc
  exact .agg _ (by simp)
theorem cels_len (l : List Cel) : (cels l).length = l.length := List.length_map _
theorem cels_get {l : List Cel} {i : Nat} {a b n f : Int} (h : l[i]? = some (a, b, n, f)) : (cels l)[i]? = some (.agg [vi a, vi b, vi n, vi f]) := by rw [cels, List.getElem?_map, h]; rfl
/-- A value, as it goes on. -/
def cleanV (n f : Int) : Int × Int := if f = 0 then (n, 0) else (0, f)
/-- The value at a place: the first one. -/
def atE : List Cel → Int → Int → Option (Int × Int)
  | [], _, _ => none
  | (a, b, n, f) :: l, x, y => if a = x ∧ b = y then some (cleanV n f) else atE l x y
/-! ### what a tree comes to -/
def cellsT (t : Tree) : List (Int × Int) := match t with | .mk _ _ a b c d _ _ => gridL a b c d
def callE (w : ByteArray) (bad : Bool) (vs its : List (Int × Int)) : Int × Int :=
  if w = ⟨#[73, 70]⟩ then (if (vs.headD (0, 0)).2 ≠ 0 then vs.headD (0, 0) else if (vs.headD (0, 0)).1 ≠ 0 then vs.tail.headD (0, 0) else vs.tail.tail.headD (0, 0))
  else if w = ⟨#[83, 85, 77]⟩ then sumL its
  else if w = ⟨#[77, 73, 78]⟩ then lowL its
  else if w = ⟨#[77, 65, 88]⟩ then highL its
  else if bad = true then (0, 3) else ((its.length : Int), 0)
mutual
def evT (f : Int → Int → Option (Int × Int)) : Tree → Int × Int
  | .mk k n a b c d w ks =>
    if k = 0 then (n, 0)
    else if k = 1 then (f a b).getD (0, 0)
    else if k = 3 then (negN ((evTs f ks).headD (0, 0)).1 ((evTs f ks).headD (0, 0)).2, negFv ((evTs f ks).headD (0, 0)).1 ((evTs f ks).headD (0, 0)).2)
    else if k = 4 then (doN (doK w) ((evTs f ks).headD (0, 0)).1 ((evTs f ks).headD (0, 0)).2 ((evTs f ks).tail.headD (0, 0)).1 ((evTs f ks).tail.headD (0, 0)).2, doF (doK w) ((evTs f ks).headD (0, 0)).1 ((evTs f ks).headD (0, 0)).2 ((evTs f ks).tail.headD (0, 0)).1 ((evTs f ks).tail.headD (0, 0)).2)
    else if k = 5 then callE w (ks.any fun u => decide (u.kind = 2)) (evTs f ks) (itS f ks)
    else (0, 3)
def evTs (f : Int → Int → Option (Int × Int)) : List Tree → List (Int × Int)
  | [] => []
  | t :: ts => evT f t :: evTs f ts
def itS (f : Int → Int → Option (Int × Int)) : List Tree → List (Int × Int)
  | [] => []
  | t :: ts => (if t.kind = 6 then (cellsT t).filterMap (fun p => f p.1 p.2) else [evT f t]) ++ itS f ts
end
theorem evTs_map (f : Int → Int → Option (Int × Int)) : ∀ l, evTs f l = l.map (evT f)
  | [] => rfl
  | t :: ts => by rw [evTs, evTs_map f ts]; rfl
def itT (f : Int → Int → Option (Int × Int)) (t : Tree) : List (Int × Int) := if t.kind = 6 then (cellsT t).filterMap (fun p => f p.1 p.2) else [evT f t]
theorem itS_flat (f : Int → Int → Option (Int × Int)) : ∀ l, itS f l = l.flatMap (itT f)
  | [] => rfl
  | t :: ts => by rw [itS, itS_flat f ts]; rfl
theorem itT_len (f : Int → Int → Option (Int × Int)) (t : Tree) : (itT f t).length ≤ 1024 := by
  unfold itT
  split
  · refine Nat.le_trans (List.length_filterMap_le _ _) ?_
    obtain ⟨k, n, a, b, c, d, w, ks⟩ := t
    exact gridL_len1 a b c d
  · simp
theorem itS_len (f : Int → Int → Option (Int × Int)) : ∀ l, (itS f l).length ≤ 1024 * l.length
  | [] => by simp [itS]
  | t :: ts => by
    have h1 := itS_len f ts
    have h2 := itT_len f t
    have e : itS f (t :: ts) = itT f t ++ itS f ts := rfl
    rw [e, List.length_append, List.length_cons]
    omega
theorem in_zero : In64 0 := by unfold In64; simp
theorem z_in {b : Bool} {c : Int} (h : b = true → In64 c) : In64 (z b c) := by
  unfold z
  split
  · rename_i hb; exact h hb
  · exact in_zero
theorem zi_in (c : Int) : In64 (z (inI c) c) := z_in fun h => inI_iff.1 h
theorem one_in (b : Bool) : In64 (z b 1) := z_in fun _ => by unfold In64; simp
theorem do_in (k : Nat) (a fa b fb : Int) : In64 (doN k a fa b fb) := by
  unfold doN numK
  split
  · exact in_zero
  · repeat' split
    all_goals first | exact in_zero | exact zi_in _ | exact one_in _
theorem neg_in (a fa : Int) : In64 (negN a fa) := by
  unfold negN z
  split
  · split
    · rename_i h; exact inI_iff.1 h
    · exact in_zero
  · exact in_zero
end Go.AL
/-! Contracts: gridironref07.items. -/
namespace Go.AL
open Go.Proofs
set_option linter.unusedSimpArgs false
set_option linter.unusedVariables false
theorem itS_append (f : Int → Int → Option (Int × Int)) (l m : List Tree) : itS f (l ++ m) = itS f l ++ itS f m := by simp [itS_flat]
theorem itS_take {f : Int → Int → Option (Int × Int)} {ks : List Tree} {i : Nat} {t : Tree} (h : ks[i]? = some t) : itS f (ks.take (i + 1)) = itS f (ks.take i) ++ itT f t := by
  rw [List.take_add_one, h, itS_append]; simp [itS_flat]
theorem fm_take {g : Int × Int → Option (Int × Int)} {C : List (Int × Int)} {j : Nat} {p : Int × Int} (h : C[j]? = some p) : (C.take (j + 1)).filterMap g = (C.take j).filterMap g ++ (g p).toList := by
  rw [List.take_add_one, h, List.filterMap_append]
  cases hg : g p <;> simp [hg]
theorem vls_okv (l : List (Int × Int)) : ∀ y ∈ l.map vl, y.cells.length = 2 := fun y hy => by
  obtain ⟨p, _, rfl⟩ := List.mem_map.1 hy
  rfl
theorem fm_len (g : Int × Int → Option (Int × Int)) (C : List (Int × Int)) (h : C.length ≤ 1024) (j : Nat) : ((C.take j).filterMap g).length ≤ 1024 :=
  Nat.le_trans (List.length_filterMap_le _ _) (by simp; omega)
@[simp] theorem cl_pl3 (l : List (Int × Int)) : (∀ c ∈ l.map pl, Cl c) = True := eq_true fun c hc => by
  obtain ⟨p, _, rfl⟩ := List.mem_map.1 hc
  exact .agg _ (by simp)
@[simp] theorem cl_pl4 (l : List (Int × Int)) : (∀ (c : AV) (x y : Int), (x, y) ∈ l → pl (x, y) = c → Cl c) = True := eq_true fun c x y _ h => by
  rw [← h]; exact .agg _ (by simp)
end Go.AL
/-! Contracts: gridironref07.call, come, Of. -/
namespace Go.AL
open Go.Proofs
set_option linter.unusedSimpArgs false
set_option linter.unusedVariables false
theorem bestV_in (ah : Int → Int → Bool) (l : List (Int × Int)) (h : ∀ v ∈ l, In64 v.1) : In64 (bestV ah l).1 := by
  have hf : ∀ (l : List (Int × Int)) (x : Int × Int), In64 x.1 → (∀ v ∈ l, In64 v.1) → In64 (l.foldl (bstS ah) x).1 := by
    intro l
    induction l with
    | nil => intro x hx _; exact hx
    | cons y l ih =>
      intro x hx hl
      refine ih _ ?_ fun v hv => hl v (List.mem_cons_of_mem _ hv)
      unfold bstS
      split
      · exact hl y List.mem_cons_self
      · exact hx
  unfold bestV
  split
  · exact in_zero
  · cases l with
    | nil => exact in_zero
    | cons x xs => exact hf xs x (h x List.mem_cons_self) fun v hv => h v (List.mem_cons_of_mem _ hv)
theorem may_kids7 {k n a b c d : Int} {w : ByteArray} {ks : List Tree} (h : mayB (.mk k n a b c d w ks) = true) : ∀ u ∈ ks, mayB u = true := fun u hu => (((may_own _ _ _ _ _ _ _ _).1 h).2 u hu).2
theorem may_neg7 {n a b c d : Int} {w : ByteArray} {ks : List Tree} (h : mayB (.mk 3 n a b c d w ks) = true) : ∃ u, ks = [u] ∧ mayB u = true := by
  have h1 := ((own_iff _ _ _ _ _ _ _ _).1 ((may_own _ _ _ _ _ _ _ _).1 h).1).2
  obtain ⟨u, rfl⟩ := List.length_eq_one_iff.1 (show ks.length = 1 from h1)
  exact ⟨u, rfl, may_kids7 h u (by simp)⟩
theorem may_op7 {n a b c d : Int} {w : ByteArray} {ks : List Tree} (h : mayB (.mk 4 n a b c d w ks) = true) : ∃ u v, ks = [u, v] ∧ mayB u = true ∧ mayB v = true := by
  have h1 := ((own_iff _ _ _ _ _ _ _ _).1 ((may_own _ _ _ _ _ _ _ _).1 h).1).2
  obtain ⟨u, v, rfl⟩ : ∃ u v, ks = [u, v] := by
    have h2 : ks.length = 2 := h1.1
    match ks, h2 with
    | [u, v], _ => exact ⟨u, v, rfl⟩
  exact ⟨u, v, rfl, may_kids7 h u (by simp), may_kids7 h v (by simp)⟩
section
variable {f : Int → Int → Option (Int × Int)}
theorem its_in (hf : ∀ x y v, f x y = some v → In64 v.1) (ks : List Tree) (h : ∀ t ∈ ks, In64 (evT f t).1) : ∀ v ∈ itS f ks, In64 v.1 := by
  intro v hv
  rw [itS_flat] at hv
  obtain ⟨t, ht, hv⟩ := List.mem_flatMap.1 hv
  unfold itT at hv
  split at hv
  · obtain ⟨p, _, hp⟩ := List.mem_filterMap.1 hv
    exact hf _ _ _ hp
  · obtain rfl := List.mem_singleton.1 hv
    exact h t ht
theorem evs_head (ks : List Tree) (h : ∀ t ∈ ks, In64 (evT f t).1) : In64 ((evTs f ks).headD (0, 0)).1 := by
  cases ks with
  | nil => exact in_zero
  | cons t ts => exact h t List.mem_cons_self
theorem evs_tail (ks : List Tree) : (evTs f ks).tail = evTs f ks.tail := by cases ks <;> rfl
theorem call_in (hf : ∀ x y v, f x y = some v → In64 v.1) (w : ByteArray) (bad : Bool) (ks : List Tree) (hl : ks.length ≤ 1000000) (h : ∀ t ∈ ks, In64 (evT f t).1) : In64 (callE w bad (evTs f ks) (itS f ks)).1 := by
  have hi := its_in hf ks h
  have h2 : ∀ t ∈ ks.tail, In64 (evT f t).1 := fun t ht => h t (List.mem_of_mem_tail ht)
  have h3 : ∀ t ∈ ks.tail.tail, In64 (evT f t).1 := fun t ht => h2 t (List.mem_of_mem_tail ht)
  have hlen := itS_len f ks
  unfold callE
  rw [evs_tail, evs_tail]
  repeat' split
  · exact evs_head _ h
  · exact evs_head _ h2
  · exact evs_head _ h3
  · exact (sumL_ok _).1
  · exact bestV_in _ _ hi
  · exact bestV_in _ _ hi
  · exact in_zero
  · have h4 : 1024 * ks.length ≤ 1024 * 1000000 := Nat.mul_le_mul_left _ hl
    have h5 : (itS f ks).length ≤ 1024 * 1000000 := Nat.le_trans hlen h4
    show In64 (((itS f ks).length : Nat) : Int)
    unfold In64
    omega
theorem ev_in (hf : ∀ x y v, f x y = some v → In64 v.1) : ∀ t : Tree, t.In → tszT t ≤ 1000000 → In64 (evT f t).1 := by
  refine Tree.byKids fun k n a b c d w ks ih => ?_
  intro hin hsz
  rw [Tree.In, ins_all] at hin
  obtain ⟨_, hn, _, _, _, _, hw, hlk, hks⟩ := hin
  have hsum : tszs ks < tszT (.mk k n a b c d w ks) := by rw [tszT]; omega
  have hkl := len_le_tszs ks
  have hk : ∀ u ∈ ks, In64 (evT f u).1 := fun u hu => ih u hu (hks u hu) (by have := tszs_mem hu; omega)
  rw [evT]
  repeat' split
  · exact hn
  · cases hq : f a b with
    | none => exact in_zero
    | some v => exact hf _ _ _ hq
  · exact neg_in _ _
  · exact do_in _ _ _ _ _
  · exact call_in hf w _ ks (by omega) hk
  · exact in_zero
end
def NoBad (l : List Tree) : Prop := (l.any fun u => decide (u.kind = 2)) = false
theorem noBad_nil : NoBad [] := rfl
theorem noBad_snoc {l : List Tree} {t : Tree} (h : NoBad l) (ht : ¬ t.kind = 2) : NoBad (l ++ [t]) := by
  unfold NoBad at *
  rw [List.any_append, h, Bool.false_or, List.any_cons, List.any_nil, Bool.or_false]
  exact decide_eq_false ht
end Go.AL
/-! Contracts: shape.walk. -/
namespace Go.AL
open Go.Proofs
set_option linter.unusedSimpArgs false
set_option linter.unusedVariables false
section
set_option linter.unusedVariables false
variable (stp : List AV → Tree → List AV × Option Code) (xs : List Tree) (I : List AV → Prop) (fs : List AV) (lp : Loop)
end
end Go.AL
/-! Contracts: shape.parts. -/
namespace Go.AL
open Go.Proofs
set_option linter.unusedSimpArgs false
set_option linter.unusedVariables false
end Go.AL
/-! Contracts: shape.Size, Bads, Uses. -/
namespace Go.AL
open Go.Proofs
set_option linter.unusedSimpArgs false
set_option linter.unusedVariables false
end Go.AL
/-! Contracts: gridironref06.Reads. -/
namespace Go.AL
open Go.Proofs
set_option linter.unusedSimpArgs false
set_option linter.unusedVariables false
/-- The places of the first n indexes of which p holds. -/
def gridP (p : Nat → Bool) (n : Nat) : List (Int × Int) := ((List.range n).filter p).map fun i : Nat => (atC (i : Int), atR (i : Int))
theorem gridP_succ (p : Nat → Bool) (n : Nat) : gridP p (n + 1) = gridP p n ++ (if p n = true then [(atC n, atR n)] else []) := by
  unfold gridP
  rw [List.range_succ, List.filter_append, List.map_append]
  congr 1
  by_cases h : p n = true <;> simp [h]
theorem gridP_len (p : Nat → Bool) (n : Nat) : (gridP p n).length ≤ n := by
  unfold gridP
  rw [List.length_map]
  exact Nat.le_trans (List.length_filter_le _ _) (by simp)
def usesN (t : Tree) (i : Nat) : Bool := usesB (atC (i : Int)) (atR (i : Int)) t
set_option maxHeartbeats 8000000 in
set_option maxRecDepth 100000 in
theorem rReads_ok (t : Tree) (h : t.sh) (hs : tszT t ≤ 1000000000) : APure Try.prog 14 [t.av] (.vsl ((if rightB t = true then gridP (usesN t) 1024 else []).map pl)) := by
  have hu := fun x y => ruses_ok x y t h
  have hr := rright5_ok t h (by have := deep_le_size t; omega)
  generalize rightB t = rb at *
  have hus : ∀ i : Nat, usesN t i = usesB (atC (i : Int)) (atR (i : Int)) t := fun _ => rfl
  generalize usesN t = uN at *
  generalize hub : (fun x y => usesB x y t) = uB at *
  have hub2 : ∀ x y, usesB x y t = uB x y := fun x y => by rw [← hub]
  simp only [hub2] at hus hu
  obtain ⟨k, n, a, b, c, d, w, ks⟩ := t
  rw [Tree.av] at hr hu ⊢
  cases rb with
  | false =>
    refine apure_in Try.func14 Try.ntmps14 rfl ?_
    repeat' first | refine aw_M [6] trivial (And.intro @hr trivial) ?_ | refine aw_cond rfl (fun h => ?_) (fun h => ?_)
    refine aw_loopW [3, 4, 5] (fun q fr σ => q = 0 ∧ σ = mkSt [] [] 0 ∧ fr = frm 32 [(3, .p (.slice none 0 0)), (4, vb false), (5, vi 0)]) 0 ?_ ?_
    · exact ⟨_, le_mkSt (by simp) (by simp) (Nat.le_refl _), rfl, rfl, by simp⟩
    · rintro q fr σ ⟨rfl, rfl, rfl⟩
      simp -implicitDefEqProofs
      repeat' first | refine aw_M [6] trivial trivial ?_ | refine aw_cond rfl (fun h => ?_) (fun h => ?_)
      all_goals first | (simp [tupOf]; done) | trace_state
  | true =>
    refine apure_in Try.func14 Try.ntmps14 rfl ?_
    repeat' first | refine aw_M [6] trivial (And.intro @hr trivial) ?_ | refine aw_cond rfl (fun h => ?_) (fun h => ?_)
    refine aw_open (i := 3) rfl ?_
    refine aw_loopW [1, 3, 4, 5] (fun q fr σ => ∃ k' m i : Nat, i + q = 1024 ∧ k' < m ∧ σ = mkSt [] [(k', (gridP uN i).map pl)] m ∧ fr = frm 32 [(1, .vel [.agg [vi k, vi n, vi a, vi b, vi c, vi d, vs w, .vsl (avs ks)]] 0 0), (3, .hsl k' 0 (gridP uN i).length), (4, vb true), (5, vi (i : Nat))]) 1024 ?_ ?_
    · refine ⟨_, le_mkSt (bs := []) (ss := [(0, [])]) (n := 1) (by simp) (by simp) (by decide), 0, 1, 0, rfl, by decide, by simp [gridP], ?_⟩
      simp [gridP, σ0]
    · rintro q fr σ ⟨k', m, i, hi, hkm, rfl, rfl⟩
      have hlen := gridP_len uN i
      simp -implicitDefEqProofs
      by_cases hlt : i < 1024
      · have hlti : (i : Int) < 1024 := by omega
        have hnx : IntKind.i64.wrap ((i : Int) + 1) = (i : Int) + 1 := wrap_id (by omega) (by omega)
        have hu1 := hu (atC i) (atR i)
        rw [← hus] at hu1
        generalize huNi : uN i = ub at *
        repeat' first | refine aw_N [6] (And.intro @hlti @hnx) (And.intro @rat_ok (And.intro @hu1 trivial)) ?_ | refine aw_cond rfl (fun h => ?_) (fun h => ?_)
        · subst h
          refine awl_append [6] rfl rfl rfl (xs := (gridP uN i).map pl) (by simp) (by simp) rfl (by simp) te44 tet44 tz24 rfl ?_ (by simp) (by simp; omega) (by simp; omega) ?_
          · intro y hy
            simp at hy
            obtain ⟨_, _, _, rfl⟩ := hy
            rfl
          simp -implicitDefEqProofs
          repeat' first | refine aw_N [6] @hnx trivial ?_ | refine aw_cond rfl (fun h => ?_) (fun h => ?_)
          refine ⟨q - 1, by omega, _, le_mkSt (bs := []) (ss := [(m + 1, (((gridP uN i).map pl).take (gridP uN i).length) ++ [pl (atC i, atR i)])]) (n := m + 2) (by simp) (by simp [pl]) (Nat.le_refl _), m + 1, m + 2, i + 1, by omega, by omega, ?_, ?_⟩
          · rw [gridP_succ, if_pos huNi, List.map_append, List.take_of_length_le (by simp)]; rfl
          · rw [gridP_succ, if_pos huNi]
            simp
        · subst h
          refine ⟨q - 1, by omega, _, le_mkSt (bs := []) (ss := [(k', (gridP uN i).map pl)]) (n := m + 1) (by simp) (by simp) (Nat.le_refl _), k', m + 1, i + 1, by omega, by omega, ?_, ?_⟩
          · rw [gridP_succ, if_neg (by simp [huNi]), List.append_nil]
          · rw [gridP_succ, if_neg (by simp [huNi]), List.append_nil]
            simp
      · have hlti : ¬ (i : Int) < 1024 := by omega
        obtain rfl : i = 1024 := by omega
        refine aw_freeze (b := k') (xs := (gridP uN 1024).map pl) (by simp) ?_
        simp -implicitDefEqProofs [frz, frz1, frz0]
        repeat' first | refine aw_N [6] trivial trivial ?_ | refine aw_cond rfl (fun h => ?_) (fun h => ?_)
        all_goals first | (simp [tupOf, List.take_of_length_le]; done) | trace_state
end Go.AL
/-! Contracts: shape.Reads. -/
namespace Go.AL
open Go.Proofs
set_option linter.unusedSimpArgs false
set_option linter.unusedVariables false
def pidx (p : Int × Int) : Nat := (p.2 * 16 + p.1).toNat
def InP (p : Int × Int) : Prop := rightP p.1 p.2 = true
theorem InP.lt {p : Int × Int} (h : InP p) : 0 ≤ p.2 * 16 + p.1 ∧ pidx p < 1024 := by
  unfold InP rightP at h
  simp only [Bool.and_eq_true, decide_eq_true_eq] at h
  unfold pidx
  omega
@[simp] theorem cl_pl (l : List (Int × Int)) : (∀ c ∈ l.map pl, Cl c) = True := eq_true fun c hc => by
  obtain ⟨p, _, rfl⟩ := List.mem_map.1 hc
  exact .agg _ (by simp)
@[simp] theorem cl_pl' (l : List (Int × Int)) : (∀ (c : AV) (x y : Int), (x, y) ∈ l → pl (x, y) = c → Cl c) = True := eq_true fun c x y _ h => by
  rw [← h]; exact .agg _ (by simp)
theorem gridL_in {a b c d : Int} : ∀ p ∈ gridL a b c d, InP p := by
  intro p hp
  unfold gridL at hp
  split at hp
  · rename_i hw
    have := whole_iff.1 hw
    simp only [gridN, rowN, List.mem_flatMap, List.mem_map, List.mem_range] at hp
    obtain ⟨j, hj, i, hi, rfl⟩ := hp
    unfold InP rightP
    simp only [Bool.and_eq_true, decide_eq_true_eq]
    omega
  · cases hp
end Go.AL
namespace Go.Proofs.Ytjldlcakinmajaa.Flo
open Ieee
/-! ### whole numbers -/
abbrev F (n : Int) : Nat := floatOfInt .f64 n
end Go.Proofs.Ytjldlcakinmajaa.Flo
namespace Go.Proofs.Ytjldlcakinmajaa.Flo
open Ieee
end Go.Proofs.Ytjldlcakinmajaa.Flo
/-! Contracts: place, by points. -/
namespace Go.AL
open Go.Proofs Go.Proofs.Ytjldlcakinmajaa
set_option linter.unusedSimpArgs false
set_option linter.unusedVariables false
/-! ### points -/
def ordF (x y : Nat) : Option Ordering := FloatKind.f64.format.order x y
abbrev f16 : Nat := 4625196817309499392
abbrev f64c : Nat := 4634204016564240384
/-- Is the point at no place? -/
def Off (x y : Nat) : Prop := ordF x 0 = some .lt ∨ ordF x f16 = some .gt ∨ ordF x f16 = some .eq ∨ ordF y 0 = some .lt ∨ ordF y f64c = some .gt ∨ ordF y f64c = some .eq
instance (x y : Nat) : Decidable (Off x y) := by unfold Off; infer_instance
end Go.AL
/-! Contracts: shape.moved, Shift. -/
namespace Go.AL
open Go.Proofs
set_option linter.unusedSimpArgs false
set_option linter.unusedVariables false
end Go.AL
/-! Contracts: gridironref05.text, within, Print. -/
namespace Go.AL
open Go.Proofs
set_option linter.unusedSimpArgs false
set_option linter.unusedVariables false
@[simp] def Tree.word : Tree → ByteArray
  | .mk _ _ _ _ _ _ w _ => w
end Go.AL
/-! What the program's shapes are, and the document's: the same. -/
namespace Go.AL
open Go.Proofs
set_option linter.unusedSimpArgs false
set_option linter.unusedVariables false
theorem may_leaf {k n a b c d : Int} {w : ByteArray} {ks : List Tree} (h : mayB (.mk k n a b c d w ks) = true) (hk : k = 1 ∨ k = 6) : ks = [] := by
  have h1 := ((own_iff _ _ _ _ _ _ _ _).1 ((may_own _ _ _ _ _ _ _ _).1 h).1).2
  rcases hk with rfl | rfl
  · exact List.length_eq_zero_iff.1 h1.1
  · exact List.length_eq_zero_iff.1 h1.1
theorem may_kids {k n a b c d : Int} {w : ByteArray} {ks : List Tree} (h : mayB (.mk k n a b c d w ks) = true) : ∀ u ∈ ks, mayB u = true := fun u hu => (((may_own _ _ _ _ _ _ _ _).1 h).2 u hu).2
theorem rightB_may {t : Tree} (h : rightB t = true) : mayB t = true := by
  unfold rightB at h
  simp only [Bool.and_eq_true] at h
  exact h.2
theorem mem_gridL {a b c d : Int} {p : Int × Int} : p ∈ gridL a b c d ↔ hasP a b c d p.1 p.2 = true := by
  unfold gridL hasP
  by_cases hw : wholeP a b c d = true
  · rw [if_pos hw, hw]
    simp only [gridN, rowN, List.mem_flatMap, List.mem_map, List.mem_range, Bool.true_and, withinP, Bool.and_eq_true, decide_eq_true_eq]
    constructor
    · rintro ⟨j, hj, i, hi, rfl⟩
      have := whole_iff.1 hw
      simp only
      omega
    · intro h
      have := whole_iff.1 hw
      refine ⟨(p.2 - b).toNat, by omega, (p.1 - a).toNat, by omega, ?_⟩
      have e1 : a + ((p.1 - a).toNat : Int) = p.1 := by omega
      have e2 : b + ((p.2 - b).toNat : Int) = p.2 := by omega
      rw [e1, e2]
  · rw [if_neg hw, eq_false_of_ne_true hw]; simp
theorem idx_at {p : Int × Int} (h : InP p) : atC ((pidx p : Nat) : Int) = p.1 ∧ atR ((pidx p : Nat) : Int) = p.2 := by
  have h1 := h.lt
  unfold InP rightP at h
  simp only [Bool.and_eq_true, decide_eq_true_eq] at h
  unfold atC atR
  have h2 : 0 ≤ ((pidx p : Nat) : Int) ∧ ((pidx p : Nat) : Int) < 1024 := by omega
  rw [if_pos h2, if_pos h2]
  unfold pidx
  omega
end Go.AL
/-! Plain laws of what a tree comes to: it hangs on what is read alone; faults. -/
namespace Go.AL
open Go.Proofs
set_option linter.unusedSimpArgs false
set_option linter.unusedVariables false
theorem in_sh7 : ∀ t : Tree, t.In → t.sh := by
  refine Tree.byKids fun k n a b c d w ks ih => ?_
  intro h
  rw [Tree.In, ins_all] at h
  rw [Tree.sh, shs_all]
  exact ⟨h.2.2.2.2.2.2.2.1, fun t ht => ih t ht (h.2.2.2.2.2.2.2.2 t ht)⟩
theorem fits_size {t : Tree} (h : fitsB t = true) : tszT t ≤ 1000000 := by
  unfold fitsB at h
  simp only [Bool.and_eq_true, decide_eq_true_eq] at h
  omega
theorem cels_okv (l : List Cel) : ∀ y ∈ cels l, y.cells.length = 4 := fun y hy => by
  obtain ⟨p, _, rfl⟩ := List.mem_map.1 hy
  rfl
theorem cels_snoc (l : List Cel) (c : Cel) : cels (l ++ [c]) = cels l ++ [cel c] := by simp [cels]
theorem may_fits {k n a b c d : Int} {w : ByteArray} {ks : List Tree} (h : mayB (.mk k n a b c d w ks) = true) : ∀ u ∈ ks, fitsK (.mk k n a b c d w ks) u = true := fun u hu => (((may_own _ _ _ _ _ _ _ _).1 h).2 u hu).1
theorem may_kind {k n a b c d : Int} {w : ByteArray} {ks : List Tree} (h : mayB (.mk k n a b c d w ks) = true) : k = 0 ∨ k = 1 ∨ k = 2 ∨ k = 3 ∨ k = 4 ∨ k = 5 ∨ k = 6 := by
  have h1 := ((own_iff _ _ _ _ _ _ _ _).1 ((may_own _ _ _ _ _ _ _ _).1 h).1).2
  by_cases h0 : k = 0
  · exact .inl h0
  by_cases h2 : k = 1
  · exact .inr (.inl h2)
  by_cases h3 : k = 2
  · exact .inr (.inr (.inl h3))
  by_cases h4 : k = 3
  · exact .inr (.inr (.inr (.inl h4)))
  by_cases h5 : k = 4
  · exact .inr (.inr (.inr (.inr (.inl h5))))
  by_cases h6 : k = 6
  · exact .inr (.inr (.inr (.inr (.inr (.inr h6)))))
  rw [if_neg h0, if_neg h2, if_neg h3, if_neg h6, if_neg h4, if_neg h5] at h1
  exact .inr (.inr (.inr (.inr (.inr (.inl h1.1)))))
/-- A place that is used, by one of Kids. -/
theorem uses_kid {k n a b c d : Int} {w : ByteArray} {ks : List Tree} (hm : mayB (.mk k n a b c d w ks) = true) {u : Tree} (hu : u ∈ ks) {x y : Int} (h : usesB x y u = true) : usesB x y (.mk k n a b c d w ks) = true := by
  rw [usesB]
  by_cases hk : k = 1 ∨ k = 6
  · rw [may_leaf hm hk] at hu; cases hu
  · rw [if_neg hk, usesBs_any]; exact any_yes hu h
theorem uses_read {n a b c d : Int} {w : ByteArray} {ks : List Tree} (hm : mayB (.mk 1 n a b c d w ks) = true) : usesB a b (.mk 1 n a b c d w ks) = true := by
  have h1 : ks.length = 0 ∧ rightP a b = true ∧ a = c ∧ b = d := ((own_iff _ _ _ _ _ _ _ _).1 ((may_own _ _ _ _ _ _ _ _).1 hm).1).2
  obtain ⟨_, h2, rfl, rfl⟩ := h1
  rw [usesB, if_pos (.inl rfl)]
  simp [hasP, wholeP, withinP, h2]
theorem uses_in {x y : Int} : ∀ t, mayB t = true → usesB x y t = true → InP (x, y) := by
  refine Tree.byKids fun k n a b c d w ks ih => ?_
  intro hm h
  rw [usesB] at h
  split at h
  · exact gridL_in _ (mem_gridL.2 h)
  · rw [usesBs_any] at h
    obtain ⟨u, hu, h⟩ := List.any_eq_true.1 h
    exact ih u hu (may_kids hm u hu) h
/-- The places that are read. -/
theorem mem_reads {t : Tree} (hm : mayB t = true) (x y : Int) : (x, y) ∈ gridP (usesN t) 1024 ↔ usesB x y t = true := by
  unfold gridP
  simp only [List.mem_map, List.mem_filter, List.mem_range, Prod.mk.injEq]
  constructor
  · rintro ⟨i, ⟨_, h⟩, rfl, rfl⟩; exact h
  · intro h
    have hi := uses_in t hm h
    have e := idx_at hi
    refine ⟨pidx (x, y), ⟨hi.lt.2, ?_⟩, e.1, e.2⟩
    unfold usesN
    rw [e.1, e.2]; exact h
theorem filterMap_cong {α β : Type} {l : List α} {f g : α → Option β} (h : ∀ x ∈ l, f x = g x) : l.filterMap f = l.filterMap g := by
  induction l with
  | nil => rfl
  | cons x l ih => rw [List.filterMap_cons, List.filterMap_cons, h x List.mem_cons_self, ih fun y hy => h y (List.mem_cons_of_mem _ hy)]
/-- It hangs on the places that are used alone. -/
theorem ev_cong {f g : Int → Int → Option (Int × Int)} : ∀ t, mayB t = true → (∀ x y, usesB x y t = true → f x y = g x y) → evT f t = evT g t := by
  refine Tree.byKids fun k n a b c d w ks ih => ?_
  intro hm h
  have hk : ∀ u ∈ ks, evT f u = evT g u := fun u hu => ih u hu (may_kids hm u hu) fun x y e => h x y (uses_kid hm hu e)
  have e1 : evTs f ks = evTs g ks := by rw [evTs_map, evTs_map]; exact List.map_congr_left hk
  have e2 : itS f ks = itS g ks := by
    rw [itS_flat, itS_flat]
    refine flatMap_cong fun u hu => ?_
    unfold itT
    split
    · rename_i h6
      refine filterMap_cong fun p hp => h p.1 p.2 (uses_kid hm hu ?_)
      obtain ⟨uk, un, ua, ub, uc, ud, uw, us⟩ := u
      simp only [Tree.kind] at h6
      rw [usesB, if_pos (.inr h6)]
      exact mem_gridL.1 hp
    · rw [hk u hu]
  rw [evT, evT, e1, e2]
  by_cases h0 : k = 0
  · rw [if_pos h0, if_pos h0]
  rw [if_neg h0, if_neg h0]
  by_cases h1 : k = 1
  · subst h1
    rw [if_pos rfl, if_pos rfl, h a b (uses_read hm)]
  rw [if_neg h1, if_neg h1]
/-- What has a fault has no number. -/
def Cln (v : Int × Int) : Prop := v.2 ≠ 0 → v.1 = 0
theorem cln_z (v : Int × Int) (h : v.2 = 0) : Cln v := fun e => absurd h e
theorem bstF_mem (ah : Int → Int → Bool) (l : List (Int × Int)) : bstF ah l = (0, 0) ∨ bstF ah l ∈ l := by
  have hf : ∀ (l : List (Int × Int)) (x : Int × Int), l.foldl (bstS ah) x = x ∨ l.foldl (bstS ah) x ∈ l := by
    intro l
    induction l with
    | nil => exact fun x => .inl rfl
    | cons y l ih =>
      intro x
      rw [List.foldl_cons]
      rcases ih (bstS ah x y) with h | h
      · rw [h]
        unfold bstS
        split
        · exact .inr List.mem_cons_self
        · exact .inl rfl
      · exact .inr (List.mem_cons_of_mem _ h)
  cases l with
  | nil => exact .inl rfl
  | cons x xs =>
    rcases hf xs x with h | h
    · exact .inr (by show xs.foldl (bstS ah) x ∈ _; rw [h]; exact List.mem_cons_self)
    · exact .inr (List.mem_cons_of_mem _ h)
theorem best_cln (ah : Int → Int → Bool) (l : List (Int × Int)) : Cln (bestV ah l) := by
  unfold bestV
  split
  · exact fun _ => rfl
  · rename_i hn
    refine cln_z _ ?_
    rcases bstF_mem ah l with h | h
    · rw [h]
    · have := List.find?_eq_none.1 hn _ h
      simpa [isFault] using this
theorem do_cln (k : Nat) (a fa b fb : Int) : Cln (doN k a fa b fb, doF k a fa b fb) := by
  intro h
  unfold doF at h
  unfold doN
  simp only at h ⊢
  split
  · rfl
  · rename_i hc
    have h10 : ¬ k = 10 := fun e => hc (.inl e)
    have hfa : fa = 0 := Classical.byContradiction fun e => hc (.inr (.inl e))
    have hfb : fb = 0 := Classical.byContradiction fun e => hc (.inr (.inr e))
    rw [if_neg h10, if_neg (by simp [hfa]), if_neg (by simp [hfb])] at h
    unfold fltK at h
    unfold numK
    repeat' split at h
    all_goals first | (exfalso; exact h rfl) | skip
    all_goals simp_all [z]
theorem ev_cln {f : Int → Int → Option (Int × Int)} (hf : ∀ x y v, f x y = some v → Cln v) : ∀ t, Cln (evT f t) := by
  refine Tree.byKids fun k n a b c d w ks ih => ?_
  have h00 : Cln (0, 0) := cln_z _ rfl
  have hh : ∀ l : List Tree, (∀ u ∈ l, Cln (evT f u)) → Cln ((evTs f l).headD (0, 0)) := fun l h => by
    cases l with
    | nil => exact h00
    | cons u l => exact h u List.mem_cons_self
  have ht : ∀ u ∈ ks.tail, Cln (evT f u) := fun u hu => ih u (List.mem_of_mem_tail hu)
  have ht2 : ∀ u ∈ ks.tail.tail, Cln (evT f u) := fun u hu => ht u (List.mem_of_mem_tail hu)
  rw [evT]
  split
  · exact cln_z _ rfl
  split
  · cases h : f a b with
    | none => exact h00
    | some v => exact hf a b v h
  split
  · intro h
    unfold negFv at h
    unfold negN
    simp only at h ⊢
    split
    · rename_i h0
      rw [if_pos h0] at h
      cases hi : inI (-((evTs f ks).headD (0, 0)).1) with
      | true => rw [hi] at h; exact absurd rfl h
      | false => rfl
    · rfl
  split
  · exact do_cln _ _ _ _ _
  split
  · unfold callE
    rw [evs_tail, evs_tail]
    repeat' split
    · exact hh _ ih
    · exact hh _ ht
    · exact hh _ ht2
    · exact (sumL_ok _).2
    · exact best_cln _ _
    · exact best_cln _ _
    · exact fun _ => rfl
    · exact cln_z _ rfl
  · exact fun _ => rfl
/-- Fine, OVER, or DIV. -/
def Fv (n : Int) : Prop := n = 0 ∨ n = 1 ∨ n = 2
theorem do_fv {k : Nat} {a fa b fb : Int} (hk : k ≠ 10) (ha : Fv fa) (hb : Fv fb) : Fv (doF k a fa b fb) := by
  unfold doF
  rw [if_neg hk]
  split
  · exact ha
  split
  · exact hb
  unfold fltK z
  repeat' split
  all_goals first | exact .inl rfl | exact .inr (.inl rfl) | exact .inr (.inr rfl)
theorem sum_fv {l : List (Int × Int)} (h : ∀ v ∈ l, Fv v.2) : Fv (sumL l).2 := by
  have : ∀ (l : List (Int × Int)) (s : Int × Int), Fv s.2 → (∀ v ∈ l, Fv v.2) → Fv (l.foldl addS s).2 := by
    intro l
    induction l with
    | nil => exact fun s hs _ => hs
    | cons v l ih => exact fun s hs hl => ih _ (show Fv (doF 0 s.1 s.2 v.1 v.2) from do_fv (by decide) hs (hl v List.mem_cons_self)) fun u hu => hl u (List.mem_cons_of_mem _ hu)
  exact this l (0, 0) (.inl rfl) h
theorem best_fv {ah : Int → Int → Bool} {l : List (Int × Int)} (h : ∀ v ∈ l, Fv v.2) : Fv (bestV ah l).2 := by
  unfold bestV
  split
  · rename_i v hv; exact h v (List.mem_of_find?_eq_some hv)
  · rcases bstF_mem ah l with e | e
    · rw [e]; exact .inl rfl
    · exact h _ e
theorem cnt_kid {kd : Int} {u : Tree} : ∀ {ks : List Tree}, u ∈ ks → cnts kd ks = 0 → cntT kd u = 0
  | [], h, _ => by cases h
  | v :: ks, h, e => by
    rw [cnts] at e
    rcases List.mem_cons.1 h with rfl | h
    · omega
    · exact cnt_kid h (by omega)
theorem lvl_do {w : ByteArray} (h : 0 < lvl w) : doK w ≠ 10 := by
  unfold doK
  repeat' split
  all_goals first | decide | skip
  rename_i h1 h2 h3 h4 h5 h6 h7 h8 h9 h10
  exfalso
  unfold lvl at h
  simp [*] at h
theorem ev_fv {f : Int → Int → Option (Int × Int)} : ∀ t, mayB t = true → t.kind ≠ 6 → cntT 2 t = 0 → (∀ x y v, usesB x y t = true → f x y = some v → v.2 = 0) → Fv (evT f t).2 := by
  refine Tree.byKids fun k n a b c d w ks ih => ?_
  intro hm h6 hc hf
  simp only [Tree.kind] at h6
  have hkk := may_kind hm
  rw [cntT] at hc
  have hck : cnts 2 ks = 0 := by omega
  have h2 : k ≠ 2 := by intro e; rw [if_pos (.inr e)] at hc; omega
  have hkid : ∀ u ∈ ks, u.kind ≠ 6 → Fv (evT f u).2 := fun u hu h => ih u hu (may_kids hm u hu) h (cnt_kid hu hck) fun x y v e => hf x y v (uses_kid hm hu e)
  have h00 : Fv ((0, 0) : Int × Int).2 := .inl rfl
  have hh : ∀ l : List Tree, (∀ u ∈ l, u ∈ ks) → (∀ u ∈ ks, u.kind ≠ 6) → Fv ((evTs f l).headD (0, 0)).2 := fun l hl h => by
    cases l with
    | nil => exact h00
    | cons u l => exact hkid u (hl u List.mem_cons_self) (h u (hl u List.mem_cons_self))
  have hno : (k = 5 → w = bIF) → ∀ u ∈ ks, u.kind ≠ 6 := fun e u hu h => by
    have hfit := may_fits hm u hu
    simp only [fitsK] at hfit
    by_cases h5 : k = 5
    · have hw := e h5
      rw [if_neg (by rw [hw]; exact fun e => absurd e.2 (by decide)), if_neg (fun e => e.2 hw)] at hfit
      rw [h] at hfit; exact absurd hfit (by decide)
    · rw [if_neg (fun e => h5 e.1), if_neg (fun e => h5 e.1)] at hfit
      rw [h] at hfit; exact absurd hfit (by decide)
  have hits : ∀ v ∈ itS f ks, Fv v.2 := by
    intro v hv
    rw [itS_flat] at hv
    obtain ⟨u, hu, hv⟩ := List.mem_flatMap.1 hv
    unfold itT at hv
    split at hv
    · rename_i hu6
      obtain ⟨p, hp, hv⟩ := List.mem_filterMap.1 hv
      refine .inl (hf p.1 p.2 v (uses_kid hm hu ?_) hv)
      obtain ⟨uk, un, ua, ub, uc, ud, uw, us⟩ := u
      simp only [Tree.kind] at hu6
      rw [usesB, if_pos (.inr hu6)]
      exact mem_gridL.1 hp
    · rename_i hu6
      obtain rfl := List.mem_singleton.1 hv
      exact hkid u hu hu6
  rw [evT]
  by_cases h0 : k = 0
  · rw [if_pos h0]; exact .inl rfl
  rw [if_neg h0]
  by_cases h1 : k = 1
  · subst h1
    rw [if_pos rfl]
    cases h : f a b with
    | none => exact .inl rfl
    | some v => exact .inl (hf a b v (uses_read hm) h)
  rw [if_neg h1]
  by_cases h3 : k = 3
  · rw [if_pos h3]
    have := hh ks (fun u h => h) (hno fun e => by omega)
    show Fv (negFv _ _)
    unfold negFv z
    split
    · split
      · exact .inr (.inl rfl)
      · exact .inl rfl
    · exact this
  rw [if_neg h3]
  by_cases h4 : k = 4
  · subst h4
    rw [if_pos rfl]
    have hl : 0 < lvl w := (((own_iff _ _ _ _ _ _ _ _).1 ((may_own _ _ _ _ _ _ _ _).1 hm).1).2 : ks.length = 2 ∧ 0 < lvl w).2
    rw [evs_tail]
    exact do_fv (lvl_do hl) (hh ks (fun u h => h) (hno fun e => by omega)) (hh ks.tail (fun u h => List.mem_of_mem_tail h) (hno fun e => by omega))
  rw [if_neg h4]
  by_cases h5 : k = 5
  · rw [if_pos h5]
    have hbad : (ks.any fun u => decide (u.kind = 2)) = false := by
      rw [List.any_eq_false]
      intro u hu h
      have hcu := cnt_kid hu hck
      obtain ⟨uk, un, ua, ub, uc, ud, uw, us⟩ := u
      have h : uk = 2 := of_decide_eq_true h
      rw [cntT, if_pos (.inr h)] at hcu
      omega
    rw [hbad]
    unfold callE
    by_cases hif : w = ⟨#[73, 70]⟩
    · have hn := hno fun _ => hif
      rw [if_pos hif, evs_tail, evs_tail]
      repeat' split
      · exact hh ks (fun u h => h) hn
      · exact hh _ (fun u h => List.mem_of_mem_tail h) hn
      · exact hh _ (fun u h => List.mem_of_mem_tail (List.mem_of_mem_tail h)) hn
    rw [if_neg hif]
    split
    · exact sum_fv hits
    split
    · exact best_fv hits
    split
    · exact best_fv hits
    · exact .inl rfl
  omega
end Go.AL
