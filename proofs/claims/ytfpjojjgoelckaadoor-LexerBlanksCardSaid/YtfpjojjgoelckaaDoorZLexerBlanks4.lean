/- Parts of the proof of LexerBlanks: the logic, contracts, plain laws. -/
import Derived.Test.YtfpjojjgoelckaaDoorZLexerBlanks3
import Derived.Laws.RangeAny
import Derived.Laws.RangeString
/-! Contracts: lexer's small functions. -/
namespace Go.AL
open Go.Proofs
set_option linter.unusedSimpArgs false
set_option linter.unusedVariables false
/-- One map, or iterator, of the function's own. -/
def oneMp (k : Nat) (es : List (AV × AV)) (n : Nat) : ASt := ⟨fun _ => none, fun b => if b = k then some es else none, fun _ => none, n⟩
theorem le_oneMp {σ : ASt} {k : Nat} {es : List (AV × AV)} {n : Nat} (h : σ.mp k = some es) (hn : σ.next ≤ n) : (oneMp k es n).Le σ where
  bx := fun _ _ e => nomatch e
  sl := fun _ _ e => nomatch e
  mp := fun b cs e => by
    simp only [oneMp] at e
    split at e
    · rename_i hb; subst hb; rw [h]; exact e
    · cases e
  next := hn
@[simp] theorem oneMp_mp (k : Nat) (es : List (AV × AV)) (n b : Nat) : (oneMp k es n).mp b = if b = k then some es else none := rfl
@[simp] theorem oneMp_bx (k : Nat) (es : List (AV × AV)) (n b : Nat) : (oneMp k es n).bx b = none := rfl
@[simp] theorem oneMp_sl (k : Nat) (es : List (AV × AV)) (n b : Nat) : (oneMp k es n).sl b = none := rfl
@[simp] theorem oneMp_next (k : Nat) (es : List (AV × AV)) (n : Nat) : (oneMp k es n).next = n := rfl
abbrev vfn (n : Nat) : AV := .p (.func (.func n) #[] #[])
abbrev vr (c : Int) : AV := .p (.int .i32 c)
def figR (c : Int) : Bool := decide (48 ≤ c) && decide (c ≤ 57)
def letR (c : Int) : Bool := decide (65 ≤ c) && decide (c ≤ 90)
set_option maxRecDepth 100000 in
theorem figure_ok (c : Int) : APure Tryd.prog 17 [vr c] (vb (figR c)) := by
  refine apure_of Tryd.func17 Tryd.ntmps17 rfl ?_
  simp only [List.length_cons, List.length_nil, List.cons_append, List.nil_append, List.replicate]
  repeat' (first
    | refine aw_seq ?_
    | (refine aw_run [] ?_; simp -implicitDefEqProofs (maxSteps := 1000000))
    | (refine aw_ymix [] draws (by decide +kernel) ?_; simp -implicitDefEqProofs (maxSteps := 1000000))
    | (refine aw_yrun draws (by kernel_rfl) ?_; simp -implicitDefEqProofs (maxSteps := 1000000))
    | (refine awl_skip' [] rfl ?_; simp -implicitDefEqProofs (maxSteps := 1000000))
    | (refine aw_cond rfl (fun h => ?_) (fun h => ?_) <;> try (with_reducible first | exact ff_tt h | exact tt_ff h))
    | (refine aw_skip ?_; simp -implicitDefEqProofs (maxSteps := 1000000))
    | refine aw_block ?_
    | (refine aw_exit ?_; simp -implicitDefEqProofs (maxSteps := 1000000))
    | refine aw_ret (ret_of (.inr rfl) (by simp [Tryd.results17]; rfl) (Fin.of ?_)))
  rfl
set_option maxRecDepth 100000 in
theorem letter_ok (c : Int) : APure Tryd.prog 19 [vr c] (vb (letR c)) := by
  refine apure_of Tryd.func19 Tryd.ntmps19 rfl ?_
  simp only [List.length_cons, List.length_nil, List.cons_append, List.nil_append, List.replicate]
  repeat' (first
    | refine aw_seq ?_
    | (refine aw_run [] ?_; simp -implicitDefEqProofs (maxSteps := 1000000))
    | (refine aw_ymix [] draws (by decide +kernel) ?_; simp -implicitDefEqProofs (maxSteps := 1000000))
    | (refine aw_yrun draws (by kernel_rfl) ?_; simp -implicitDefEqProofs (maxSteps := 1000000))
    | (refine awl_skip' [] rfl ?_; simp -implicitDefEqProofs (maxSteps := 1000000))
    | (refine aw_cond rfl (fun h => ?_) (fun h => ?_) <;> try (with_reducible first | exact ff_tt h | exact tt_ff h))
    | (refine aw_skip ?_; simp -implicitDefEqProofs (maxSteps := 1000000))
    | refine aw_block ?_
    | (refine aw_exit ?_; simp -implicitDefEqProofs (maxSteps := 1000000))
    | refine aw_ret (ret_of (.inr rfl) (by simp [Tryd.results19]; rfl) (Fin.of ?_)))
  rfl
/-- How many of the first bytes are so. -/
def leadL (p : Int → Bool) (s : ByteArray) : Nat := (s.data.toList.takeWhile fun b => p b.toNat).length
def Lead (p : Int → Bool) (s : ByteArray) (i : Nat) : Prop := ∀ j (h : j < s.size), j < i → p ((s[j]'h).toNat : Int) = true
theorem bget (s : ByteArray) (i : Nat) (h : i < s.size) : s.data.toList[i]? = some (s[i]'h) := by
  rw [Array.getElem?_toList]
  exact Array.getElem?_eq_getElem h
theorem lead_stop {p : Int → Bool} {s : ByteArray} {i : Nat} (h : Lead p s i) (hi : i < s.size) (hp : p ((s[i]'hi).toNat : Int) = false) : leadL p s = i := by
  have e : s.data.toList = s.data.toList.take i ++ (s[i]'hi) :: s.data.toList.drop (i + 1) := by
    have h1 := (List.take_append_drop i s.data.toList).symm
    have hl : i < s.data.toList.length := by rw [Array.length_toList]; exact hi
    rw [List.drop_eq_getElem_cons hl] at h1
    have h2 : s.data.toList[i] = s[i]'hi := by
      have := bget s i hi
      rw [List.getElem?_eq_getElem hl] at this
      exact Option.some.inj this
    rwa [h2] at h1
  have ht : ∀ b ∈ s.data.toList.take i, p b.toNat = true := by
    intro b hb
    obtain ⟨j, hj, rfl⟩ := List.getElem_of_mem hb
    have hji : j < i := by rw [List.length_take] at hj; omega
    have hjs : j < s.size := by omega
    have := bget s j hjs
    rw [List.getElem_take]
    have hl : j < s.data.toList.length := by rw [Array.length_toList]; exact hjs
    rw [List.getElem?_eq_getElem hl] at this
    rw [Option.some.inj this]
    exact h j hjs hji
  unfold leadL
  rw [e, List.takeWhile_append_of_pos ht, List.takeWhile_cons_of_neg (by simp [hp]), List.append_nil, List.length_take, Array.length_toList]
  exact Nat.min_eq_left (Nat.le_of_lt hi)
theorem lead_all {p : Int → Bool} {s : ByteArray} (h : Lead p s s.size) : leadL p s = s.size := by
  have ht : ∀ b ∈ s.data.toList, p b.toNat = true := by
    intro b hb
    obtain ⟨j, hj, rfl⟩ := List.getElem_of_mem hb
    have hjs : j < s.size := by rw [Array.length_toList] at hj; exact hj
    have := bget s j hjs
    rw [List.getElem?_eq_getElem hj] at this
    rw [Option.some.inj this]
    exact h j hjs hjs
  unfold leadL
  rw [← List.append_nil s.data.toList, List.takeWhile_append_of_pos ht]
  simp
set_option maxRecDepth 100000 in
theorem lead_ok (g : Nat) (p : Int → Bool) (hc : callable Tryd.prog g = true) (hg : ∀ c : Int, APure Tryd.prog g [vr c] (vb (p c))) (hhi : ∀ c : Int, 128 ≤ c → p c = false) (s : ByteArray) (hs : s.size ≤ 9223372036854775807) : APure Tryd.prog 32 [vs s, vfn g] (vi (leadL p s : Nat)) := by
  refine apure_of Tryd.func32 Tryd.ntmps32 rfl ?_
  simp only [List.length_cons, List.length_nil, List.cons_append, List.nil_append, List.replicate]
  refine aw_seq (aw_run [] ?_)
  simp -implicitDefEqProofs
  refine aw_seq (aw_seq (aw_run [] ?_))
  simp -implicitDefEqProofs
  refine awl_range [] rfl rfl (by simp) rfl ?_
  simp -implicitDefEqProofs
  refine aw_block (aw_loopW [0, 1, 8] (fun n fr σ => ∃ i m : Nat, i + n = s.size ∧ 1 ≤ m ∧ Lead p s i ∧ σ = oneMp 0 (itE s i) m ∧ fr = frm 20 [(0, vs s), (1, vfn g), (8, .it 0)]) s.size ?_ ?_)
  · exact ⟨oneMp 0 (itE s 0) 1, le_oneMp (by simp [σ0]) (by simp [σ0]), 0, 1, by omega, by omega, fun j h hj => by omega, rfl, by simp⟩
  · rintro n fr σ ⟨i, m, hi, hm, hld, rfl, rfl⟩
    simp
    refine aw_seq (aw_run [] ?_)
    simp -implicitDefEqProofs
    refine awl_next [] rfl rfl rfl (by simp; rfl) (fun hp => ?_) (fun hp => ?_)
    · by_cases hb : (s[i]'hp).toNat < 128
      · have hd := decode_ascii s i hp hb
        have hgi := hg ((s[i]'hp).toNat : Int)
        cases hpi : p ((s[i]'hp).toNat : Int) with
        | true =>
          rw [hpi] at hgi
          simp -implicitDefEqProofs [hd]
          repeat' (first
            | refine aw_seq ?_
            | (refine aw_run [] ?_; simp -implicitDefEqProofs (maxSteps := 1000000))
            | (refine aw_ymix [] draws (by decide +kernel) ?_; simp -implicitDefEqProofs (maxSteps := 1000000))
            | (refine aw_yrun draws (by kernel_rfl) ?_; simp -implicitDefEqProofs (maxSteps := 1000000))
            | (refine awl_skip' [] rfl ?_; simp -implicitDefEqProofs (maxSteps := 1000000))
            | (refine awl_pure_guard [] rfl rfl rfl (by first | assumption | kernel_rfl) rfl (fun hc => by first | exact hgi) (by simp) (by simp) (by simp) ?_; simp -implicitDefEqProofs (maxSteps := 1000000))
            | (refine yl_pureG rfl rfl rfl (by first | assumption | kernel_rfl) rfl (fun hc => by first | exact hgi) (by simp) (by simp) (by simp) ?_; simp -implicitDefEqProofs (maxSteps := 1000000))
            | (refine awl_pure' [] rfl rfl rfl (by first | assumption | kernel_rfl) rfl (by first | exact hgi) (by simp) (by simp) ?_; simp -implicitDefEqProofs (maxSteps := 1000000))
            | (refine yl_pure rfl rfl rfl (by first | assumption | kernel_rfl) rfl (by first | exact hgi) (by simp) (by simp) ?_; simp -implicitDefEqProofs (maxSteps := 1000000))
            | (refine aw_cond rfl (fun h => ?_) (fun h => ?_) <;> try (with_reducible first | exact ff_tt h | exact tt_ff h))
            | (refine aw_skip ?_; simp -implicitDefEqProofs (maxSteps := 1000000))
            | refine aw_block ?_
            | (refine aw_exit ?_; simp -implicitDefEqProofs (maxSteps := 1000000))
            | refine aw_ret (ret_of (.inr rfl) (by simp [Tryd.results32]; rfl) (Fin.of ?_)))
          refine ⟨n - 1, by omega, oneMp 0 (itE s (i + 1)) m, le_oneMp (by simp) (by simp), i + 1, by omega, m, by omega, fun j h hj => ?_, rfl⟩
          by_cases e : j = i
          · subst e; exact hpi
          · exact hld j h (by omega)
        | false =>
          rw [hpi] at hgi
          simp -implicitDefEqProofs [hd]
          repeat' (first
            | refine aw_seq ?_
            | (refine aw_run [] ?_; simp -implicitDefEqProofs (maxSteps := 1000000))
            | (refine aw_ymix [] draws (by decide +kernel) ?_; simp -implicitDefEqProofs (maxSteps := 1000000))
            | (refine aw_yrun draws (by kernel_rfl) ?_; simp -implicitDefEqProofs (maxSteps := 1000000))
            | (refine awl_skip' [] rfl ?_; simp -implicitDefEqProofs (maxSteps := 1000000))
            | (refine awl_pure_guard [] rfl rfl rfl (by first | assumption | kernel_rfl) rfl (fun hc => by first | exact hgi) (by simp) (by simp) (by simp) ?_; simp -implicitDefEqProofs (maxSteps := 1000000))
            | (refine yl_pureG rfl rfl rfl (by first | assumption | kernel_rfl) rfl (fun hc => by first | exact hgi) (by simp) (by simp) (by simp) ?_; simp -implicitDefEqProofs (maxSteps := 1000000))
            | (refine awl_pure' [] rfl rfl rfl (by first | assumption | kernel_rfl) rfl (by first | exact hgi) (by simp) (by simp) ?_; simp -implicitDefEqProofs (maxSteps := 1000000))
            | (refine yl_pure rfl rfl rfl (by first | assumption | kernel_rfl) rfl (by first | exact hgi) (by simp) (by simp) ?_; simp -implicitDefEqProofs (maxSteps := 1000000))
            | (refine aw_cond rfl (fun h => ?_) (fun h => ?_) <;> try (with_reducible first | exact ff_tt h | exact tt_ff h))
            | (refine aw_skip ?_; simp -implicitDefEqProofs (maxSteps := 1000000))
            | refine aw_block ?_
            | (refine aw_exit ?_; simp -implicitDefEqProofs (maxSteps := 1000000))
            | refine aw_ret (ret_of (.inr rfl) (by simp [Tryd.results32]; rfl) (Fin.of ?_)))
          simp [tupOf, lead_stop hld hp hpi]
      · obtain ⟨hd1, _⟩ := decode_high s i hp (by omega)
        have hgi := hg ((Utf8.decode s i).1 : Int)
        rw [hhi _ (by omega)] at hgi
        simp -implicitDefEqProofs
        repeat' (first
          | refine aw_seq ?_
          | (refine aw_run [] ?_; simp -implicitDefEqProofs (maxSteps := 1000000))
          | (refine aw_ymix [] draws (by decide +kernel) ?_; simp -implicitDefEqProofs (maxSteps := 1000000))
          | (refine aw_yrun draws (by kernel_rfl) ?_; simp -implicitDefEqProofs (maxSteps := 1000000))
          | (refine awl_skip' [] rfl ?_; simp -implicitDefEqProofs (maxSteps := 1000000))
          | (refine awl_pure_guard [] rfl rfl rfl (by first | assumption | kernel_rfl) rfl (fun hc => by first | exact hgi) (by simp) (by simp) (by simp) ?_; simp -implicitDefEqProofs (maxSteps := 1000000))
          | (refine yl_pureG rfl rfl rfl (by first | assumption | kernel_rfl) rfl (fun hc => by first | exact hgi) (by simp) (by simp) (by simp) ?_; simp -implicitDefEqProofs (maxSteps := 1000000))
          | (refine awl_pure' [] rfl rfl rfl (by first | assumption | kernel_rfl) rfl (by first | exact hgi) (by simp) (by simp) ?_; simp -implicitDefEqProofs (maxSteps := 1000000))
          | (refine yl_pure rfl rfl rfl (by first | assumption | kernel_rfl) rfl (by first | exact hgi) (by simp) (by simp) ?_; simp -implicitDefEqProofs (maxSteps := 1000000))
          | (refine aw_cond rfl (fun h => ?_) (fun h => ?_) <;> try (with_reducible first | exact ff_tt h | exact tt_ff h))
          | (refine aw_skip ?_; simp -implicitDefEqProofs (maxSteps := 1000000))
          | refine aw_block ?_
          | (refine aw_exit ?_; simp -implicitDefEqProofs (maxSteps := 1000000))
          | refine aw_ret (ret_of (.inr rfl) (by simp [Tryd.results32]; rfl) (Fin.of ?_)))
        simp [tupOf, lead_stop hld hp (hhi _ (by omega))]
    · have hi2 : i = s.size := by omega
      subst hi2
      simp -implicitDefEqProofs
      repeat' (first
        | refine aw_seq ?_
        | (refine aw_run [] ?_; simp -implicitDefEqProofs (maxSteps := 1000000))
        | (refine aw_ymix [] draws (by decide +kernel) ?_; simp -implicitDefEqProofs (maxSteps := 1000000))
        | (refine aw_yrun draws (by kernel_rfl) ?_; simp -implicitDefEqProofs (maxSteps := 1000000))
        | (refine awl_skip' [] rfl ?_; simp -implicitDefEqProofs (maxSteps := 1000000))
        | (refine aw_cond rfl (fun h => ?_) (fun h => ?_) <;> try (with_reducible first | exact ff_tt h | exact tt_ff h))
        | (refine aw_skip ?_; simp -implicitDefEqProofs (maxSteps := 1000000))
        | refine aw_block ?_
        | (refine aw_exit ?_; simp -implicitDefEqProofs (maxSteps := 1000000))
        | refine aw_ret (ret_of (.inr rfl) (by simp [Tryd.results32]; rfl) (Fin.of ?_)))
      simp [tupOf, lead_all hld]
end Go.AL
