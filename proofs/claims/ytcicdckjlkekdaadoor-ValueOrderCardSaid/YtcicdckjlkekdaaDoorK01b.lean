import Derived.Test.YtcicdckjlkekdaaDoorKLib
import Derived.Test.YtcicdckjlkekdaaDoorK01a
/-! Contracts: num. -/
namespace Go.AL
open Go.Proofs
set_option linter.unusedSimpArgs false
set_option linter.unusedVariables false
def inI (c : Int) : Bool := decide (-9223372036854775808 ≤ c) && decide (c ≤ 9223372036854775807)
theorem inI_iff {c : Int} : inI c = true ↔ In64 c := by simp [inI, In64]
/-- A number, if it is one. -/
abbrev chk (c : Int) : AV := .tup [vi (z (inI c) c), vb (inI c)]
theorem wrap_eq (c : Int) : IntKind.i64.wrap c = (c + 9223372036854775808) % 18446744073709551616 - 9223372036854775808 := by
  simp only [IntKind.wrap, IntKind.bits, IntKind.signed]
  simp
  split <;> omega
theorem uwrap_eq (c : Int) : IntKind.u64.wrap c = c % 18446744073709551616 := by simp [IntKind.wrap, IntKind.bits, IntKind.signed]
theorem wrap_in {c : Int} (h : In64 c) : IntKind.i64.wrap c = c := by unfold In64 at h; rw [wrap_eq]; omega
theorem in_wrap (c : Int) : In64 (IntKind.i64.wrap c) := by unfold In64; rw [wrap_eq]; omega
theorem wrap_q (c : Int) : ∃ q, IntKind.i64.wrap c = c + 18446744073709551616 * q := ⟨-((c + 9223372036854775808) / 18446744073709551616), by rw [wrap_eq]; omega⟩
def allB (l : List Bool) : Bool := l.all id
theorem allB_snoc (l : List Bool) (x : Bool) : allB (l ++ [x]) = (allB l && x) := by simp [allB]
theorem allB_mem {l : List Bool} (h : false ∈ l) : allB l = false := by simp [allB, h]
@[simp high] theorem cl_vbs (l : List Bool) : Cl (.vsl (l.map vb)) := by
  simp; rintro c (⟨_, rfl⟩ | ⟨_, rfl⟩) <;> simp
set_option maxRecDepth 100000 in
theorem all_ok (l : List Bool) (hl : (l.length : Int) < 2 ^ 47) : APure Tryd.prog 87 [.vsl (l.map vb)] (vb (allB l)) := by
  refine apure_of Tryd.func87 Tryd.ntmps87 rfl ?_
  simp only [List.length_cons, List.length_nil, List.cons_append, List.nil_append, List.replicate]
  refine aw_seq (aw_run [] ?_)
  simp -implicitDefEqProofs
  refine aw_seq (aw_seq (aw_run [] ?_))
  simp -implicitDefEqProofs
  refine aw_block (aw_loopK [5, 6, 7] (fun n fr σ => σ = σ0 ∧ ∃ i : Nat, i + n = l.length ∧ allB (l.take i) = true ∧ fr = frm 14 [(5, .vsl (l.map vb)), (6, vi (l.length : Int)), (7, vi (i : Nat))]) l.length ?_ ?_)
  · refine ⟨rfl, 0, by omega, rfl, by simp⟩
  · rintro n fr σ ⟨rfl, i, hi, hall, rfl⟩
    simp
    refine aw_seq (aw_run [] ?_)
    simp -implicitDefEqProofs
    refine aw_seq (aw_cond rfl (fun h => aw_skip ?_) (fun h => aw_exit ?_))
    · have hlt : i < l.length := by simp at h; omega
      obtain ⟨x, hx⟩ : ∃ x, l[i]? = some x := ⟨l[i], by simp [hlt]⟩
      have hnx : IntKind.i64.wrap ((i : Int) + 1) = ((i + 1 : Nat) : Int) := by rw [wrap_id (by omega) (by omega)]; simp
      simp -implicitDefEqProofs
      refine aw_seq (aw_block (aw_seq (aw_run [] ?_)))
      simp -implicitDefEqProofs [hx]
      refine aw_seq (aw_run [] ?_)
      simp -implicitDefEqProofs
      refine aw_cond rfl (fun h2 => ?_) (fun h2 => aw_skip ?_)
      · repeat' (first
          | refine aw_seq ?_
          | (refine aw_run [] ?_; simp -implicitDefEqProofs)
          | (refine aw_ymix [] draws (by decide +kernel) ?_; simp -implicitDefEqProofs)
          | (refine aw_yrun draws (by kernel_rfl) ?_; simp -implicitDefEqProofs)
          | (refine awl_skip' [] rfl ?_; simp -implicitDefEqProofs)
          | (refine aw_cond rfl (fun h => ?_) (fun h => ?_) <;> try (with_reducible first | exact ff_tt h | exact tt_ff h))
          | (refine aw_skip ?_; simp -implicitDefEqProofs)
          | refine aw_block ?_
          | (refine aw_exit ?_; simp -implicitDefEqProofs)
          | refine aw_ret (ret_of (.inr rfl) (by simp [Tryd.results87]; rfl) (Fin.of ?_)))
        obtain rfl : x = false := by simpa using h2
        simp [tupOf, allB_mem (List.mem_of_getElem? hx)]
      · simp -implicitDefEqProofs
        refine aw_run [] ?_
        simp -implicitDefEqProofs
        refine ⟨n - 1, by omega, i + 1, by omega, ?_, by simp [hnx]⟩
        have he : l.take (i + 1) = l.take i ++ [x] := by
          rw [List.take_add_one, hx]; rfl
        rw [he, allB_snoc, hall]
        simpa using h2
    · have hi2 : i = l.length := by simp at h; omega
      simp -implicitDefEqProofs
      repeat' (first
        | refine aw_seq ?_
        | (refine aw_run [] ?_; simp -implicitDefEqProofs)
        | (refine aw_ymix [] draws (by decide +kernel) ?_; simp -implicitDefEqProofs)
        | (refine aw_yrun draws (by kernel_rfl) ?_; simp -implicitDefEqProofs)
        | (refine awl_skip' [] rfl ?_; simp -implicitDefEqProofs)
        | (refine aw_cond rfl (fun h => ?_) (fun h => ?_) <;> try (with_reducible first | exact ff_tt h | exact tt_ff h))
        | (refine aw_skip ?_; simp -implicitDefEqProofs)
        | refine aw_block ?_
        | (refine aw_exit ?_; simp -implicitDefEqProofs)
        | refine aw_ret (ret_of (.inr rfl) (by simp [Tryd.results87]; rfl) (Fin.of ?_)))
      have hl : l.take i = l := List.take_of_length_le (by omega)
      rw [hl] at hall
      simp [tupOf, hall]
set_option maxRecDepth 100000 in
theorem told_ok (n : Int) (l : List Bool) (hl : (l.length : Int) < 2 ^ 47) : APure Tryd.prog 46 [vi n, .vsl (l.map vb)] (.tup [vi (z (allB l) n), vb (allB l)]) := by
  have ha := all_ok l hl
  generalize allB l = b at *
  refine apure_of Tryd.func46 Tryd.ntmps46 rfl ?_
  simp only [List.length_cons, List.length_nil, List.cons_append, List.nil_append, List.replicate]
  repeat' (first
    | refine aw_seq ?_
    | (refine aw_run [] ?_; simp -implicitDefEqProofs)
    | (refine aw_ymix [] draws (by decide +kernel) ?_; simp -implicitDefEqProofs)
    | (refine aw_yrun draws (by kernel_rfl) ?_; simp -implicitDefEqProofs)
    | (refine awl_skip' [] rfl ?_; simp -implicitDefEqProofs)
    | (refine awl_pure_guard [] rfl rfl rfl (by first | assumption | kernel_rfl) rfl (fun hc => by first | exact ha) (by simp) (by simp) (by simp) ?_; simp -implicitDefEqProofs)
    | (refine yl_pureG rfl rfl rfl (by first | assumption | kernel_rfl) rfl (fun hc => by first | exact ha) (by simp) (by simp) (by simp) ?_; simp -implicitDefEqProofs)
    | (refine awl_pure' [] rfl rfl rfl (by first | assumption | kernel_rfl) rfl (by first | exact ha) (by simp) (by simp) ?_; simp -implicitDefEqProofs)
    | (refine yl_pure rfl rfl rfl (by first | assumption | kernel_rfl) rfl (by first | exact ha) (by simp) (by simp) ?_; simp -implicitDefEqProofs)
    | (refine aw_cond rfl (fun h => ?_) (fun h => ?_) <;> try (with_reducible first | exact ff_tt h | exact tt_ff h))
    | (refine aw_skip ?_; simp -implicitDefEqProofs)
    | refine aw_block ?_
    | (refine aw_exit ?_; simp -implicitDefEqProofs)
    | refine aw_ret (ret_of (.inr rfl) (by simp [Tryd.results46]; rfl) (Fin.of ?_)))
  · have : b = false := by simpa using h
    simp [tupOf, this]
  · have : b = true := by simpa using h
    simp [tupOf, this]
theorem told1 (n : Int) (a : Bool) : APure Tryd.prog 46 [vi n, .vsl [vb a]] (.tup [vi (z a n), vb a]) := by
  have := told_ok n [a] (by simp)
  rwa [show allB [a] = a by simp [allB]] at this
theorem told2 (n : Int) (a b : Bool) : APure Tryd.prog 46 [vi n, .vsl [vb a, vb b]] (.tup [vi (z (a && b) n), vb (a && b)]) := by
  have := told_ok n [a, b] (by simp)
  rwa [show allB [a, b] = (a && b) by simp [allB]] at this
theorem told3 (n : Int) (a b c : Bool) : APure Tryd.prog 46 [vi n, .vsl [vb a, vb b, vb c]] (.tup [vi (z (a && b && c) n), vb (a && b && c)]) := by
  have := told_ok n [a, b, c] (by simp)
  rwa [show allB [a, b, c] = (a && b && c) by simp [allB, Bool.and_assoc]] at this
theorem z_chk {c w : Int} {d : Bool} (h1 : In64 c → d = true) (h2 : ¬ In64 c → d = false) (h3 : In64 c → w = c) : AV.tup [vi (z d w), vb d] = chk c := by
  by_cases h : In64 c
  · rw [h1 h, h3 h, chk, inI_iff.2 h]
  · have : inI c = false := by cases hh : inI c with | false => rfl | true => exact absurd (inI_iff.1 hh) h
    rw [h2 h, chk, this]; rfl
set_option maxRecDepth 100000 in
theorem add_ok {a b : Int} (ha : In64 a) (hb : In64 b) : APure Tryd.prog 49 [vi a, vi b] (chk (a + b)) := by
  have key : AV.tup [vi (z (decide (IntKind.i64.wrap (a + b) < a) == decide (b < 0)) (IntKind.i64.wrap (a + b))), vb (decide (IntKind.i64.wrap (a + b) < a) == decide (b < 0))] = chk (a + b) := by
    refine z_chk (fun h => ?_) (fun h => ?_) wrap_in
    · rw [wrap_in h, beq_iff_eq, decide_eq_decide]; unfold In64 at *; omega
    · rw [beq_eq_false_iff_ne, ne_eq, decide_eq_decide]; unfold In64 at *; rw [wrap_eq]; omega
  rw [← key]
  refine apure_of Tryd.func49 Tryd.ntmps49 rfl ?_
  simp only [List.length_cons, List.length_nil, List.cons_append, List.nil_append, List.replicate]
  repeat' (first
    | refine aw_seq ?_
    | (refine aw_run [] ?_; simp -implicitDefEqProofs)
    | (refine aw_ymix [] draws (by decide +kernel) ?_; simp -implicitDefEqProofs)
    | (refine aw_yrun draws (by kernel_rfl) ?_; simp -implicitDefEqProofs)
    | (refine awl_skip' [] rfl ?_; simp -implicitDefEqProofs)
    | (refine awl_pure_guard [] rfl rfl rfl (by first | assumption | kernel_rfl) rfl (fun hc => by first | exact told1 _ _) (by simp) (by simp) (by simp) ?_; simp -implicitDefEqProofs)
    | (refine yl_pureG rfl rfl rfl (by first | assumption | kernel_rfl) rfl (fun hc => by first | exact told1 _ _) (by simp) (by simp) (by simp) ?_; simp -implicitDefEqProofs)
    | (refine awl_pure' [] rfl rfl rfl (by first | assumption | kernel_rfl) rfl (by first | exact told1 _ _) (by simp) (by simp) ?_; simp -implicitDefEqProofs)
    | (refine yl_pure rfl rfl rfl (by first | assumption | kernel_rfl) rfl (by first | exact told1 _ _) (by simp) (by simp) ?_; simp -implicitDefEqProofs)
    | (refine aw_cond rfl (fun h => ?_) (fun h => ?_) <;> try (with_reducible first | exact ff_tt h | exact tt_ff h))
    | (refine aw_skip ?_; simp -implicitDefEqProofs)
    | refine aw_block ?_
    | (refine aw_exit ?_; simp -implicitDefEqProofs)
    | refine aw_ret (ret_of (.inr rfl) (by simp [Tryd.results49]; rfl) (Fin.of ?_)))
  rfl
set_option maxRecDepth 100000 in
theorem sub_ok {a b : Int} (ha : In64 a) (hb : In64 b) : APure Tryd.prog 50 [vi a, vi b] (chk (a - b)) := by
  have key : AV.tup [vi (z (decide (a < IntKind.i64.wrap (a - b)) == decide (b < 0)) (IntKind.i64.wrap (a - b))), vb (decide (a < IntKind.i64.wrap (a - b)) == decide (b < 0))] = chk (a - b) := by
    refine z_chk (fun h => ?_) (fun h => ?_) wrap_in
    · rw [wrap_in h, beq_iff_eq, decide_eq_decide]; unfold In64 at *; omega
    · rw [beq_eq_false_iff_ne, ne_eq, decide_eq_decide]; unfold In64 at *; rw [wrap_eq]; omega
  rw [← key]
  refine apure_of Tryd.func50 Tryd.ntmps50 rfl ?_
  simp only [List.length_cons, List.length_nil, List.cons_append, List.nil_append, List.replicate]
  repeat' (first
    | refine aw_seq ?_
    | (refine aw_run [] ?_; simp -implicitDefEqProofs)
    | (refine aw_ymix [] draws (by decide +kernel) ?_; simp -implicitDefEqProofs)
    | (refine aw_yrun draws (by kernel_rfl) ?_; simp -implicitDefEqProofs)
    | (refine awl_skip' [] rfl ?_; simp -implicitDefEqProofs)
    | (refine awl_pure_guard [] rfl rfl rfl (by first | assumption | kernel_rfl) rfl (fun hc => by first | exact told1 _ _) (by simp) (by simp) (by simp) ?_; simp -implicitDefEqProofs)
    | (refine yl_pureG rfl rfl rfl (by first | assumption | kernel_rfl) rfl (fun hc => by first | exact told1 _ _) (by simp) (by simp) (by simp) ?_; simp -implicitDefEqProofs)
    | (refine awl_pure' [] rfl rfl rfl (by first | assumption | kernel_rfl) rfl (by first | exact told1 _ _) (by simp) (by simp) ?_; simp -implicitDefEqProofs)
    | (refine yl_pure rfl rfl rfl (by first | assumption | kernel_rfl) rfl (by first | exact told1 _ _) (by simp) (by simp) ?_; simp -implicitDefEqProofs)
    | (refine aw_cond rfl (fun h => ?_) (fun h => ?_) <;> try (with_reducible first | exact ff_tt h | exact tt_ff h))
    | (refine aw_skip ?_; simp -implicitDefEqProofs)
    | refine aw_block ?_
    | (refine aw_exit ?_; simp -implicitDefEqProofs)
    | refine aw_ret (ret_of (.inr rfl) (by simp [Tryd.results50]; rfl) (Fin.of ?_)))
  rfl
set_option maxRecDepth 100000 in
theorem neg_ok {a : Int} (ha : In64 a) : APure Tryd.prog 37 [vi a] (chk (-a)) := by
  have hs := sub_ok (a := 0) (b := a) (by unfold In64; omega) ha
  rw [Int.zero_sub] at hs
  refine apure_of Tryd.func37 Tryd.ntmps37 rfl ?_
  simp only [List.length_cons, List.length_nil, List.cons_append, List.nil_append, List.replicate]
  repeat' (first
    | refine aw_seq ?_
    | (refine aw_run [] ?_; simp -implicitDefEqProofs)
    | (refine aw_ymix [] draws (by decide +kernel) ?_; simp -implicitDefEqProofs)
    | (refine aw_yrun draws (by kernel_rfl) ?_; simp -implicitDefEqProofs)
    | (refine awl_skip' [] rfl ?_; simp -implicitDefEqProofs)
    | (refine awl_pure_guard [] rfl rfl rfl (by first | assumption | kernel_rfl) rfl (fun hc => by first | exact hs) (by simp) (by simp) (by simp) ?_; simp -implicitDefEqProofs)
    | (refine yl_pureG rfl rfl rfl (by first | assumption | kernel_rfl) rfl (fun hc => by first | exact hs) (by simp) (by simp) (by simp) ?_; simp -implicitDefEqProofs)
    | (refine awl_pure' [] rfl rfl rfl (by first | assumption | kernel_rfl) rfl (by first | exact hs) (by simp) (by simp) ?_; simp -implicitDefEqProofs)
    | (refine yl_pure rfl rfl rfl (by first | assumption | kernel_rfl) rfl (by first | exact hs) (by simp) (by simp) ?_; simp -implicitDefEqProofs)
    | (refine aw_cond rfl (fun h => ?_) (fun h => ?_) <;> try (with_reducible first | exact ff_tt h | exact tt_ff h))
    | (refine aw_skip ?_; simp -implicitDefEqProofs)
    | refine aw_block ?_
    | (refine aw_exit ?_; simp -implicitDefEqProofs)
    | refine aw_ret (ret_of (.inr rfl) (by simp [Tryd.results37]; rfl) (Fin.of ?_)))
  rfl
theorem tdiv_in {a b : Int} (ha : In64 a) (h : ¬ (a = -9223372036854775808 ∧ b = -1)) : In64 (a.tdiv b) := by
  have e : (a.tdiv b).natAbs = a.natAbs / b.natAbs := Int.natAbs_tdiv a b
  by_cases hb : b.natAbs ≤ 1
  · have hb' : b = 0 ∨ b = 1 ∨ b = -1 := by omega
    rcases hb' with rfl | rfl | rfl
    · simp [In64]
    · simpa using ha
    · rw [Int.tdiv_neg, Int.tdiv_one]; unfold In64 at *; omega
  · have h2 : a.natAbs / b.natAbs ≤ a.natAbs / 2 := Nat.div_le_div_left (by omega) (by omega)
    generalize a.natAbs / b.natAbs = q at *
    generalize a.tdiv b = p at *
    unfold In64 at *
    omega
theorem mul_core {a b c : Int} (hb : In64 b) (hq : ∃ q, c = a * b + 18446744073709551616 * q) (h : c.tdiv b = a) (hb0 : b ≠ 0) : c = a * b := by
  obtain ⟨q, hq⟩ := hq
  have e := Int.mul_tdiv_add_tmod c b
  rw [h, Int.mul_comm] at e
  have l := Int.natAbs_tmod c b
  have l2 : c.natAbs % b.natAbs < b.natAbs := Nat.mod_lt _ (by omega)
  unfold In64 at hb
  generalize a * b = p at *
  omega
theorem mul_key {a b : Int} (ha : In64 a) (hb : In64 b) (b0 : b ≠ 0) : ∀ A B : Bool, (a ≠ -1 → A = true) → (a = -1 → A = !decide (b = -9223372036854775808)) → (b ≠ -1 → B = true) → (b = -1 → B = !decide (a = -9223372036854775808)) →
    AV.tup [vi (z (A && B && decide (IntKind.i64.wrap ((IntKind.i64.wrap (a * b)).tdiv b) = a)) (IntKind.i64.wrap (a * b))), vb (A && B && decide (IntKind.i64.wrap ((IntKind.i64.wrap (a * b)).tdiv b) = a))] = chk (a * b) := by
  intro A B A1 A2 B1 B2
  refine z_chk (fun h => ?_) (fun h => ?_) wrap_in
  · have hA : A = true := by
      by_cases e : a = -1
      · rw [A2 e]; simp; rintro rfl; subst e; unfold In64 at h; omega
      · exact A1 e
    have hB : B = true := by
      by_cases e : b = -1
      · rw [B2 e]; simp; rintro rfl; subst e; unfold In64 at h; omega
      · exact B1 e
    rw [hA, hB, wrap_in h, Int.mul_tdiv_cancel _ b0, wrap_in ha]
    simp
  · cases hA : A with
    | false => rfl
    | true =>
      cases hB : B with
      | false => rfl
      | true =>
        rw [Bool.and_self, Bool.true_and, decide_eq_false_iff_not]
        intro hC
        by_cases sp : IntKind.i64.wrap (a * b) = -9223372036854775808 ∧ b = -1
        · rw [sp.1, sp.2] at hC
          have hB' := B2 sp.2
          rw [hB] at hB'
          have : a ≠ -9223372036854775808 := by simpa using hB'.symm
          exact this (by rw [← hC, wrap_eq]; decide)
        · rw [wrap_in (tdiv_in (in_wrap _) sp)] at hC
          exact h ((mul_core hb (wrap_q _) hC b0) ▸ in_wrap _)
set_option maxRecDepth 100000 in
theorem mul_ok {a b : Int} (ha : In64 a) (hb : In64 b) : APure Tryd.prog 51 [vi a, vi b] (chk (a * b)) := by
  by_cases a0 : a = 0
  · subst a0
    refine apure_of Tryd.func51 Tryd.ntmps51 rfl ?_
    simp only [List.length_cons, List.length_nil, List.cons_append, List.nil_append, List.replicate]
    repeat' (first
      | refine aw_seq ?_
      | (refine aw_run [] ?_; simp -implicitDefEqProofs)
      | (refine aw_ymix [] draws (by decide +kernel) ?_; simp -implicitDefEqProofs)
      | (refine aw_yrun draws (by kernel_rfl) ?_; simp -implicitDefEqProofs)
      | (refine awl_skip' [] rfl ?_; simp -implicitDefEqProofs)
      | (refine aw_cond rfl (fun h => ?_) (fun h => ?_) <;> try (with_reducible first | exact ff_tt h | exact tt_ff h))
      | (refine aw_skip ?_; simp -implicitDefEqProofs)
      | refine aw_block ?_
      | (refine aw_exit ?_; simp -implicitDefEqProofs)
      | refine aw_ret (ret_of (.inr rfl) (by simp [Tryd.results51]; rfl) (Fin.of ?_)))
    simp [tupOf, inI]
  by_cases b0 : b = 0
  · subst b0
    refine apure_of Tryd.func51 Tryd.ntmps51 rfl ?_
    simp only [List.length_cons, List.length_nil, List.cons_append, List.nil_append, List.replicate]
    repeat' (first
      | refine aw_seq ?_
      | (refine aw_run [] ?_; simp -implicitDefEqProofs [a0])
      | (refine aw_ymix [] draws (by decide +kernel) ?_; simp -implicitDefEqProofs [a0])
      | (refine aw_yrun draws (by kernel_rfl) ?_; simp -implicitDefEqProofs [a0])
      | (refine awl_skip' [] rfl ?_; simp -implicitDefEqProofs [a0])
      | (refine aw_cond rfl (fun h => ?_) (fun h => ?_) <;> try (with_reducible first | exact ff_tt h | exact tt_ff h))
      | (refine aw_skip ?_; simp -implicitDefEqProofs [a0])
      | refine aw_block ?_
      | (refine aw_exit ?_; simp -implicitDefEqProofs [a0])
      | refine aw_ret (ret_of (.inr rfl) (by simp [Tryd.results51]; rfl) (Fin.of ?_)))
    simp [tupOf, inI]
  · have key := mul_key ha hb b0
    refine apure_of Tryd.func51 Tryd.ntmps51 rfl ?_
    simp only [List.length_cons, List.length_nil, List.cons_append, List.nil_append, List.replicate]
    repeat' (first
      | refine aw_seq ?_
      | (refine aw_run [] ?_; simp -implicitDefEqProofs [a0, b0])
      | (refine aw_ymix [] draws (by decide +kernel) ?_; simp -implicitDefEqProofs [a0, b0])
      | (refine aw_yrun draws (by kernel_rfl) ?_; simp -implicitDefEqProofs [a0, b0])
      | (refine awl_skip' [] rfl ?_; simp -implicitDefEqProofs [a0, b0])
      | (refine awl_pure_guard [] rfl rfl rfl (by first | assumption | kernel_rfl) rfl (fun hc => by first | exact told3 _ _ _ _) (by simp) (by simp) (by simp) ?_; simp -implicitDefEqProofs [a0, b0])
      | (refine yl_pureG rfl rfl rfl (by first | assumption | kernel_rfl) rfl (fun hc => by first | exact told3 _ _ _ _) (by simp) (by simp) (by simp) ?_; simp -implicitDefEqProofs [a0, b0])
      | (refine awl_pure' [] rfl rfl rfl (by first | assumption | kernel_rfl) rfl (by first | exact told3 _ _ _ _) (by simp) (by simp) ?_; simp -implicitDefEqProofs [a0, b0])
      | (refine yl_pure rfl rfl rfl (by first | assumption | kernel_rfl) rfl (by first | exact told3 _ _ _ _) (by simp) (by simp) ?_; simp -implicitDefEqProofs [a0, b0])
      | (refine aw_cond rfl (fun h => ?_) (fun h => ?_) <;> try (with_reducible first | exact ff_tt h | exact tt_ff h))
      | (refine aw_skip ?_; simp -implicitDefEqProofs [a0, b0])
      | refine aw_block ?_
      | (refine aw_exit ?_; simp -implicitDefEqProofs [a0, b0])
      | refine aw_ret (ret_of (.inr rfl) (by simp [Tryd.results51]; rfl) (Fin.of ?_)))
    refine key _ _ ?_ ?_ ?_ ?_ <;> intro h <;> simp [h]
set_option maxRecDepth 100000 in
theorem div_ok {a b : Int} (ha : In64 a) (hb : In64 b) (b0 : b ≠ 0) : APure Tryd.prog 89 [vi a, vi b] (chk (a.tdiv b)) := by
  refine apure_of Tryd.func89 Tryd.ntmps89 rfl ?_
  simp only [List.length_cons, List.length_nil, List.cons_append, List.nil_append, List.replicate]
  repeat' (first
    | refine aw_seq ?_
    | (refine aw_run [] ?_; simp -implicitDefEqProofs [b0])
    | (refine aw_ymix [] draws (by decide +kernel) ?_; simp -implicitDefEqProofs [b0])
    | (refine aw_yrun draws (by kernel_rfl) ?_; simp -implicitDefEqProofs [b0])
    | (refine awl_skip' [] rfl ?_; simp -implicitDefEqProofs [b0])
    | (refine awl_pure_guard [] rfl rfl rfl (by first | assumption | kernel_rfl) rfl (fun hc => by first | exact told1 _ _) (by simp) (by simp) (by simp) ?_; simp -implicitDefEqProofs [b0])
    | (refine yl_pureG rfl rfl rfl (by first | assumption | kernel_rfl) rfl (fun hc => by first | exact told1 _ _) (by simp) (by simp) (by simp) ?_; simp -implicitDefEqProofs [b0])
    | (refine awl_pure' [] rfl rfl rfl (by first | assumption | kernel_rfl) rfl (by first | exact told1 _ _) (by simp) (by simp) ?_; simp -implicitDefEqProofs [b0])
    | (refine yl_pure rfl rfl rfl (by first | assumption | kernel_rfl) rfl (by first | exact told1 _ _) (by simp) (by simp) ?_; simp -implicitDefEqProofs [b0])
    | (refine aw_cond rfl (fun h => ?_) (fun h => ?_) <;> try (with_reducible first | exact ff_tt h | exact tt_ff h))
    | (refine aw_skip ?_; simp -implicitDefEqProofs [b0])
    | refine aw_block ?_
    | (refine aw_exit ?_; simp -implicitDefEqProofs [b0])
    | refine aw_ret (ret_of (.inr rfl) (by simp [Tryd.results89]; rfl) (Fin.of ?_)))
  refine z_chk (fun h => ?_) (fun h => ?_) wrap_in
  · by_cases am : a = -9223372036854775808
    · subst am
      by_cases bm : b = -1
      · subst bm; exact absurd h (by unfold In64; decide)
      · simp [bm]
    · simp [am]
  · have : ¬ ¬ (a = -9223372036854775808 ∧ b = -1) := fun hh => h (tdiv_in ha hh)
    have := Classical.not_not.1 this
    simp [this]
set_option maxRecDepth 100000 in
theorem div_zero (a : Int) : APure Tryd.prog 89 [vi a, vi 0] (.tup [vi 0, vb false]) := by
  refine apure_of Tryd.func89 Tryd.ntmps89 rfl ?_
  simp only [List.length_cons, List.length_nil, List.cons_append, List.nil_append, List.replicate]
  repeat' (first
    | refine aw_seq ?_
    | (refine aw_run [] ?_; simp -implicitDefEqProofs)
    | (refine aw_ymix [] draws (by decide +kernel) ?_; simp -implicitDefEqProofs)
    | (refine aw_yrun draws (by kernel_rfl) ?_; simp -implicitDefEqProofs)
    | (refine awl_skip' [] rfl ?_; simp -implicitDefEqProofs)
    | (refine aw_cond rfl (fun h => ?_) (fun h => ?_) <;> try (with_reducible first | exact ff_tt h | exact tt_ff h))
    | (refine aw_skip ?_; simp -implicitDefEqProofs)
    | refine aw_block ?_
    | (refine aw_exit ?_; simp -implicitDefEqProofs)
    | refine aw_ret (ret_of (.inr rfl) (by simp [Tryd.results89]; rfl) (Fin.of ?_)))
  all_goals simp [tupOf]
set_option maxRecDepth 100000 in
theorem ntext_ok {a : Int} (ha : In64 a) : APure Tryd.prog 35 [vi a] (vs ⟨(Lib.itoa a).toArray⟩) := by
  have hi := itoa_ok a ha.1 ha.2
  refine apure_of Tryd.func35 Tryd.ntmps35 rfl ?_
  simp only [List.length_cons, List.length_nil, List.cons_append, List.nil_append, List.replicate]
  repeat' (first
    | refine aw_seq ?_
    | (refine aw_run [] ?_; simp -implicitDefEqProofs)
    | (refine aw_ymix [] draws (by decide +kernel) ?_; simp -implicitDefEqProofs)
    | (refine aw_yrun draws (by kernel_rfl) ?_; simp -implicitDefEqProofs)
    | (refine awl_skip' [] rfl ?_; simp -implicitDefEqProofs)
    | (refine awl_pure_guard [] rfl rfl rfl (by first | assumption | kernel_rfl) rfl (fun hc => by first | exact hi) (by simp) (by simp) (by simp) ?_; simp -implicitDefEqProofs)
    | (refine yl_pureG rfl rfl rfl (by first | assumption | kernel_rfl) rfl (fun hc => by first | exact hi) (by simp) (by simp) (by simp) ?_; simp -implicitDefEqProofs)
    | (refine awl_pure' [] rfl rfl rfl (by first | assumption | kernel_rfl) rfl (by first | exact hi) (by simp) (by simp) ?_; simp -implicitDefEqProofs)
    | (refine yl_pure rfl rfl rfl (by first | assumption | kernel_rfl) rfl (by first | exact hi) (by simp) (by simp) ?_; simp -implicitDefEqProofs)
    | (refine aw_cond rfl (fun h => ?_) (fun h => ?_) <;> try (with_reducible first | exact ff_tt h | exact tt_ff h))
    | (refine aw_skip ?_; simp -implicitDefEqProofs)
    | refine aw_block ?_
    | (refine aw_exit ?_; simp -implicitDefEqProofs)
    | refine aw_ret (ret_of (.inr rfl) (by simp [Tryd.results35]; rfl) (Fin.of ?_)))
  all_goals simp [tupOf]
end Go.AL
