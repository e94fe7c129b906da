import Derived.Test.YtcicdckjlkekdaaDoorK03c
/-! Contracts: value's texts, and gridironref03's. -/
namespace Go.AL
open Go.Proofs
set_option linter.unusedSimpArgs false
set_option linter.unusedVariables false
theorem figs_dec (u : Nat) : figs u = ⟨(Lib.decDigits u).toArray⟩ := by
  induction u using Nat.strongRecOn with
  | _ u ih =>
    rw [figs, Lib.decDigits]
    by_cases h : u < 10
    · rw [if_pos h, dif_pos h]; rfl
    · rw [if_neg h, dif_neg h, ih (u / 10) (by omega)]
      apply ByteArray.ext
      simp [dig]
theorem textI_itoa (n : Int) : textI n = ⟨(Lib.itoa n).toArray⟩ := by
  rw [itoa_sgnL, textI, figs_dec]
  by_cases h : n < 0
  · rw [if_pos h, decide_eq_true h]
    apply ByteArray.ext
    simp [sgnL]
  · rw [if_neg h, decide_eq_false h]; rfl
/-- The faults' names. -/
def nameF (f : Nat) : ByteArray := if f = 1 then ⟨#[35, 79, 86, 69, 82]⟩ else if f = 2 then ⟨#[35, 68, 73, 86]⟩ else if f = 3 then ⟨#[35, 82, 69, 70]⟩ else if f = 4 then ⟨#[35, 67, 89, 67, 76, 69]⟩ else ⟨#[]⟩
def vtext (n f : Int) : ByteArray := if rightV n f = true then (if f = 0 then ⟨(Lib.itoa n).toArray⟩ else nameF f.toNat) else ⟨#[]⟩
set_option maxRecDepth 100000 in
theorem names_ok : APure Tryd.prog 29 [] (.vsl [vs (nameF 0), vs (nameF 1), vs (nameF 2), vs (nameF 3), vs (nameF 4)]) := by
  refine apure_of Tryd.func29 Tryd.ntmps29 rfl ?_
  simp only [List.length_cons, List.length_nil, List.cons_append, List.nil_append, List.replicate]
  repeat' (first
    | refine aw_seq ?_
    | (refine aw_run [] ?_; simp -implicitDefEqProofs)
    | (refine aw_ymix [] draws (by decide +kernel) ?_; simp -implicitDefEqProofs)
    | (refine aw_yrun draws (by kernel_rfl) ?_; simp -implicitDefEqProofs)
    | (refine awl_skip' [] rfl ?_; simp -implicitDefEqProofs)
    | (refine aw_cond rfl (fun h => ?_) (fun h => ?_) <;> try (with_reducible first | exact ff_tt h | exact tt_ff h))
    | (refine aw_skip ?_; simp -implicitDefEqProofs)
    | refine aw_block ?_
    | (refine aw_exit ?_; simp -implicitDefEqProofs)
    | refine aw_ret (ret_of (.inr rfl) (by simp [Tryd.results29]; rfl) (Fin.of ?_)))
  rfl
theorem rightV_f {n f : Int} (h : rightV n f = true) (h0 : f ≠ 0) : n = 0 ∧ (f = 1 ∨ f = 2 ∨ f = 3 ∨ f = 4) := by
  simp [rightV] at h; omega
set_option maxRecDepth 100000 in
theorem vtext_ok (n f : Int) (hn : In64 n) : APure Tryd.prog 15 [value n f] (vs (vtext n f)) := by
  have ht := ntext_ok hn
  have hv : ∀ b, rightV n f = b → APure Tryd.prog 14 [value n f] (vb b) := fun b h => h ▸ vright_ok n f
  cases hr : rightV n f with
  | false =>
    have hv := hv _ hr
    refine apure_of Tryd.func15 Tryd.ntmps15 rfl ?_
    simp only [List.length_cons, List.length_nil, List.cons_append, List.nil_append, List.replicate]
    repeat' (first
      | refine aw_seq ?_
      | (refine aw_run [] ?_; simp -implicitDefEqProofs)
      | (refine aw_ymix [] draws (by decide +kernel) ?_; simp -implicitDefEqProofs)
      | (refine aw_yrun draws (by kernel_rfl) ?_; simp -implicitDefEqProofs)
      | (refine awl_skip' [] rfl ?_; simp -implicitDefEqProofs)
      | (refine awl_pure_guard [] rfl rfl rfl (by first | assumption | kernel_rfl) rfl (fun hc => by first | exact hv) (by simp) (by simp) (by simp) ?_; simp -implicitDefEqProofs)
      | (refine yl_pureG rfl rfl rfl (by first | assumption | kernel_rfl) rfl (fun hc => by first | exact hv) (by simp) (by simp) (by simp) ?_; simp -implicitDefEqProofs)
      | (refine awl_pure' [] rfl rfl rfl (by first | assumption | kernel_rfl) rfl (by first | exact hv) (by simp) (by simp) ?_; simp -implicitDefEqProofs)
      | (refine yl_pure rfl rfl rfl (by first | assumption | kernel_rfl) rfl (by first | exact hv) (by simp) (by simp) ?_; simp -implicitDefEqProofs)
      | (refine aw_cond rfl (fun h => ?_) (fun h => ?_) <;> try (with_reducible first | exact ff_tt h | exact tt_ff h))
      | (refine aw_skip ?_; simp -implicitDefEqProofs)
      | refine aw_block ?_
      | (refine aw_exit ?_; simp -implicitDefEqProofs)
      | refine aw_ret (ret_of (.inr rfl) (by simp [Tryd.results15]; rfl) (Fin.of ?_)))
    simp [tupOf, vtext, hr]
  | true =>
    have hv := hv _ hr
    by_cases h0 : f = 0
    · subst h0
      refine apure_of Tryd.func15 Tryd.ntmps15 rfl ?_
      simp only [List.length_cons, List.length_nil, List.cons_append, List.nil_append, List.replicate]
      repeat' (first
        | refine aw_seq ?_
        | (refine aw_run [] ?_; simp -implicitDefEqProofs)
        | (refine aw_ymix [] draws (by decide +kernel) ?_; simp -implicitDefEqProofs)
        | (refine aw_yrun draws (by kernel_rfl) ?_; simp -implicitDefEqProofs)
        | (refine awl_skip' [] rfl ?_; simp -implicitDefEqProofs)
        | (refine awl_pure_guard [] rfl rfl rfl (by first | assumption | kernel_rfl) rfl (fun hc => by first | exact hv | exact ht) (by simp) (by simp) (by simp) ?_; simp -implicitDefEqProofs)
        | (refine yl_pureG rfl rfl rfl (by first | assumption | kernel_rfl) rfl (fun hc => by first | exact hv | exact ht) (by simp) (by simp) (by simp) ?_; simp -implicitDefEqProofs)
        | (refine awl_pure' [] rfl rfl rfl (by first | assumption | kernel_rfl) rfl (by first | exact hv | exact ht) (by simp) (by simp) ?_; simp -implicitDefEqProofs)
        | (refine yl_pure rfl rfl rfl (by first | assumption | kernel_rfl) rfl (by first | exact hv | exact ht) (by simp) (by simp) ?_; simp -implicitDefEqProofs)
        | (refine aw_cond rfl (fun h => ?_) (fun h => ?_) <;> try (with_reducible first | exact ff_tt h | exact tt_ff h))
        | (refine aw_skip ?_; simp -implicitDefEqProofs)
        | refine aw_block ?_
        | (refine aw_exit ?_; simp -implicitDefEqProofs)
        | refine aw_ret (ret_of (.inr rfl) (by simp [Tryd.results15]; rfl) (Fin.of ?_)))
      simp [tupOf, vtext, hr]
    · obtain ⟨rfl, hf⟩ := rightV_f hr h0
      rcases hf with rfl | rfl | rfl | rfl
      all_goals
        refine apure_of Tryd.func15 Tryd.ntmps15 rfl ?_
        simp only [List.length_cons, List.length_nil, List.cons_append, List.nil_append, List.replicate]
        repeat' (first
          | refine aw_seq ?_
          | (refine aw_run [] ?_; simp -implicitDefEqProofs)
          | (refine aw_ymix [] draws (by decide +kernel) ?_; simp -implicitDefEqProofs)
          | (refine aw_yrun draws (by kernel_rfl) ?_; simp -implicitDefEqProofs)
          | (refine awl_skip' [] rfl ?_; simp -implicitDefEqProofs)
          | (refine awl_pure_guard [] rfl rfl rfl (by first | assumption | kernel_rfl) rfl (fun hc => by first | exact hv | exact names_ok) (by simp) (by simp) (by simp) ?_; simp -implicitDefEqProofs)
          | (refine yl_pureG rfl rfl rfl (by first | assumption | kernel_rfl) rfl (fun hc => by first | exact hv | exact names_ok) (by simp) (by simp) (by simp) ?_; simp -implicitDefEqProofs)
          | (refine awl_pure' [] rfl rfl rfl (by first | assumption | kernel_rfl) rfl (by first | exact hv | exact names_ok) (by simp) (by simp) ?_; simp -implicitDefEqProofs)
          | (refine yl_pure rfl rfl rfl (by first | assumption | kernel_rfl) rfl (by first | exact hv | exact names_ok) (by simp) (by simp) ?_; simp -implicitDefEqProofs)
          | (refine aw_cond rfl (fun h => ?_) (fun h => ?_) <;> try (with_reducible first | exact ff_tt h | exact tt_ff h))
          | (refine aw_skip ?_; simp -implicitDefEqProofs)
          | refine aw_block ?_
          | (refine aw_exit ?_; simp -implicitDefEqProofs)
          | refine aw_ret (ret_of (.inr rfl) (by simp [Tryd.results15]; rfl) (Fin.of ?_)))
        simp [tupOf, vtext, hr]
def rightR (n f : Int) : Bool := decide (f = 0) || (decide (f = 1) || decide (f = 2) || decide (f = 3) || decide (f = 4)) && decide (n = 0)
theorem rightR_eq (n f : Int) : rightR n f = rightV n f := by unfold rightR rightV; grind
set_option maxRecDepth 100000 in
theorem rvright_ok (n f : Int) : APure Tryd.prog 13 [value n f] (vb (rightV n f)) := by
  rw [← rightR_eq]
  refine apure_of Tryd.func13 Tryd.ntmps13 rfl ?_
  simp only [List.length_cons, List.length_nil, List.cons_append, List.nil_append, List.replicate]
  repeat' (first
    | refine aw_seq ?_
    | (refine aw_run [] ?_; simp -implicitDefEqProofs)
    | (refine aw_ymix [] draws (by decide +kernel) ?_; simp -implicitDefEqProofs)
    | (refine aw_yrun draws (by kernel_rfl) ?_; simp -implicitDefEqProofs)
    | (refine awl_skip' [] rfl ?_; simp -implicitDefEqProofs)
    | (refine aw_cond rfl (fun h => ?_) (fun h => ?_) <;> try (with_reducible first | exact ff_tt h | exact tt_ff h))
    | (refine aw_skip ?_; simp -implicitDefEqProofs)
    | refine aw_block ?_
    | (refine aw_exit ?_; simp -implicitDefEqProofs)
    | refine aw_ret (ret_of (.inr rfl) (by simp [Tryd.results13]; rfl) (Fin.of ?_)))
  rfl
set_option maxRecDepth 100000 in
theorem rvtext_ok (n f : Int) (hn : In64 n) : APure Tryd.prog 16 [value n f] (vs (vtext n f)) := by
  have ht := rtext1_ok n hn.1 hn.2
  have hv : ∀ b, rightV n f = b → APure Tryd.prog 13 [value n f] (vb b) := fun b h => h ▸ rvright_ok n f
  cases hr : rightV n f with
  | false =>
    have hv := hv _ hr
    refine apure_of Tryd.func16 Tryd.ntmps16 rfl ?_
    simp only [List.length_cons, List.length_nil, List.cons_append, List.nil_append, List.replicate]
    repeat' (first
      | refine aw_seq ?_
      | (refine aw_run [] ?_; simp -implicitDefEqProofs)
      | (refine aw_ymix [] draws (by decide +kernel) ?_; simp -implicitDefEqProofs)
      | (refine aw_yrun draws (by kernel_rfl) ?_; simp -implicitDefEqProofs)
      | (refine awl_skip' [] rfl ?_; simp -implicitDefEqProofs)
      | (refine awl_pure_guard [] rfl rfl rfl (by first | assumption | kernel_rfl) rfl (fun hc => by first | exact hv) (by simp) (by simp) (by simp) ?_; simp -implicitDefEqProofs)
      | (refine yl_pureG rfl rfl rfl (by first | assumption | kernel_rfl) rfl (fun hc => by first | exact hv) (by simp) (by simp) (by simp) ?_; simp -implicitDefEqProofs)
      | (refine awl_pure' [] rfl rfl rfl (by first | assumption | kernel_rfl) rfl (by first | exact hv) (by simp) (by simp) ?_; simp -implicitDefEqProofs)
      | (refine yl_pure rfl rfl rfl (by first | assumption | kernel_rfl) rfl (by first | exact hv) (by simp) (by simp) ?_; simp -implicitDefEqProofs)
      | (refine aw_cond rfl (fun h => ?_) (fun h => ?_) <;> try (with_reducible first | exact ff_tt h | exact tt_ff h))
      | (refine aw_skip ?_; simp -implicitDefEqProofs)
      | refine aw_block ?_
      | (refine aw_exit ?_; simp -implicitDefEqProofs)
      | refine aw_ret (ret_of (.inr rfl) (by simp [Tryd.results16]; rfl) (Fin.of ?_)))
    simp [tupOf, vtext, hr]
  | true =>
    have hv := hv _ hr
    by_cases h0 : f = 0
    · subst h0
      refine apure_of Tryd.func16 Tryd.ntmps16 rfl ?_
      simp only [List.length_cons, List.length_nil, List.cons_append, List.nil_append, List.replicate]
      repeat' (first
        | refine aw_seq ?_
        | (refine aw_run [] ?_; simp -implicitDefEqProofs)
        | (refine aw_ymix [] draws (by decide +kernel) ?_; simp -implicitDefEqProofs)
        | (refine aw_yrun draws (by kernel_rfl) ?_; simp -implicitDefEqProofs)
        | (refine awl_skip' [] rfl ?_; simp -implicitDefEqProofs)
        | (refine awl_pure_guard [] rfl rfl rfl (by first | assumption | kernel_rfl) rfl (fun hc => by first | exact hv | exact ht) (by simp) (by simp) (by simp) ?_; simp -implicitDefEqProofs)
        | (refine yl_pureG rfl rfl rfl (by first | assumption | kernel_rfl) rfl (fun hc => by first | exact hv | exact ht) (by simp) (by simp) (by simp) ?_; simp -implicitDefEqProofs)
        | (refine awl_pure' [] rfl rfl rfl (by first | assumption | kernel_rfl) rfl (by first | exact hv | exact ht) (by simp) (by simp) ?_; simp -implicitDefEqProofs)
        | (refine yl_pure rfl rfl rfl (by first | assumption | kernel_rfl) rfl (by first | exact hv | exact ht) (by simp) (by simp) ?_; simp -implicitDefEqProofs)
        | (refine aw_cond rfl (fun h => ?_) (fun h => ?_) <;> try (with_reducible first | exact ff_tt h | exact tt_ff h))
        | (refine aw_skip ?_; simp -implicitDefEqProofs)
        | refine aw_block ?_
        | (refine aw_exit ?_; simp -implicitDefEqProofs)
        | refine aw_ret (ret_of (.inr rfl) (by simp [Tryd.results16]; rfl) (Fin.of ?_)))
      rw [textI_itoa]
      simp [tupOf, vtext, hr]
    · obtain ⟨rfl, hf⟩ := rightV_f hr h0
      rcases hf with rfl | rfl | rfl | rfl
      all_goals
        refine apure_of Tryd.func16 Tryd.ntmps16 rfl ?_
        simp only [List.length_cons, List.length_nil, List.cons_append, List.nil_append, List.replicate]
        repeat' (first
          | refine aw_seq ?_
          | (refine aw_run [] ?_; simp -implicitDefEqProofs)
          | (refine aw_ymix [] draws (by decide +kernel) ?_; simp -implicitDefEqProofs)
          | (refine aw_yrun draws (by kernel_rfl) ?_; simp -implicitDefEqProofs)
          | (refine awl_skip' [] rfl ?_; simp -implicitDefEqProofs)
          | (refine awl_pure_guard [] rfl rfl rfl (by first | assumption | kernel_rfl) rfl (fun hc => by first | exact hv) (by simp) (by simp) (by simp) ?_; simp -implicitDefEqProofs)
          | (refine yl_pureG rfl rfl rfl (by first | assumption | kernel_rfl) rfl (fun hc => by first | exact hv) (by simp) (by simp) (by simp) ?_; simp -implicitDefEqProofs)
          | (refine awl_pure' [] rfl rfl rfl (by first | assumption | kernel_rfl) rfl (by first | exact hv) (by simp) (by simp) ?_; simp -implicitDefEqProofs)
          | (refine yl_pure rfl rfl rfl (by first | assumption | kernel_rfl) rfl (by first | exact hv) (by simp) (by simp) ?_; simp -implicitDefEqProofs)
          | (refine aw_cond rfl (fun h => ?_) (fun h => ?_) <;> try (with_reducible first | exact ff_tt h | exact tt_ff h))
          | (refine aw_skip ?_; simp -implicitDefEqProofs)
          | refine aw_block ?_
          | (refine aw_exit ?_; simp -implicitDefEqProofs)
          | refine aw_ret (ret_of (.inr rfl) (by simp [Tryd.results16]; rfl) (Fin.of ?_)))
        simp [tupOf, vtext, hr, nameF]
/-- Whose name a text is. -/
def faultK (s : ByteArray) : Nat := if s = nameF 1 then 1 else if s = nameF 2 then 2 else if s = nameF 3 then 3 else if s = nameF 4 then 4 else 0
def vpN (s : ByteArray) : Int := if faultK s = 0 then pV s.data.toList else 0
def vpB (s : ByteArray) : Bool := !decide (faultK s = 0) || pB s.data.toList
/-- No name so far. -/
def NoName (s : ByteArray) (i : Nat) : Prop := ∀ j, 1 ≤ j → j < i → s ≠ nameF j
theorem NoName.next {s : ByteArray} {i : Nat} (h : NoName s i) (hs : ¬ s = nameF i) : NoName s (i + 1) := fun j h1 h2 => by
  by_cases e : j = i
  · subst e; exact hs
  · exact h j h1 (by omega)
theorem NoName.one (s : ByteArray) : NoName s 1 := fun j h1 h2 => by omega
theorem NoName.all {s : ByteArray} (h : NoName s 5) : faultK s = 0 := by
  unfold faultK
  rw [if_neg (h 1 (by omega) (by omega)), if_neg (h 2 (by omega) (by omega)), if_neg (h 3 (by omega) (by omega)), if_neg (h 4 (by omega) (by omega))]
theorem isName {i : Nat} (h : i = 1 ∨ i = 2 ∨ i = 3 ∨ i = 4) : faultK (nameF i) = i ∧ ¬ nameF i = ⟨#[]⟩ := by
  rcases h with rfl | rfl | rfl | rfl <;> decide
theorem vtF1 : vtext 0 1 = nameF 1 := rfl
theorem vtF2 : vtext 0 2 = nameF 2 := rfl
theorem vtF3 : vtext 0 3 = nameF 3 := rfl
theorem vtF4 : vtext 0 4 = nameF 4 := rfl
set_option maxHeartbeats 4000000 in
set_option maxRecDepth 100000 in
theorem vparse_ok (s : ByteArray) (hsz : s.size ≤ 281474976710656) : APure Tryd.prog 9 [vs s] (.tup [value (vpN s) (faultK s : Nat), vb (vpB s)]) := by
  have hp := nparse_ok s hsz
  refine apure_of Tryd.func9 Tryd.ntmps9 rfl ?_
  simp only [List.length_cons, List.length_nil, List.cons_append, List.nil_append, List.replicate]
  refine aw_seq (aw_run [2] ?_)
  simp -implicitDefEqProofs
  refine aw_seq (aw_seq (aw_run [2] ?_))
  simp -implicitDefEqProofs
  refine awl_pure' [] rfl rfl rfl (by kernel_rfl) rfl (names_ok) (by simp) (by simp) ?_
  simp -implicitDefEqProofs
  refine aw_block (aw_loopW [0, 2, 8, 9, 10] (fun n fr σ => ∃ i m : Nat, i + n = 5 ∧ 1 ≤ m ∧ NoName s i ∧ σ = mkSt [(0, [vi 0, vi 0])] [] m ∧ fr = frm 33 [(0, vs s), (2, .ptr 0 0), (8, .vsl [vs (nameF 0), vs (nameF 1), vs (nameF 2), vs (nameF 3), vs (nameF 4)]), (9, vi 5), (10, vi (i : Nat))]) 5 ?_ ?_)
  · refine ⟨mkSt [(0, [vi 0, vi 0])] [] 1, le_mkSt (by simp [σ0]) (by simp) (by simp [σ0]), 0, 1, by omega, by omega, fun j h1 h2 => by omega, rfl, by simp⟩
  · rintro n fr σ ⟨i, m, hi, hm, hno, rfl, rfl⟩
    simp
    have hm0 : ¬ 0 = m := by omega
    have hi5 : i = 0 ∨ i = 1 ∨ i = 2 ∨ i = 3 ∨ i = 4 ∨ i = 5 := by omega
    rcases hi5 with rfl | rfl | rfl | rfl | rfl | rfl
    · have hq : nameF 0 = ⟨#[]⟩ := rfl
      by_cases hs : s = ⟨#[]⟩
      · repeat' (first
          | refine aw_seq ?_
          | (refine aw_run [2] ?_; simp -implicitDefEqProofs [List.lookup, hm0, hq, hs])
          | (refine aw_ymix [2] draws (by decide +kernel) ?_; simp -implicitDefEqProofs [List.lookup, hm0, hq, hs])
          | (refine aw_yrun draws (by kernel_rfl) ?_; simp -implicitDefEqProofs [List.lookup, hm0, hq, hs])
          | (refine awl_skip' [2] rfl ?_; simp -implicitDefEqProofs [List.lookup, hm0, hq, hs])
          | (refine awl_pure_guard [2] rfl rfl rfl (by first | assumption | kernel_rfl) rfl (fun hc => by first | exact faulty_ok _) (by simp) (by simp) (by simp) ?_; simp -implicitDefEqProofs [List.lookup, hm0, hq, hs])
          | (refine yl_pureG rfl rfl rfl (by first | assumption | kernel_rfl) rfl (fun hc => by first | exact faulty_ok _) (by simp) (by simp) (by simp) ?_; simp -implicitDefEqProofs [List.lookup, hm0, hq, hs])
          | (refine awl_pure' [2] rfl rfl rfl (by first | assumption | kernel_rfl) rfl (by first | exact faulty_ok _) (by simp) (by simp) ?_; simp -implicitDefEqProofs [List.lookup, hm0, hq, hs])
          | (refine yl_pure rfl rfl rfl (by first | assumption | kernel_rfl) rfl (by first | exact faulty_ok _) (by simp) (by simp) ?_; simp -implicitDefEqProofs [List.lookup, hm0, hq, hs])
          | (refine aw_cond rfl (fun h => ?_) (fun h => ?_) <;> try (with_reducible first | exact ff_tt h | exact tt_ff h))
          | (refine aw_skip ?_; simp -implicitDefEqProofs [List.lookup, hm0, hq, hs])
          | refine aw_block ?_
          | (refine aw_exit ?_; simp -implicitDefEqProofs [List.lookup, hm0, hq, hs])
          | refine aw_ret (ret_of (.inr rfl) (by simp [Tryd.results9]; rfl) (Fin.of ?_)))
        exact ⟨n - 1, by omega, mkSt [(0, [vi 0, vi 0])] [] m, le_mkSt (by simp [List.lookup]) (by simp) (by simp), 1, by omega, m, by omega, .one _, rfl, by rw [wrap_id (by decide) (by decide)]; rfl⟩
      · repeat' (first
          | refine aw_seq ?_
          | (refine aw_run [2] ?_; simp -implicitDefEqProofs [List.lookup, hm0, hq, hs])
          | (refine aw_ymix [2] draws (by decide +kernel) ?_; simp -implicitDefEqProofs [List.lookup, hm0, hq, hs])
          | (refine aw_yrun draws (by kernel_rfl) ?_; simp -implicitDefEqProofs [List.lookup, hm0, hq, hs])
          | (refine awl_skip' [2] rfl ?_; simp -implicitDefEqProofs [List.lookup, hm0, hq, hs])
          | (refine awl_pure_guard [2] rfl rfl rfl (by first | assumption | kernel_rfl) rfl (fun hc => by first | exact faulty_ok _) (by simp) (by simp) (by simp) ?_; simp -implicitDefEqProofs [List.lookup, hm0, hq, hs])
          | (refine yl_pureG rfl rfl rfl (by first | assumption | kernel_rfl) rfl (fun hc => by first | exact faulty_ok _) (by simp) (by simp) (by simp) ?_; simp -implicitDefEqProofs [List.lookup, hm0, hq, hs])
          | (refine awl_pure' [2] rfl rfl rfl (by first | assumption | kernel_rfl) rfl (by first | exact faulty_ok _) (by simp) (by simp) ?_; simp -implicitDefEqProofs [List.lookup, hm0, hq, hs])
          | (refine yl_pure rfl rfl rfl (by first | assumption | kernel_rfl) rfl (by first | exact faulty_ok _) (by simp) (by simp) ?_; simp -implicitDefEqProofs [List.lookup, hm0, hq, hs])
          | (refine aw_cond rfl (fun h => ?_) (fun h => ?_) <;> try (with_reducible first | exact ff_tt h | exact tt_ff h))
          | (refine aw_skip ?_; simp -implicitDefEqProofs [List.lookup, hm0, hq, hs])
          | refine aw_block ?_
          | (refine aw_exit ?_; simp -implicitDefEqProofs [List.lookup, hm0, hq, hs])
          | refine aw_ret (ret_of (.inr rfl) (by simp [Tryd.results9]; rfl) (Fin.of ?_)))
        exact ⟨n - 1, by omega, mkSt [(0, [vi 0, vi 0])] [] m, le_mkSt (by simp [List.lookup]) (by simp) (by simp), 1, by omega, m, by omega, .one _, rfl, by rw [wrap_id (by decide) (by decide)]; rfl⟩
    · by_cases hs : s = nameF 1
      · subst hs
        obtain ⟨hk, hq⟩ := isName (i := 1) (by omega)
        repeat' (first
          | refine aw_seq ?_
          | (refine aw_run [2] ?_; simp -implicitDefEqProofs [List.lookup, hm0, hq, vtF1, vtF2, vtF3, vtF4])
          | (refine aw_ymix [2] draws (by decide +kernel) ?_; simp -implicitDefEqProofs [List.lookup, hm0, hq, vtF1, vtF2, vtF3, vtF4])
          | (refine aw_yrun draws (by kernel_rfl) ?_; simp -implicitDefEqProofs [List.lookup, hm0, hq, vtF1, vtF2, vtF3, vtF4])
          | (refine awl_skip' [2] rfl ?_; simp -implicitDefEqProofs [List.lookup, hm0, hq, vtF1, vtF2, vtF3, vtF4])
          | (refine awl_pure_guard [2] rfl rfl rfl (by first | assumption | kernel_rfl) rfl (fun hc => by first | exact faulty_ok _ | exact rvtext_ok 0 1 (by decide)) (by simp) (by simp) (by simp) ?_; simp -implicitDefEqProofs [List.lookup, hm0, hq, vtF1, vtF2, vtF3, vtF4])
          | (refine yl_pureG rfl rfl rfl (by first | assumption | kernel_rfl) rfl (fun hc => by first | exact faulty_ok _ | exact rvtext_ok 0 1 (by decide)) (by simp) (by simp) (by simp) ?_; simp -implicitDefEqProofs [List.lookup, hm0, hq, vtF1, vtF2, vtF3, vtF4])
          | (refine awl_pure' [2] rfl rfl rfl (by first | assumption | kernel_rfl) rfl (by first | exact faulty_ok _ | exact rvtext_ok 0 1 (by decide)) (by simp) (by simp) ?_; simp -implicitDefEqProofs [List.lookup, hm0, hq, vtF1, vtF2, vtF3, vtF4])
          | (refine yl_pure rfl rfl rfl (by first | assumption | kernel_rfl) rfl (by first | exact faulty_ok _ | exact rvtext_ok 0 1 (by decide)) (by simp) (by simp) ?_; simp -implicitDefEqProofs [List.lookup, hm0, hq, vtF1, vtF2, vtF3, vtF4])
          | (refine aw_cond rfl (fun h => ?_) (fun h => ?_) <;> try (with_reducible first | exact ff_tt h | exact tt_ff h))
          | (refine aw_skip ?_; simp -implicitDefEqProofs [List.lookup, hm0, hq, vtF1, vtF2, vtF3, vtF4])
          | refine aw_block ?_
          | (refine aw_exit ?_; simp -implicitDefEqProofs [List.lookup, hm0, hq, vtF1, vtF2, vtF3, vtF4])
          | refine aw_ret (ret_of (.inr rfl) (by simp [Tryd.results9]; rfl) (Fin.of ?_)))
        simp [tupOf, vpN, vpB, hk]
      · have hs2 : ¬ nameF 1 = s := fun e => hs e.symm
        repeat' (first
          | refine aw_seq ?_
          | (refine aw_run [2] ?_; simp -implicitDefEqProofs [List.lookup, hm0, hs, hs2, vtF1, vtF2, vtF3, vtF4])
          | (refine aw_ymix [2] draws (by decide +kernel) ?_; simp -implicitDefEqProofs [List.lookup, hm0, hs, hs2, vtF1, vtF2, vtF3, vtF4])
          | (refine aw_yrun draws (by kernel_rfl) ?_; simp -implicitDefEqProofs [List.lookup, hm0, hs, hs2, vtF1, vtF2, vtF3, vtF4])
          | (refine awl_skip' [2] rfl ?_; simp -implicitDefEqProofs [List.lookup, hm0, hs, hs2, vtF1, vtF2, vtF3, vtF4])
          | (refine awl_pure_guard [2] rfl rfl rfl (by first | assumption | kernel_rfl) rfl (fun hc => by first | exact faulty_ok _ | exact rvtext_ok 0 1 (by decide)) (by simp) (by simp) (by simp) ?_; simp -implicitDefEqProofs [List.lookup, hm0, hs, hs2, vtF1, vtF2, vtF3, vtF4])
          | (refine yl_pureG rfl rfl rfl (by first | assumption | kernel_rfl) rfl (fun hc => by first | exact faulty_ok _ | exact rvtext_ok 0 1 (by decide)) (by simp) (by simp) (by simp) ?_; simp -implicitDefEqProofs [List.lookup, hm0, hs, hs2, vtF1, vtF2, vtF3, vtF4])
          | (refine awl_pure' [2] rfl rfl rfl (by first | assumption | kernel_rfl) rfl (by first | exact faulty_ok _ | exact rvtext_ok 0 1 (by decide)) (by simp) (by simp) ?_; simp -implicitDefEqProofs [List.lookup, hm0, hs, hs2, vtF1, vtF2, vtF3, vtF4])
          | (refine yl_pure rfl rfl rfl (by first | assumption | kernel_rfl) rfl (by first | exact faulty_ok _ | exact rvtext_ok 0 1 (by decide)) (by simp) (by simp) ?_; simp -implicitDefEqProofs [List.lookup, hm0, hs, hs2, vtF1, vtF2, vtF3, vtF4])
          | (refine aw_cond rfl (fun h => ?_) (fun h => ?_) <;> try (with_reducible first | exact ff_tt h | exact tt_ff h))
          | (refine aw_skip ?_; simp -implicitDefEqProofs [List.lookup, hm0, hs, hs2, vtF1, vtF2, vtF3, vtF4])
          | refine aw_block ?_
          | (refine aw_exit ?_; simp -implicitDefEqProofs [List.lookup, hm0, hs, hs2, vtF1, vtF2, vtF3, vtF4])
          | refine aw_ret (ret_of (.inr rfl) (by simp [Tryd.results9]; rfl) (Fin.of ?_)))
        exact ⟨n - 1, by omega, mkSt [(0, [vi 0, vi 0])] [] m, le_mkSt (by simp [List.lookup]) (by simp) (by simp), 1 + 1, by omega, m, by omega, hno.next hs, rfl, by rw [wrap_id (by decide) (by decide)]; rfl⟩
    · by_cases hs : s = nameF 2
      · subst hs
        obtain ⟨hk, hq⟩ := isName (i := 2) (by omega)
        repeat' (first
          | refine aw_seq ?_
          | (refine aw_run [2] ?_; simp -implicitDefEqProofs [List.lookup, hm0, hq, vtF1, vtF2, vtF3, vtF4])
          | (refine aw_ymix [2] draws (by decide +kernel) ?_; simp -implicitDefEqProofs [List.lookup, hm0, hq, vtF1, vtF2, vtF3, vtF4])
          | (refine aw_yrun draws (by kernel_rfl) ?_; simp -implicitDefEqProofs [List.lookup, hm0, hq, vtF1, vtF2, vtF3, vtF4])
          | (refine awl_skip' [2] rfl ?_; simp -implicitDefEqProofs [List.lookup, hm0, hq, vtF1, vtF2, vtF3, vtF4])
          | (refine awl_pure_guard [2] rfl rfl rfl (by first | assumption | kernel_rfl) rfl (fun hc => by first | exact faulty_ok _ | exact rvtext_ok 0 2 (by decide)) (by simp) (by simp) (by simp) ?_; simp -implicitDefEqProofs [List.lookup, hm0, hq, vtF1, vtF2, vtF3, vtF4])
          | (refine yl_pureG rfl rfl rfl (by first | assumption | kernel_rfl) rfl (fun hc => by first | exact faulty_ok _ | exact rvtext_ok 0 2 (by decide)) (by simp) (by simp) (by simp) ?_; simp -implicitDefEqProofs [List.lookup, hm0, hq, vtF1, vtF2, vtF3, vtF4])
          | (refine awl_pure' [2] rfl rfl rfl (by first | assumption | kernel_rfl) rfl (by first | exact faulty_ok _ | exact rvtext_ok 0 2 (by decide)) (by simp) (by simp) ?_; simp -implicitDefEqProofs [List.lookup, hm0, hq, vtF1, vtF2, vtF3, vtF4])
          | (refine yl_pure rfl rfl rfl (by first | assumption | kernel_rfl) rfl (by first | exact faulty_ok _ | exact rvtext_ok 0 2 (by decide)) (by simp) (by simp) ?_; simp -implicitDefEqProofs [List.lookup, hm0, hq, vtF1, vtF2, vtF3, vtF4])
          | (refine aw_cond rfl (fun h => ?_) (fun h => ?_) <;> try (with_reducible first | exact ff_tt h | exact tt_ff h))
          | (refine aw_skip ?_; simp -implicitDefEqProofs [List.lookup, hm0, hq, vtF1, vtF2, vtF3, vtF4])
          | refine aw_block ?_
          | (refine aw_exit ?_; simp -implicitDefEqProofs [List.lookup, hm0, hq, vtF1, vtF2, vtF3, vtF4])
          | refine aw_ret (ret_of (.inr rfl) (by simp [Tryd.results9]; rfl) (Fin.of ?_)))
        simp [tupOf, vpN, vpB, hk]
      · have hs2 : ¬ nameF 2 = s := fun e => hs e.symm
        repeat' (first
          | refine aw_seq ?_
          | (refine aw_run [2] ?_; simp -implicitDefEqProofs [List.lookup, hm0, hs, hs2, vtF1, vtF2, vtF3, vtF4])
          | (refine aw_ymix [2] draws (by decide +kernel) ?_; simp -implicitDefEqProofs [List.lookup, hm0, hs, hs2, vtF1, vtF2, vtF3, vtF4])
          | (refine aw_yrun draws (by kernel_rfl) ?_; simp -implicitDefEqProofs [List.lookup, hm0, hs, hs2, vtF1, vtF2, vtF3, vtF4])
          | (refine awl_skip' [2] rfl ?_; simp -implicitDefEqProofs [List.lookup, hm0, hs, hs2, vtF1, vtF2, vtF3, vtF4])
          | (refine awl_pure_guard [2] rfl rfl rfl (by first | assumption | kernel_rfl) rfl (fun hc => by first | exact faulty_ok _ | exact rvtext_ok 0 2 (by decide)) (by simp) (by simp) (by simp) ?_; simp -implicitDefEqProofs [List.lookup, hm0, hs, hs2, vtF1, vtF2, vtF3, vtF4])
          | (refine yl_pureG rfl rfl rfl (by first | assumption | kernel_rfl) rfl (fun hc => by first | exact faulty_ok _ | exact rvtext_ok 0 2 (by decide)) (by simp) (by simp) (by simp) ?_; simp -implicitDefEqProofs [List.lookup, hm0, hs, hs2, vtF1, vtF2, vtF3, vtF4])
          | (refine awl_pure' [2] rfl rfl rfl (by first | assumption | kernel_rfl) rfl (by first | exact faulty_ok _ | exact rvtext_ok 0 2 (by decide)) (by simp) (by simp) ?_; simp -implicitDefEqProofs [List.lookup, hm0, hs, hs2, vtF1, vtF2, vtF3, vtF4])
          | (refine yl_pure rfl rfl rfl (by first | assumption | kernel_rfl) rfl (by first | exact faulty_ok _ | exact rvtext_ok 0 2 (by decide)) (by simp) (by simp) ?_; simp -implicitDefEqProofs [List.lookup, hm0, hs, hs2, vtF1, vtF2, vtF3, vtF4])
          | (refine aw_cond rfl (fun h => ?_) (fun h => ?_) <;> try (with_reducible first | exact ff_tt h | exact tt_ff h))
          | (refine aw_skip ?_; simp -implicitDefEqProofs [List.lookup, hm0, hs, hs2, vtF1, vtF2, vtF3, vtF4])
          | refine aw_block ?_
          | (refine aw_exit ?_; simp -implicitDefEqProofs [List.lookup, hm0, hs, hs2, vtF1, vtF2, vtF3, vtF4])
          | refine aw_ret (ret_of (.inr rfl) (by simp [Tryd.results9]; rfl) (Fin.of ?_)))
        exact ⟨n - 1, by omega, mkSt [(0, [vi 0, vi 0])] [] m, le_mkSt (by simp [List.lookup]) (by simp) (by simp), 2 + 1, by omega, m, by omega, hno.next hs, rfl, by rw [wrap_id (by decide) (by decide)]; rfl⟩
    · by_cases hs : s = nameF 3
      · subst hs
        obtain ⟨hk, hq⟩ := isName (i := 3) (by omega)
        repeat' (first
          | refine aw_seq ?_
          | (refine aw_run [2] ?_; simp -implicitDefEqProofs [List.lookup, hm0, hq, vtF1, vtF2, vtF3, vtF4])
          | (refine aw_ymix [2] draws (by decide +kernel) ?_; simp -implicitDefEqProofs [List.lookup, hm0, hq, vtF1, vtF2, vtF3, vtF4])
          | (refine aw_yrun draws (by kernel_rfl) ?_; simp -implicitDefEqProofs [List.lookup, hm0, hq, vtF1, vtF2, vtF3, vtF4])
          | (refine awl_skip' [2] rfl ?_; simp -implicitDefEqProofs [List.lookup, hm0, hq, vtF1, vtF2, vtF3, vtF4])
          | (refine awl_pure_guard [2] rfl rfl rfl (by first | assumption | kernel_rfl) rfl (fun hc => by first | exact faulty_ok _ | exact rvtext_ok 0 3 (by decide)) (by simp) (by simp) (by simp) ?_; simp -implicitDefEqProofs [List.lookup, hm0, hq, vtF1, vtF2, vtF3, vtF4])
          | (refine yl_pureG rfl rfl rfl (by first | assumption | kernel_rfl) rfl (fun hc => by first | exact faulty_ok _ | exact rvtext_ok 0 3 (by decide)) (by simp) (by simp) (by simp) ?_; simp -implicitDefEqProofs [List.lookup, hm0, hq, vtF1, vtF2, vtF3, vtF4])
          | (refine awl_pure' [2] rfl rfl rfl (by first | assumption | kernel_rfl) rfl (by first | exact faulty_ok _ | exact rvtext_ok 0 3 (by decide)) (by simp) (by simp) ?_; simp -implicitDefEqProofs [List.lookup, hm0, hq, vtF1, vtF2, vtF3, vtF4])
          | (refine yl_pure rfl rfl rfl (by first | assumption | kernel_rfl) rfl (by first | exact faulty_ok _ | exact rvtext_ok 0 3 (by decide)) (by simp) (by simp) ?_; simp -implicitDefEqProofs [List.lookup, hm0, hq, vtF1, vtF2, vtF3, vtF4])
          | (refine aw_cond rfl (fun h => ?_) (fun h => ?_) <;> try (with_reducible first | exact ff_tt h | exact tt_ff h))
          | (refine aw_skip ?_; simp -implicitDefEqProofs [List.lookup, hm0, hq, vtF1, vtF2, vtF3, vtF4])
          | refine aw_block ?_
          | (refine aw_exit ?_; simp -implicitDefEqProofs [List.lookup, hm0, hq, vtF1, vtF2, vtF3, vtF4])
          | refine aw_ret (ret_of (.inr rfl) (by simp [Tryd.results9]; rfl) (Fin.of ?_)))
        simp [tupOf, vpN, vpB, hk]
      · have hs2 : ¬ nameF 3 = s := fun e => hs e.symm
        repeat' (first
          | refine aw_seq ?_
          | (refine aw_run [2] ?_; simp -implicitDefEqProofs [List.lookup, hm0, hs, hs2, vtF1, vtF2, vtF3, vtF4])
          | (refine aw_ymix [2] draws (by decide +kernel) ?_; simp -implicitDefEqProofs [List.lookup, hm0, hs, hs2, vtF1, vtF2, vtF3, vtF4])
          | (refine aw_yrun draws (by kernel_rfl) ?_; simp -implicitDefEqProofs [List.lookup, hm0, hs, hs2, vtF1, vtF2, vtF3, vtF4])
          | (refine awl_skip' [2] rfl ?_; simp -implicitDefEqProofs [List.lookup, hm0, hs, hs2, vtF1, vtF2, vtF3, vtF4])
          | (refine awl_pure_guard [2] rfl rfl rfl (by first | assumption | kernel_rfl) rfl (fun hc => by first | exact faulty_ok _ | exact rvtext_ok 0 3 (by decide)) (by simp) (by simp) (by simp) ?_; simp -implicitDefEqProofs [List.lookup, hm0, hs, hs2, vtF1, vtF2, vtF3, vtF4])
          | (refine yl_pureG rfl rfl rfl (by first | assumption | kernel_rfl) rfl (fun hc => by first | exact faulty_ok _ | exact rvtext_ok 0 3 (by decide)) (by simp) (by simp) (by simp) ?_; simp -implicitDefEqProofs [List.lookup, hm0, hs, hs2, vtF1, vtF2, vtF3, vtF4])
          | (refine awl_pure' [2] rfl rfl rfl (by first | assumption | kernel_rfl) rfl (by first | exact faulty_ok _ | exact rvtext_ok 0 3 (by decide)) (by simp) (by simp) ?_; simp -implicitDefEqProofs [List.lookup, hm0, hs, hs2, vtF1, vtF2, vtF3, vtF4])
          | (refine yl_pure rfl rfl rfl (by first | assumption | kernel_rfl) rfl (by first | exact faulty_ok _ | exact rvtext_ok 0 3 (by decide)) (by simp) (by simp) ?_; simp -implicitDefEqProofs [List.lookup, hm0, hs, hs2, vtF1, vtF2, vtF3, vtF4])
          | (refine aw_cond rfl (fun h => ?_) (fun h => ?_) <;> try (with_reducible first | exact ff_tt h | exact tt_ff h))
          | (refine aw_skip ?_; simp -implicitDefEqProofs [List.lookup, hm0, hs, hs2, vtF1, vtF2, vtF3, vtF4])
          | refine aw_block ?_
          | (refine aw_exit ?_; simp -implicitDefEqProofs [List.lookup, hm0, hs, hs2, vtF1, vtF2, vtF3, vtF4])
          | refine aw_ret (ret_of (.inr rfl) (by simp [Tryd.results9]; rfl) (Fin.of ?_)))
        exact ⟨n - 1, by omega, mkSt [(0, [vi 0, vi 0])] [] m, le_mkSt (by simp [List.lookup]) (by simp) (by simp), 3 + 1, by omega, m, by omega, hno.next hs, rfl, by rw [wrap_id (by decide) (by decide)]; rfl⟩
    · by_cases hs : s = nameF 4
      · subst hs
        obtain ⟨hk, hq⟩ := isName (i := 4) (by omega)
        repeat' (first
          | refine aw_seq ?_
          | (refine aw_run [2] ?_; simp -implicitDefEqProofs [List.lookup, hm0, hq, vtF1, vtF2, vtF3, vtF4])
          | (refine aw_ymix [2] draws (by decide +kernel) ?_; simp -implicitDefEqProofs [List.lookup, hm0, hq, vtF1, vtF2, vtF3, vtF4])
          | (refine aw_yrun draws (by kernel_rfl) ?_; simp -implicitDefEqProofs [List.lookup, hm0, hq, vtF1, vtF2, vtF3, vtF4])
          | (refine awl_skip' [2] rfl ?_; simp -implicitDefEqProofs [List.lookup, hm0, hq, vtF1, vtF2, vtF3, vtF4])
          | (refine awl_pure_guard [2] rfl rfl rfl (by first | assumption | kernel_rfl) rfl (fun hc => by first | exact faulty_ok _ | exact rvtext_ok 0 4 (by decide)) (by simp) (by simp) (by simp) ?_; simp -implicitDefEqProofs [List.lookup, hm0, hq, vtF1, vtF2, vtF3, vtF4])
          | (refine yl_pureG rfl rfl rfl (by first | assumption | kernel_rfl) rfl (fun hc => by first | exact faulty_ok _ | exact rvtext_ok 0 4 (by decide)) (by simp) (by simp) (by simp) ?_; simp -implicitDefEqProofs [List.lookup, hm0, hq, vtF1, vtF2, vtF3, vtF4])
          | (refine awl_pure' [2] rfl rfl rfl (by first | assumption | kernel_rfl) rfl (by first | exact faulty_ok _ | exact rvtext_ok 0 4 (by decide)) (by simp) (by simp) ?_; simp -implicitDefEqProofs [List.lookup, hm0, hq, vtF1, vtF2, vtF3, vtF4])
          | (refine yl_pure rfl rfl rfl (by first | assumption | kernel_rfl) rfl (by first | exact faulty_ok _ | exact rvtext_ok 0 4 (by decide)) (by simp) (by simp) ?_; simp -implicitDefEqProofs [List.lookup, hm0, hq, vtF1, vtF2, vtF3, vtF4])
          | (refine aw_cond rfl (fun h => ?_) (fun h => ?_) <;> try (with_reducible first | exact ff_tt h | exact tt_ff h))
          | (refine aw_skip ?_; simp -implicitDefEqProofs [List.lookup, hm0, hq, vtF1, vtF2, vtF3, vtF4])
          | refine aw_block ?_
          | (refine aw_exit ?_; simp -implicitDefEqProofs [List.lookup, hm0, hq, vtF1, vtF2, vtF3, vtF4])
          | refine aw_ret (ret_of (.inr rfl) (by simp [Tryd.results9]; rfl) (Fin.of ?_)))
        simp [tupOf, vpN, vpB, hk]
      · have hs2 : ¬ nameF 4 = s := fun e => hs e.symm
        repeat' (first
          | refine aw_seq ?_
          | (refine aw_run [2] ?_; simp -implicitDefEqProofs [List.lookup, hm0, hs, hs2, vtF1, vtF2, vtF3, vtF4])
          | (refine aw_ymix [2] draws (by decide +kernel) ?_; simp -implicitDefEqProofs [List.lookup, hm0, hs, hs2, vtF1, vtF2, vtF3, vtF4])
          | (refine aw_yrun draws (by kernel_rfl) ?_; simp -implicitDefEqProofs [List.lookup, hm0, hs, hs2, vtF1, vtF2, vtF3, vtF4])
          | (refine awl_skip' [2] rfl ?_; simp -implicitDefEqProofs [List.lookup, hm0, hs, hs2, vtF1, vtF2, vtF3, vtF4])
          | (refine awl_pure_guard [2] rfl rfl rfl (by first | assumption | kernel_rfl) rfl (fun hc => by first | exact faulty_ok _ | exact rvtext_ok 0 4 (by decide)) (by simp) (by simp) (by simp) ?_; simp -implicitDefEqProofs [List.lookup, hm0, hs, hs2, vtF1, vtF2, vtF3, vtF4])
          | (refine yl_pureG rfl rfl rfl (by first | assumption | kernel_rfl) rfl (fun hc => by first | exact faulty_ok _ | exact rvtext_ok 0 4 (by decide)) (by simp) (by simp) (by simp) ?_; simp -implicitDefEqProofs [List.lookup, hm0, hs, hs2, vtF1, vtF2, vtF3, vtF4])
          | (refine awl_pure' [2] rfl rfl rfl (by first | assumption | kernel_rfl) rfl (by first | exact faulty_ok _ | exact rvtext_ok 0 4 (by decide)) (by simp) (by simp) ?_; simp -implicitDefEqProofs [List.lookup, hm0, hs, hs2, vtF1, vtF2, vtF3, vtF4])
          | (refine yl_pure rfl rfl rfl (by first | assumption | kernel_rfl) rfl (by first | exact faulty_ok _ | exact rvtext_ok 0 4 (by decide)) (by simp) (by simp) ?_; simp -implicitDefEqProofs [List.lookup, hm0, hs, hs2, vtF1, vtF2, vtF3, vtF4])
          | (refine aw_cond rfl (fun h => ?_) (fun h => ?_) <;> try (with_reducible first | exact ff_tt h | exact tt_ff h))
          | (refine aw_skip ?_; simp -implicitDefEqProofs [List.lookup, hm0, hs, hs2, vtF1, vtF2, vtF3, vtF4])
          | refine aw_block ?_
          | (refine aw_exit ?_; simp -implicitDefEqProofs [List.lookup, hm0, hs, hs2, vtF1, vtF2, vtF3, vtF4])
          | refine aw_ret (ret_of (.inr rfl) (by simp [Tryd.results9]; rfl) (Fin.of ?_)))
        exact ⟨n - 1, by omega, mkSt [(0, [vi 0, vi 0])] [] m, le_mkSt (by simp [List.lookup]) (by simp) (by simp), 4 + 1, by omega, m, by omega, hno.next hs, rfl, by rw [wrap_id (by decide) (by decide)]; rfl⟩
    · have hk := hno.all
      repeat' (first
        | refine aw_seq ?_
        | (refine aw_run [2] ?_; simp -implicitDefEqProofs [List.lookup, hm0])
        | (refine aw_ymix [2] draws (by decide +kernel) ?_; simp -implicitDefEqProofs [List.lookup, hm0])
        | (refine aw_yrun draws (by kernel_rfl) ?_; simp -implicitDefEqProofs [List.lookup, hm0])
        | (refine awl_skip' [2] rfl ?_; simp -implicitDefEqProofs [List.lookup, hm0])
        | (refine awl_pure_guard [2] rfl rfl rfl (by first | assumption | kernel_rfl) rfl (fun hc => by first | exact hp) (by simp) (by simp) (by simp) ?_; simp -implicitDefEqProofs [List.lookup, hm0])
        | (refine yl_pureG rfl rfl rfl (by first | assumption | kernel_rfl) rfl (fun hc => by first | exact hp) (by simp) (by simp) (by simp) ?_; simp -implicitDefEqProofs [List.lookup, hm0])
        | (refine awl_pure' [2] rfl rfl rfl (by first | assumption | kernel_rfl) rfl (by first | exact hp) (by simp) (by simp) ?_; simp -implicitDefEqProofs [List.lookup, hm0])
        | (refine yl_pure rfl rfl rfl (by first | assumption | kernel_rfl) rfl (by first | exact hp) (by simp) (by simp) ?_; simp -implicitDefEqProofs [List.lookup, hm0])
        | (refine aw_cond rfl (fun h => ?_) (fun h => ?_) <;> try (with_reducible first | exact ff_tt h | exact tt_ff h))
        | (refine aw_skip ?_; simp -implicitDefEqProofs [List.lookup, hm0])
        | refine aw_block ?_
        | (refine aw_exit ?_; simp -implicitDefEqProofs [List.lookup, hm0])
        | refine aw_ret (ret_of (.inr rfl) (by simp [Tryd.results9]; rfl) (Fin.of ?_)))
      simp [tupOf, vpN, vpB, hk]
set_option maxHeartbeats 4000000 in
set_option maxRecDepth 100000 in
theorem rvparse_ok (s : ByteArray) (hsz : s.size ≤ 281474976710656) : APure Tryd.prog 10 [vs s] (.tup [value (vpN s) (faultK s : Nat), vb (vpB s)]) := by
  have hp := rparse1_ok s hsz
  refine apure_of Tryd.func10 Tryd.ntmps10 rfl ?_
  simp only [List.length_cons, List.length_nil, List.cons_append, List.nil_append, List.replicate]
  refine aw_seq (aw_run [2] ?_)
  simp -implicitDefEqProofs
  refine aw_seq (aw_seq (aw_run [2] ?_))
  simp -implicitDefEqProofs
  refine aw_block (aw_loopW [0, 2, 4] (fun n fr σ => ∃ i m : Nat, i + n = 5 ∧ 1 ≤ i ∧ 1 ≤ m ∧ NoName s i ∧ σ = mkSt [(0, [vi 0, vi 0])] [] m ∧ fr = frm 28 [(0, vs s), (2, .ptr 0 0), (4, vi (i : Nat))]) 4 ?_ ?_)
  · refine ⟨mkSt [(0, [vi 0, vi 0])] [] 1, le_mkSt (by simp [σ0]) (by simp) (by simp [σ0]), 1, 1, by omega, by omega, by omega, .one _, rfl, by simp⟩
  · rintro n fr σ ⟨i, m, hi, hi1, hm, hno, rfl, rfl⟩
    simp
    have hm0 : ¬ 0 = m := by omega
    have hi5 : i = 1 ∨ i = 2 ∨ i = 3 ∨ i = 4 ∨ i = 5 := by omega
    rcases hi5 with rfl | rfl | rfl | rfl | rfl
    · by_cases hs : s = nameF 1
      · subst hs
        obtain ⟨hk, hq⟩ := isName (i := 1) (by omega)
        repeat' (first
          | refine aw_seq ?_
          | (refine aw_run [2] ?_; simp -implicitDefEqProofs [List.lookup, hm0, hq, vtF1, vtF2, vtF3, vtF4])
          | (refine aw_ymix [2] draws (by decide +kernel) ?_; simp -implicitDefEqProofs [List.lookup, hm0, hq, vtF1, vtF2, vtF3, vtF4])
          | (refine aw_yrun draws (by kernel_rfl) ?_; simp -implicitDefEqProofs [List.lookup, hm0, hq, vtF1, vtF2, vtF3, vtF4])
          | (refine awl_skip' [2] rfl ?_; simp -implicitDefEqProofs [List.lookup, hm0, hq, vtF1, vtF2, vtF3, vtF4])
          | (refine awl_pure_guard [2] rfl rfl rfl (by first | assumption | kernel_rfl) rfl (fun hc => by first | exact faulty_ok _ | exact rvtext_ok 0 1 (by decide)) (by simp) (by simp) (by simp) ?_; simp -implicitDefEqProofs [List.lookup, hm0, hq, vtF1, vtF2, vtF3, vtF4])
          | (refine yl_pureG rfl rfl rfl (by first | assumption | kernel_rfl) rfl (fun hc => by first | exact faulty_ok _ | exact rvtext_ok 0 1 (by decide)) (by simp) (by simp) (by simp) ?_; simp -implicitDefEqProofs [List.lookup, hm0, hq, vtF1, vtF2, vtF3, vtF4])
          | (refine awl_pure' [2] rfl rfl rfl (by first | assumption | kernel_rfl) rfl (by first | exact faulty_ok _ | exact rvtext_ok 0 1 (by decide)) (by simp) (by simp) ?_; simp -implicitDefEqProofs [List.lookup, hm0, hq, vtF1, vtF2, vtF3, vtF4])
          | (refine yl_pure rfl rfl rfl (by first | assumption | kernel_rfl) rfl (by first | exact faulty_ok _ | exact rvtext_ok 0 1 (by decide)) (by simp) (by simp) ?_; simp -implicitDefEqProofs [List.lookup, hm0, hq, vtF1, vtF2, vtF3, vtF4])
          | (refine aw_cond rfl (fun h => ?_) (fun h => ?_) <;> try (with_reducible first | exact ff_tt h | exact tt_ff h))
          | (refine aw_skip ?_; simp -implicitDefEqProofs [List.lookup, hm0, hq, vtF1, vtF2, vtF3, vtF4])
          | refine aw_block ?_
          | (refine aw_exit ?_; simp -implicitDefEqProofs [List.lookup, hm0, hq, vtF1, vtF2, vtF3, vtF4])
          | refine aw_ret (ret_of (.inr rfl) (by simp [Tryd.results10]; rfl) (Fin.of ?_)))
        simp [tupOf, vpN, vpB, hk]
      · have hs2 : ¬ nameF 1 = s := fun e => hs e.symm
        repeat' (first
          | refine aw_seq ?_
          | (refine aw_run [2] ?_; simp -implicitDefEqProofs [List.lookup, hm0, hs, hs2, vtF1, vtF2, vtF3, vtF4])
          | (refine aw_ymix [2] draws (by decide +kernel) ?_; simp -implicitDefEqProofs [List.lookup, hm0, hs, hs2, vtF1, vtF2, vtF3, vtF4])
          | (refine aw_yrun draws (by kernel_rfl) ?_; simp -implicitDefEqProofs [List.lookup, hm0, hs, hs2, vtF1, vtF2, vtF3, vtF4])
          | (refine awl_skip' [2] rfl ?_; simp -implicitDefEqProofs [List.lookup, hm0, hs, hs2, vtF1, vtF2, vtF3, vtF4])
          | (refine awl_pure_guard [2] rfl rfl rfl (by first | assumption | kernel_rfl) rfl (fun hc => by first | exact faulty_ok _ | exact rvtext_ok 0 1 (by decide)) (by simp) (by simp) (by simp) ?_; simp -implicitDefEqProofs [List.lookup, hm0, hs, hs2, vtF1, vtF2, vtF3, vtF4])
          | (refine yl_pureG rfl rfl rfl (by first | assumption | kernel_rfl) rfl (fun hc => by first | exact faulty_ok _ | exact rvtext_ok 0 1 (by decide)) (by simp) (by simp) (by simp) ?_; simp -implicitDefEqProofs [List.lookup, hm0, hs, hs2, vtF1, vtF2, vtF3, vtF4])
          | (refine awl_pure' [2] rfl rfl rfl (by first | assumption | kernel_rfl) rfl (by first | exact faulty_ok _ | exact rvtext_ok 0 1 (by decide)) (by simp) (by simp) ?_; simp -implicitDefEqProofs [List.lookup, hm0, hs, hs2, vtF1, vtF2, vtF3, vtF4])
          | (refine yl_pure rfl rfl rfl (by first | assumption | kernel_rfl) rfl (by first | exact faulty_ok _ | exact rvtext_ok 0 1 (by decide)) (by simp) (by simp) ?_; simp -implicitDefEqProofs [List.lookup, hm0, hs, hs2, vtF1, vtF2, vtF3, vtF4])
          | (refine aw_cond rfl (fun h => ?_) (fun h => ?_) <;> try (with_reducible first | exact ff_tt h | exact tt_ff h))
          | (refine aw_skip ?_; simp -implicitDefEqProofs [List.lookup, hm0, hs, hs2, vtF1, vtF2, vtF3, vtF4])
          | refine aw_block ?_
          | (refine aw_exit ?_; simp -implicitDefEqProofs [List.lookup, hm0, hs, hs2, vtF1, vtF2, vtF3, vtF4])
          | refine aw_ret (ret_of (.inr rfl) (by simp [Tryd.results10]; rfl) (Fin.of ?_)))
        exact ⟨n - 1, by omega, mkSt [(0, [vi 0, vi 0])] [] m, le_mkSt (by simp [List.lookup]) (by simp) (by simp), 1 + 1, by omega, by omega, m, by omega, hno.next hs, rfl, by rw [wrap_id (by decide) (by decide)]; rfl⟩
    · by_cases hs : s = nameF 2
      · subst hs
        obtain ⟨hk, hq⟩ := isName (i := 2) (by omega)
        repeat' (first
          | refine aw_seq ?_
          | (refine aw_run [2] ?_; simp -implicitDefEqProofs [List.lookup, hm0, hq, vtF1, vtF2, vtF3, vtF4])
          | (refine aw_ymix [2] draws (by decide +kernel) ?_; simp -implicitDefEqProofs [List.lookup, hm0, hq, vtF1, vtF2, vtF3, vtF4])
          | (refine aw_yrun draws (by kernel_rfl) ?_; simp -implicitDefEqProofs [List.lookup, hm0, hq, vtF1, vtF2, vtF3, vtF4])
          | (refine awl_skip' [2] rfl ?_; simp -implicitDefEqProofs [List.lookup, hm0, hq, vtF1, vtF2, vtF3, vtF4])
          | (refine awl_pure_guard [2] rfl rfl rfl (by first | assumption | kernel_rfl) rfl (fun hc => by first | exact faulty_ok _ | exact rvtext_ok 0 2 (by decide)) (by simp) (by simp) (by simp) ?_; simp -implicitDefEqProofs [List.lookup, hm0, hq, vtF1, vtF2, vtF3, vtF4])
          | (refine yl_pureG rfl rfl rfl (by first | assumption | kernel_rfl) rfl (fun hc => by first | exact faulty_ok _ | exact rvtext_ok 0 2 (by decide)) (by simp) (by simp) (by simp) ?_; simp -implicitDefEqProofs [List.lookup, hm0, hq, vtF1, vtF2, vtF3, vtF4])
          | (refine awl_pure' [2] rfl rfl rfl (by first | assumption | kernel_rfl) rfl (by first | exact faulty_ok _ | exact rvtext_ok 0 2 (by decide)) (by simp) (by simp) ?_; simp -implicitDefEqProofs [List.lookup, hm0, hq, vtF1, vtF2, vtF3, vtF4])
          | (refine yl_pure rfl rfl rfl (by first | assumption | kernel_rfl) rfl (by first | exact faulty_ok _ | exact rvtext_ok 0 2 (by decide)) (by simp) (by simp) ?_; simp -implicitDefEqProofs [List.lookup, hm0, hq, vtF1, vtF2, vtF3, vtF4])
          | (refine aw_cond rfl (fun h => ?_) (fun h => ?_) <;> try (with_reducible first | exact ff_tt h | exact tt_ff h))
          | (refine aw_skip ?_; simp -implicitDefEqProofs [List.lookup, hm0, hq, vtF1, vtF2, vtF3, vtF4])
          | refine aw_block ?_
          | (refine aw_exit ?_; simp -implicitDefEqProofs [List.lookup, hm0, hq, vtF1, vtF2, vtF3, vtF4])
          | refine aw_ret (ret_of (.inr rfl) (by simp [Tryd.results10]; rfl) (Fin.of ?_)))
        simp [tupOf, vpN, vpB, hk]
      · have hs2 : ¬ nameF 2 = s := fun e => hs e.symm
        repeat' (first
          | refine aw_seq ?_
          | (refine aw_run [2] ?_; simp -implicitDefEqProofs [List.lookup, hm0, hs, hs2, vtF1, vtF2, vtF3, vtF4])
          | (refine aw_ymix [2] draws (by decide +kernel) ?_; simp -implicitDefEqProofs [List.lookup, hm0, hs, hs2, vtF1, vtF2, vtF3, vtF4])
          | (refine aw_yrun draws (by kernel_rfl) ?_; simp -implicitDefEqProofs [List.lookup, hm0, hs, hs2, vtF1, vtF2, vtF3, vtF4])
          | (refine awl_skip' [2] rfl ?_; simp -implicitDefEqProofs [List.lookup, hm0, hs, hs2, vtF1, vtF2, vtF3, vtF4])
          | (refine awl_pure_guard [2] rfl rfl rfl (by first | assumption | kernel_rfl) rfl (fun hc => by first | exact faulty_ok _ | exact rvtext_ok 0 2 (by decide)) (by simp) (by simp) (by simp) ?_; simp -implicitDefEqProofs [List.lookup, hm0, hs, hs2, vtF1, vtF2, vtF3, vtF4])
          | (refine yl_pureG rfl rfl rfl (by first | assumption | kernel_rfl) rfl (fun hc => by first | exact faulty_ok _ | exact rvtext_ok 0 2 (by decide)) (by simp) (by simp) (by simp) ?_; simp -implicitDefEqProofs [List.lookup, hm0, hs, hs2, vtF1, vtF2, vtF3, vtF4])
          | (refine awl_pure' [2] rfl rfl rfl (by first | assumption | kernel_rfl) rfl (by first | exact faulty_ok _ | exact rvtext_ok 0 2 (by decide)) (by simp) (by simp) ?_; simp -implicitDefEqProofs [List.lookup, hm0, hs, hs2, vtF1, vtF2, vtF3, vtF4])
          | (refine yl_pure rfl rfl rfl (by first | assumption | kernel_rfl) rfl (by first | exact faulty_ok _ | exact rvtext_ok 0 2 (by decide)) (by simp) (by simp) ?_; simp -implicitDefEqProofs [List.lookup, hm0, hs, hs2, vtF1, vtF2, vtF3, vtF4])
          | (refine aw_cond rfl (fun h => ?_) (fun h => ?_) <;> try (with_reducible first | exact ff_tt h | exact tt_ff h))
          | (refine aw_skip ?_; simp -implicitDefEqProofs [List.lookup, hm0, hs, hs2, vtF1, vtF2, vtF3, vtF4])
          | refine aw_block ?_
          | (refine aw_exit ?_; simp -implicitDefEqProofs [List.lookup, hm0, hs, hs2, vtF1, vtF2, vtF3, vtF4])
          | refine aw_ret (ret_of (.inr rfl) (by simp [Tryd.results10]; rfl) (Fin.of ?_)))
        exact ⟨n - 1, by omega, mkSt [(0, [vi 0, vi 0])] [] m, le_mkSt (by simp [List.lookup]) (by simp) (by simp), 2 + 1, by omega, by omega, m, by omega, hno.next hs, rfl, by rw [wrap_id (by decide) (by decide)]; rfl⟩
    · by_cases hs : s = nameF 3
      · subst hs
        obtain ⟨hk, hq⟩ := isName (i := 3) (by omega)
        repeat' (first
          | refine aw_seq ?_
          | (refine aw_run [2] ?_; simp -implicitDefEqProofs [List.lookup, hm0, hq, vtF1, vtF2, vtF3, vtF4])
          | (refine aw_ymix [2] draws (by decide +kernel) ?_; simp -implicitDefEqProofs [List.lookup, hm0, hq, vtF1, vtF2, vtF3, vtF4])
          | (refine aw_yrun draws (by kernel_rfl) ?_; simp -implicitDefEqProofs [List.lookup, hm0, hq, vtF1, vtF2, vtF3, vtF4])
          | (refine awl_skip' [2] rfl ?_; simp -implicitDefEqProofs [List.lookup, hm0, hq, vtF1, vtF2, vtF3, vtF4])
          | (refine awl_pure_guard [2] rfl rfl rfl (by first | assumption | kernel_rfl) rfl (fun hc => by first | exact faulty_ok _ | exact rvtext_ok 0 3 (by decide)) (by simp) (by simp) (by simp) ?_; simp -implicitDefEqProofs [List.lookup, hm0, hq, vtF1, vtF2, vtF3, vtF4])
          | (refine yl_pureG rfl rfl rfl (by first | assumption | kernel_rfl) rfl (fun hc => by first | exact faulty_ok _ | exact rvtext_ok 0 3 (by decide)) (by simp) (by simp) (by simp) ?_; simp -implicitDefEqProofs [List.lookup, hm0, hq, vtF1, vtF2, vtF3, vtF4])
          | (refine awl_pure' [2] rfl rfl rfl (by first | assumption | kernel_rfl) rfl (by first | exact faulty_ok _ | exact rvtext_ok 0 3 (by decide)) (by simp) (by simp) ?_; simp -implicitDefEqProofs [List.lookup, hm0, hq, vtF1, vtF2, vtF3, vtF4])
          | (refine yl_pure rfl rfl rfl (by first | assumption | kernel_rfl) rfl (by first | exact faulty_ok _ | exact rvtext_ok 0 3 (by decide)) (by simp) (by simp) ?_; simp -implicitDefEqProofs [List.lookup, hm0, hq, vtF1, vtF2, vtF3, vtF4])
          | (refine aw_cond rfl (fun h => ?_) (fun h => ?_) <;> try (with_reducible first | exact ff_tt h | exact tt_ff h))
          | (refine aw_skip ?_; simp -implicitDefEqProofs [List.lookup, hm0, hq, vtF1, vtF2, vtF3, vtF4])
          | refine aw_block ?_
          | (refine aw_exit ?_; simp -implicitDefEqProofs [List.lookup, hm0, hq, vtF1, vtF2, vtF3, vtF4])
          | refine aw_ret (ret_of (.inr rfl) (by simp [Tryd.results10]; rfl) (Fin.of ?_)))
        simp [tupOf, vpN, vpB, hk]
      · have hs2 : ¬ nameF 3 = s := fun e => hs e.symm
        repeat' (first
          | refine aw_seq ?_
          | (refine aw_run [2] ?_; simp -implicitDefEqProofs [List.lookup, hm0, hs, hs2, vtF1, vtF2, vtF3, vtF4])
          | (refine aw_ymix [2] draws (by decide +kernel) ?_; simp -implicitDefEqProofs [List.lookup, hm0, hs, hs2, vtF1, vtF2, vtF3, vtF4])
          | (refine aw_yrun draws (by kernel_rfl) ?_; simp -implicitDefEqProofs [List.lookup, hm0, hs, hs2, vtF1, vtF2, vtF3, vtF4])
          | (refine awl_skip' [2] rfl ?_; simp -implicitDefEqProofs [List.lookup, hm0, hs, hs2, vtF1, vtF2, vtF3, vtF4])
          | (refine awl_pure_guard [2] rfl rfl rfl (by first | assumption | kernel_rfl) rfl (fun hc => by first | exact faulty_ok _ | exact rvtext_ok 0 3 (by decide)) (by simp) (by simp) (by simp) ?_; simp -implicitDefEqProofs [List.lookup, hm0, hs, hs2, vtF1, vtF2, vtF3, vtF4])
          | (refine yl_pureG rfl rfl rfl (by first | assumption | kernel_rfl) rfl (fun hc => by first | exact faulty_ok _ | exact rvtext_ok 0 3 (by decide)) (by simp) (by simp) (by simp) ?_; simp -implicitDefEqProofs [List.lookup, hm0, hs, hs2, vtF1, vtF2, vtF3, vtF4])
          | (refine awl_pure' [2] rfl rfl rfl (by first | assumption | kernel_rfl) rfl (by first | exact faulty_ok _ | exact rvtext_ok 0 3 (by decide)) (by simp) (by simp) ?_; simp -implicitDefEqProofs [List.lookup, hm0, hs, hs2, vtF1, vtF2, vtF3, vtF4])
          | (refine yl_pure rfl rfl rfl (by first | assumption | kernel_rfl) rfl (by first | exact faulty_ok _ | exact rvtext_ok 0 3 (by decide)) (by simp) (by simp) ?_; simp -implicitDefEqProofs [List.lookup, hm0, hs, hs2, vtF1, vtF2, vtF3, vtF4])
          | (refine aw_cond rfl (fun h => ?_) (fun h => ?_) <;> try (with_reducible first | exact ff_tt h | exact tt_ff h))
          | (refine aw_skip ?_; simp -implicitDefEqProofs [List.lookup, hm0, hs, hs2, vtF1, vtF2, vtF3, vtF4])
          | refine aw_block ?_
          | (refine aw_exit ?_; simp -implicitDefEqProofs [List.lookup, hm0, hs, hs2, vtF1, vtF2, vtF3, vtF4])
          | refine aw_ret (ret_of (.inr rfl) (by simp [Tryd.results10]; rfl) (Fin.of ?_)))
        exact ⟨n - 1, by omega, mkSt [(0, [vi 0, vi 0])] [] m, le_mkSt (by simp [List.lookup]) (by simp) (by simp), 3 + 1, by omega, by omega, m, by omega, hno.next hs, rfl, by rw [wrap_id (by decide) (by decide)]; rfl⟩
    · by_cases hs : s = nameF 4
      · subst hs
        obtain ⟨hk, hq⟩ := isName (i := 4) (by omega)
        repeat' (first
          | refine aw_seq ?_
          | (refine aw_run [2] ?_; simp -implicitDefEqProofs [List.lookup, hm0, hq, vtF1, vtF2, vtF3, vtF4])
          | (refine aw_ymix [2] draws (by decide +kernel) ?_; simp -implicitDefEqProofs [List.lookup, hm0, hq, vtF1, vtF2, vtF3, vtF4])
          | (refine aw_yrun draws (by kernel_rfl) ?_; simp -implicitDefEqProofs [List.lookup, hm0, hq, vtF1, vtF2, vtF3, vtF4])
          | (refine awl_skip' [2] rfl ?_; simp -implicitDefEqProofs [List.lookup, hm0, hq, vtF1, vtF2, vtF3, vtF4])
          | (refine awl_pure_guard [2] rfl rfl rfl (by first | assumption | kernel_rfl) rfl (fun hc => by first | exact faulty_ok _ | exact rvtext_ok 0 4 (by decide)) (by simp) (by simp) (by simp) ?_; simp -implicitDefEqProofs [List.lookup, hm0, hq, vtF1, vtF2, vtF3, vtF4])
          | (refine yl_pureG rfl rfl rfl (by first | assumption | kernel_rfl) rfl (fun hc => by first | exact faulty_ok _ | exact rvtext_ok 0 4 (by decide)) (by simp) (by simp) (by simp) ?_; simp -implicitDefEqProofs [List.lookup, hm0, hq, vtF1, vtF2, vtF3, vtF4])
          | (refine awl_pure' [2] rfl rfl rfl (by first | assumption | kernel_rfl) rfl (by first | exact faulty_ok _ | exact rvtext_ok 0 4 (by decide)) (by simp) (by simp) ?_; simp -implicitDefEqProofs [List.lookup, hm0, hq, vtF1, vtF2, vtF3, vtF4])
          | (refine yl_pure rfl rfl rfl (by first | assumption | kernel_rfl) rfl (by first | exact faulty_ok _ | exact rvtext_ok 0 4 (by decide)) (by simp) (by simp) ?_; simp -implicitDefEqProofs [List.lookup, hm0, hq, vtF1, vtF2, vtF3, vtF4])
          | (refine aw_cond rfl (fun h => ?_) (fun h => ?_) <;> try (with_reducible first | exact ff_tt h | exact tt_ff h))
          | (refine aw_skip ?_; simp -implicitDefEqProofs [List.lookup, hm0, hq, vtF1, vtF2, vtF3, vtF4])
          | refine aw_block ?_
          | (refine aw_exit ?_; simp -implicitDefEqProofs [List.lookup, hm0, hq, vtF1, vtF2, vtF3, vtF4])
          | refine aw_ret (ret_of (.inr rfl) (by simp [Tryd.results10]; rfl) (Fin.of ?_)))
        simp [tupOf, vpN, vpB, hk]
      · have hs2 : ¬ nameF 4 = s := fun e => hs e.symm
        repeat' (first
          | refine aw_seq ?_
          | (refine aw_run [2] ?_; simp -implicitDefEqProofs [List.lookup, hm0, hs, hs2, vtF1, vtF2, vtF3, vtF4])
          | (refine aw_ymix [2] draws (by decide +kernel) ?_; simp -implicitDefEqProofs [List.lookup, hm0, hs, hs2, vtF1, vtF2, vtF3, vtF4])
          | (refine aw_yrun draws (by kernel_rfl) ?_; simp -implicitDefEqProofs [List.lookup, hm0, hs, hs2, vtF1, vtF2, vtF3, vtF4])
          | (refine awl_skip' [2] rfl ?_; simp -implicitDefEqProofs [List.lookup, hm0, hs, hs2, vtF1, vtF2, vtF3, vtF4])
          | (refine awl_pure_guard [2] rfl rfl rfl (by first | assumption | kernel_rfl) rfl (fun hc => by first | exact faulty_ok _ | exact rvtext_ok 0 4 (by decide)) (by simp) (by simp) (by simp) ?_; simp -implicitDefEqProofs [List.lookup, hm0, hs, hs2, vtF1, vtF2, vtF3, vtF4])
          | (refine yl_pureG rfl rfl rfl (by first | assumption | kernel_rfl) rfl (fun hc => by first | exact faulty_ok _ | exact rvtext_ok 0 4 (by decide)) (by simp) (by simp) (by simp) ?_; simp -implicitDefEqProofs [List.lookup, hm0, hs, hs2, vtF1, vtF2, vtF3, vtF4])
          | (refine awl_pure' [2] rfl rfl rfl (by first | assumption | kernel_rfl) rfl (by first | exact faulty_ok _ | exact rvtext_ok 0 4 (by decide)) (by simp) (by simp) ?_; simp -implicitDefEqProofs [List.lookup, hm0, hs, hs2, vtF1, vtF2, vtF3, vtF4])
          | (refine yl_pure rfl rfl rfl (by first | assumption | kernel_rfl) rfl (by first | exact faulty_ok _ | exact rvtext_ok 0 4 (by decide)) (by simp) (by simp) ?_; simp -implicitDefEqProofs [List.lookup, hm0, hs, hs2, vtF1, vtF2, vtF3, vtF4])
          | (refine aw_cond rfl (fun h => ?_) (fun h => ?_) <;> try (with_reducible first | exact ff_tt h | exact tt_ff h))
          | (refine aw_skip ?_; simp -implicitDefEqProofs [List.lookup, hm0, hs, hs2, vtF1, vtF2, vtF3, vtF4])
          | refine aw_block ?_
          | (refine aw_exit ?_; simp -implicitDefEqProofs [List.lookup, hm0, hs, hs2, vtF1, vtF2, vtF3, vtF4])
          | refine aw_ret (ret_of (.inr rfl) (by simp [Tryd.results10]; rfl) (Fin.of ?_)))
        exact ⟨n - 1, by omega, mkSt [(0, [vi 0, vi 0])] [] m, le_mkSt (by simp [List.lookup]) (by simp) (by simp), 4 + 1, by omega, by omega, m, by omega, hno.next hs, rfl, by rw [wrap_id (by decide) (by decide)]; rfl⟩
    · have hk := hno.all
      repeat' (first
        | refine aw_seq ?_
        | (refine aw_run [2] ?_; simp -implicitDefEqProofs [List.lookup, hm0])
        | (refine aw_ymix [2] draws (by decide +kernel) ?_; simp -implicitDefEqProofs [List.lookup, hm0])
        | (refine aw_yrun draws (by kernel_rfl) ?_; simp -implicitDefEqProofs [List.lookup, hm0])
        | (refine awl_skip' [2] rfl ?_; simp -implicitDefEqProofs [List.lookup, hm0])
        | (refine awl_pure_guard [2] rfl rfl rfl (by first | assumption | kernel_rfl) rfl (fun hc => by first | exact hp) (by simp) (by simp) (by simp) ?_; simp -implicitDefEqProofs [List.lookup, hm0])
        | (refine yl_pureG rfl rfl rfl (by first | assumption | kernel_rfl) rfl (fun hc => by first | exact hp) (by simp) (by simp) (by simp) ?_; simp -implicitDefEqProofs [List.lookup, hm0])
        | (refine awl_pure' [2] rfl rfl rfl (by first | assumption | kernel_rfl) rfl (by first | exact hp) (by simp) (by simp) ?_; simp -implicitDefEqProofs [List.lookup, hm0])
        | (refine yl_pure rfl rfl rfl (by first | assumption | kernel_rfl) rfl (by first | exact hp) (by simp) (by simp) ?_; simp -implicitDefEqProofs [List.lookup, hm0])
        | (refine aw_cond rfl (fun h => ?_) (fun h => ?_) <;> try (with_reducible first | exact ff_tt h | exact tt_ff h))
        | (refine aw_skip ?_; simp -implicitDefEqProofs [List.lookup, hm0])
        | refine aw_block ?_
        | (refine aw_exit ?_; simp -implicitDefEqProofs [List.lookup, hm0])
        | refine aw_ret (ret_of (.inr rfl) (by simp [Tryd.results10]; rfl) (Fin.of ?_)))
      simp [tupOf, vpN, vpB, hk]
end Go.AL
