import Derived.Test.YtcicdckjlkekdaaDoorK03g
import Derived.Test.YtcicdckjlkekdaaDoorA20
/-! Contracts: gridironlaw03.ValueOrder. -/
namespace Go.AL
open Go.Proofs
set_option linter.unusedSimpArgs false
set_option linter.unusedVariables false
/-- What was got so far. -/
def gotL (f : Nat → Int × Int) (i : Nat) : List AV := (List.range 10).flatMap fun j => if j < i then [vi (f j).1, vi (f j).2] else [vi 0, vi 0]
theorem got0 (f : Nat → Int × Int) : gotL f 0 = [vi 0, vi 0, vi 0, vi 0, vi 0, vi 0, vi 0, vi 0, vi 0, vi 0, vi 0, vi 0, vi 0, vi 0, vi 0, vi 0, vi 0, vi 0, vi 0, vi 0] := rfl
theorem got1 (f : Nat → Int × Int) : gotL f 1 = [vi (f 0).1, vi (f 0).2, vi 0, vi 0, vi 0, vi 0, vi 0, vi 0, vi 0, vi 0, vi 0, vi 0, vi 0, vi 0, vi 0, vi 0, vi 0, vi 0, vi 0, vi 0] := rfl
theorem got2 (f : Nat → Int × Int) : gotL f 2 = [vi (f 0).1, vi (f 0).2, vi (f 1).1, vi (f 1).2, vi 0, vi 0, vi 0, vi 0, vi 0, vi 0, vi 0, vi 0, vi 0, vi 0, vi 0, vi 0, vi 0, vi 0, vi 0, vi 0] := rfl
theorem got3 (f : Nat → Int × Int) : gotL f 3 = [vi (f 0).1, vi (f 0).2, vi (f 1).1, vi (f 1).2, vi (f 2).1, vi (f 2).2, vi 0, vi 0, vi 0, vi 0, vi 0, vi 0, vi 0, vi 0, vi 0, vi 0, vi 0, vi 0, vi 0, vi 0] := rfl
theorem got4 (f : Nat → Int × Int) : gotL f 4 = [vi (f 0).1, vi (f 0).2, vi (f 1).1, vi (f 1).2, vi (f 2).1, vi (f 2).2, vi (f 3).1, vi (f 3).2, vi 0, vi 0, vi 0, vi 0, vi 0, vi 0, vi 0, vi 0, vi 0, vi 0, vi 0, vi 0] := rfl
theorem got5 (f : Nat → Int × Int) : gotL f 5 = [vi (f 0).1, vi (f 0).2, vi (f 1).1, vi (f 1).2, vi (f 2).1, vi (f 2).2, vi (f 3).1, vi (f 3).2, vi (f 4).1, vi (f 4).2, vi 0, vi 0, vi 0, vi 0, vi 0, vi 0, vi 0, vi 0, vi 0, vi 0] := rfl
theorem got6 (f : Nat → Int × Int) : gotL f 6 = [vi (f 0).1, vi (f 0).2, vi (f 1).1, vi (f 1).2, vi (f 2).1, vi (f 2).2, vi (f 3).1, vi (f 3).2, vi (f 4).1, vi (f 4).2, vi (f 5).1, vi (f 5).2, vi 0, vi 0, vi 0, vi 0, vi 0, vi 0, vi 0, vi 0] := rfl
theorem got7 (f : Nat → Int × Int) : gotL f 7 = [vi (f 0).1, vi (f 0).2, vi (f 1).1, vi (f 1).2, vi (f 2).1, vi (f 2).2, vi (f 3).1, vi (f 3).2, vi (f 4).1, vi (f 4).2, vi (f 5).1, vi (f 5).2, vi (f 6).1, vi (f 6).2, vi 0, vi 0, vi 0, vi 0, vi 0, vi 0] := rfl
theorem got8 (f : Nat → Int × Int) : gotL f 8 = [vi (f 0).1, vi (f 0).2, vi (f 1).1, vi (f 1).2, vi (f 2).1, vi (f 2).2, vi (f 3).1, vi (f 3).2, vi (f 4).1, vi (f 4).2, vi (f 5).1, vi (f 5).2, vi (f 6).1, vi (f 6).2, vi (f 7).1, vi (f 7).2, vi 0, vi 0, vi 0, vi 0] := rfl
theorem got9 (f : Nat → Int × Int) : gotL f 9 = [vi (f 0).1, vi (f 0).2, vi (f 1).1, vi (f 1).2, vi (f 2).1, vi (f 2).2, vi (f 3).1, vi (f 3).2, vi (f 4).1, vi (f 4).2, vi (f 5).1, vi (f 5).2, vi (f 6).1, vi (f 6).2, vi (f 7).1, vi (f 7).2, vi (f 8).1, vi (f 8).2, vi 0, vi 0] := rfl
theorem got10 (f : Nat → Int × Int) : gotL f 10 = [vi (f 0).1, vi (f 0).2, vi (f 1).1, vi (f 1).2, vi (f 2).1, vi (f 2).2, vi (f 3).1, vi (f 3).2, vi (f 4).1, vi (f 4).2, vi (f 5).1, vi (f 5).2, vi (f 6).1, vi (f 6).2, vi (f 7).1, vi (f 7).2, vi (f 8).1, vi (f 8).2, vi (f 9).1, vi (f 9).2] := rfl
def opK : Nat → Nat
  | 0 => 4
  | 1 => 6
  | 2 => 9
  | 3 => 5
  | 4 => 8
  | 5 => 7
  | 6 => 0
  | 7 => 1
  | 8 => 2
  | 9 => 3
  | _ => 10
def gotF (a fa b fb : Int) (j : Nat) : Int × Int := (doN (opK j) a fa b fb, doF (opK j) a fa b fb)
abbrev opsV : AV := .vsl [vs ⟨#[60]⟩, vs ⟨#[61]⟩, vs ⟨#[62]⟩, vs ⟨#[60, 61]⟩, vs ⟨#[62, 61]⟩, vs ⟨#[60, 62]⟩, vs ⟨#[43]⟩, vs ⟨#[45]⟩, vs ⟨#[42]⟩, vs ⟨#[47]⟩]
theorem leSame (σ : ASt) : σ.Le σ where
  bx := fun _ _ h => h
  mp := fun _ _ h => h
  sl := fun _ _ h => h
  next := Nat.le_refl _
theorem w0 : IntKind.i64.wrap 0 = 0 := wrap_id (by decide) (by decide)
theorem w1 : IntKind.i64.wrap 1 = 1 := wrap_id (by decide) (by decide)
set_option maxHeartbeats 8000000 in
set_option maxRecDepth 100000 in
theorem valueOrder_ok (a fa b fb : Int) (ha : In64 a) (hb : In64 b) : APure Tryd.prog 5 [value a fa, value b fb] (vb true) := by
  have d0 : APure Tryd.prog 11 [vs ⟨#[60]⟩, value a fa, value b fb] (.tup [value (gotF a fa b fb 0).1 (gotF a fa b fb 0).2, vb true]) := by
    have h := do_ok ⟨#[60]⟩ a fa b fb ha hb
    rw [show doK ⟨#[60]⟩ = 4 by decide] at h; exact h
  have d1 : APure Tryd.prog 11 [vs ⟨#[61]⟩, value a fa, value b fb] (.tup [value (gotF a fa b fb 1).1 (gotF a fa b fb 1).2, vb true]) := by
    have h := do_ok ⟨#[61]⟩ a fa b fb ha hb
    rw [show doK ⟨#[61]⟩ = 6 by decide] at h; exact h
  have d2 : APure Tryd.prog 11 [vs ⟨#[62]⟩, value a fa, value b fb] (.tup [value (gotF a fa b fb 2).1 (gotF a fa b fb 2).2, vb true]) := by
    have h := do_ok ⟨#[62]⟩ a fa b fb ha hb
    rw [show doK ⟨#[62]⟩ = 9 by decide] at h; exact h
  have d3 : APure Tryd.prog 11 [vs ⟨#[60, 61]⟩, value a fa, value b fb] (.tup [value (gotF a fa b fb 3).1 (gotF a fa b fb 3).2, vb true]) := by
    have h := do_ok ⟨#[60, 61]⟩ a fa b fb ha hb
    rw [show doK ⟨#[60, 61]⟩ = 5 by decide] at h; exact h
  have d4 : APure Tryd.prog 11 [vs ⟨#[62, 61]⟩, value a fa, value b fb] (.tup [value (gotF a fa b fb 4).1 (gotF a fa b fb 4).2, vb true]) := by
    have h := do_ok ⟨#[62, 61]⟩ a fa b fb ha hb
    rw [show doK ⟨#[62, 61]⟩ = 8 by decide] at h; exact h
  have d5 : APure Tryd.prog 11 [vs ⟨#[60, 62]⟩, value a fa, value b fb] (.tup [value (gotF a fa b fb 5).1 (gotF a fa b fb 5).2, vb true]) := by
    have h := do_ok ⟨#[60, 62]⟩ a fa b fb ha hb
    rw [show doK ⟨#[60, 62]⟩ = 7 by decide] at h; exact h
  have d6 : APure Tryd.prog 11 [vs ⟨#[43]⟩, value a fa, value b fb] (.tup [value (gotF a fa b fb 6).1 (gotF a fa b fb 6).2, vb true]) := by
    have h := do_ok ⟨#[43]⟩ a fa b fb ha hb
    rw [show doK ⟨#[43]⟩ = 0 by decide] at h; exact h
  have d7 : APure Tryd.prog 11 [vs ⟨#[45]⟩, value a fa, value b fb] (.tup [value (gotF a fa b fb 7).1 (gotF a fa b fb 7).2, vb true]) := by
    have h := do_ok ⟨#[45]⟩ a fa b fb ha hb
    rw [show doK ⟨#[45]⟩ = 1 by decide] at h; exact h
  have d8 : APure Tryd.prog 11 [vs ⟨#[42]⟩, value a fa, value b fb] (.tup [value (gotF a fa b fb 8).1 (gotF a fa b fb 8).2, vb true]) := by
    have h := do_ok ⟨#[42]⟩ a fa b fb ha hb
    rw [show doK ⟨#[42]⟩ = 2 by decide] at h; exact h
  have d9 : APure Tryd.prog 11 [vs ⟨#[47]⟩, value a fa, value b fb] (.tup [value (gotF a fa b fb 9).1 (gotF a fa b fb 9).2, vb true]) := by
    have h := do_ok ⟨#[47]⟩ a fa b fb ha hb
    rw [show doK ⟨#[47]⟩ = 3 by decide] at h; exact h
  obtain ⟨f, hf⟩ : ∃ f, f = gotF a fa b fb := ⟨_, rfl⟩
  rw [← hf] at d0 d1 d2 d3 d4 d5 d6 d7 d8 d9
  refine apure_of Tryd.func5 Tryd.ntmps5 rfl ?_
  simp only [List.length_cons, List.length_nil, List.cons_append, List.nil_append, List.replicate]
  refine aw_seq (aw_run [5, 8, 10, 11] ?_)
  simp -implicitDefEqProofs
  refine aw_seq (aw_run [5, 8, 10, 11] ?_)
  simp -implicitDefEqProofs
  refine aw_seq (aw_run [5, 8, 10, 11] ?_)
  simp -implicitDefEqProofs
  refine aw_seq (aw_seq (aw_run [5, 8, 10, 11] ?_))
  simp -implicitDefEqProofs
  refine aw_block (aw_loopW [2, 3, 5, 6, 7] (fun n fr σ => ∃ i m : Nat, i + n = 10 ∧ 1 ≤ m ∧ σ = mkSt [(0, gotL f i)] [] m ∧ fr = frm 224 [(2, .vel [value a fa] 0 0), (3, .vel [value b fb] 0 0), (5, .ptr 0 0), (6, opsV), (7, vi (i : Nat))]) 10 ?_ ?_)
  · refine ⟨mkSt [(0, gotL f 0)] [] 1, le_mkSt (by simp [σ0, got0]) (by simp) (by simp [σ0]), 0, 1, by omega, by omega, rfl, by simp⟩
  · rintro n fr σ ⟨i, m, hi, hm, rfl, rfl⟩
    simp
    have hm0 : ¬ 0 = m := by omega
    have hi10 : i = 0 ∨ i = 1 ∨ i = 2 ∨ i = 3 ∨ i = 4 ∨ i = 5 ∨ i = 6 ∨ i = 7 ∨ i = 8 ∨ i = 9 ∨ i = 10 := by omega
    refine aw_seq (aw_seq (aw_run [5, 8, 10, 11] ?_))
    simp -implicitDefEqProofs [List.lookup]
    rcases hi10 with rfl | rfl | rfl | rfl | rfl | rfl | rfl | rfl | rfl | rfl | rfl
    · refine aw_cond rfl (fun h => aw_skip ?_) (fun h => aw_exit ?_)
      · have hd := d0
        have hs1 : (mkSt [(0, gotL f 0)] [] m).addBx [vi 0, vi 0] = (mkSt [(0, gotL f 0)] [] m).addBx [vi 0, vi 0] := rfl
        simp -implicitDefEqProofs [List.lookup, got0]
        refine aw_seq (aw_block (aw_seq ?_))
        refine aw_draw2' 10 11 ((mkSt [(0, gotL f 0)] [] m).addBx [vi 0, vi 0]) { (mkSt [(0, gotL f 0)] [] m).addBx [vi 0, vi 0] with bx := upd ((mkSt [(0, gotL f 0)] [] m).addBx [vi 0, vi 0]).bx m (some [vi (f 0).1, vi (f 0).2]) } draws (by decide +kernel) ?_
        simp -implicitDefEqProofs [List.lookup, hm0, got0]
        refine yl2_pure (by decide) (by decide) rfl rfl rfl (by kernel_rfl) rfl hd (by simp) (by simp) ?_
        simp -implicitDefEqProofs [List.lookup, hm0, got0]
        refine yl2_alloc rfl rfl tz24 rfl ?_
        simp -implicitDefEqProofs [List.lookup, hm0, got0]
        refine yl2_store rfl rfl (by simp [upd]) ?_
        simp -implicitDefEqProofs [List.lookup, hm0, got0]
        repeat' (first
          | refine aw_seq ?_
          | (refine aw_run [5, 8, 10, 11] ?_; simp -implicitDefEqProofs (maxSteps := 1000000) [List.lookup, hm0, got0])
          | (refine aw_ymix [5, 8, 10, 11] draws (by decide +kernel) ?_; simp -implicitDefEqProofs (maxSteps := 1000000) [List.lookup, hm0, got0])
          | (refine aw_yrun draws (by kernel_rfl) ?_; simp -implicitDefEqProofs (maxSteps := 1000000) [List.lookup, hm0, got0])
          | (refine awl_skip' [5, 8, 10, 11] rfl ?_; simp -implicitDefEqProofs (maxSteps := 1000000) [List.lookup, hm0, got0])
          | (refine aw_cond rfl (fun h => ?_) (fun h => ?_) <;> try (with_reducible first | exact ff_tt h | exact tt_ff h))
          | (refine aw_skip ?_; simp -implicitDefEqProofs (maxSteps := 1000000) [List.lookup, hm0, got0])
          | refine aw_block ?_
          | (refine aw_exit ?_; simp -implicitDefEqProofs (maxSteps := 1000000) [List.lookup, hm0, got0])
          | refine aw_ret (ret_of (.inr rfl) (by simp [Tryd.results5]; rfl) (Fin.of ?_)))
        exact ⟨n - 1, by omega, mkSt [(0, gotL f 1)] [] (m + 1), le_mkSt (by simp [List.lookup, hm0, got1]) (by simp) (by simp), 1, by omega, m + 1, by omega, rfl, by rw [wrap_id (by decide) (by decide)]; rfl⟩
      · simp at h
    · refine aw_cond rfl (fun h => aw_skip ?_) (fun h => aw_exit ?_)
      · have hd := d1
        have hs1 : (mkSt [(0, gotL f 1)] [] m).addBx [vi 0, vi 0] = (mkSt [(0, gotL f 1)] [] m).addBx [vi 0, vi 0] := rfl
        simp -implicitDefEqProofs [List.lookup, got1]
        refine aw_seq (aw_block (aw_seq ?_))
        refine aw_draw2' 10 11 ((mkSt [(0, gotL f 1)] [] m).addBx [vi 0, vi 0]) { (mkSt [(0, gotL f 1)] [] m).addBx [vi 0, vi 0] with bx := upd ((mkSt [(0, gotL f 1)] [] m).addBx [vi 0, vi 0]).bx m (some [vi (f 1).1, vi (f 1).2]) } draws (by decide +kernel) ?_
        simp -implicitDefEqProofs [List.lookup, hm0, got1]
        refine yl2_pure (by decide) (by decide) rfl rfl rfl (by kernel_rfl) rfl hd (by simp) (by simp) ?_
        simp -implicitDefEqProofs [List.lookup, hm0, got1]
        refine yl2_alloc rfl rfl tz24 rfl ?_
        simp -implicitDefEqProofs [List.lookup, hm0, got1]
        refine yl2_store rfl rfl (by simp [upd]) ?_
        simp -implicitDefEqProofs [List.lookup, hm0, got1]
        repeat' (first
          | refine aw_seq ?_
          | (refine aw_run [5, 8, 10, 11] ?_; simp -implicitDefEqProofs (maxSteps := 1000000) [List.lookup, hm0, got1])
          | (refine aw_ymix [5, 8, 10, 11] draws (by decide +kernel) ?_; simp -implicitDefEqProofs (maxSteps := 1000000) [List.lookup, hm0, got1])
          | (refine aw_yrun draws (by kernel_rfl) ?_; simp -implicitDefEqProofs (maxSteps := 1000000) [List.lookup, hm0, got1])
          | (refine awl_skip' [5, 8, 10, 11] rfl ?_; simp -implicitDefEqProofs (maxSteps := 1000000) [List.lookup, hm0, got1])
          | (refine aw_cond rfl (fun h => ?_) (fun h => ?_) <;> try (with_reducible first | exact ff_tt h | exact tt_ff h))
          | (refine aw_skip ?_; simp -implicitDefEqProofs (maxSteps := 1000000) [List.lookup, hm0, got1])
          | refine aw_block ?_
          | (refine aw_exit ?_; simp -implicitDefEqProofs (maxSteps := 1000000) [List.lookup, hm0, got1])
          | refine aw_ret (ret_of (.inr rfl) (by simp [Tryd.results5]; rfl) (Fin.of ?_)))
        exact ⟨n - 1, by omega, mkSt [(0, gotL f 2)] [] (m + 1), le_mkSt (by simp [List.lookup, hm0, got2]) (by simp) (by simp), 2, by omega, m + 1, by omega, rfl, by rw [wrap_id (by decide) (by decide)]; rfl⟩
      · simp at h
    · refine aw_cond rfl (fun h => aw_skip ?_) (fun h => aw_exit ?_)
      · have hd := d2
        have hs1 : (mkSt [(0, gotL f 2)] [] m).addBx [vi 0, vi 0] = (mkSt [(0, gotL f 2)] [] m).addBx [vi 0, vi 0] := rfl
        simp -implicitDefEqProofs [List.lookup, got2]
        refine aw_seq (aw_block (aw_seq ?_))
        refine aw_draw2' 10 11 ((mkSt [(0, gotL f 2)] [] m).addBx [vi 0, vi 0]) { (mkSt [(0, gotL f 2)] [] m).addBx [vi 0, vi 0] with bx := upd ((mkSt [(0, gotL f 2)] [] m).addBx [vi 0, vi 0]).bx m (some [vi (f 2).1, vi (f 2).2]) } draws (by decide +kernel) ?_
        simp -implicitDefEqProofs [List.lookup, hm0, got2]
        refine yl2_pure (by decide) (by decide) rfl rfl rfl (by kernel_rfl) rfl hd (by simp) (by simp) ?_
        simp -implicitDefEqProofs [List.lookup, hm0, got2]
        refine yl2_alloc rfl rfl tz24 rfl ?_
        simp -implicitDefEqProofs [List.lookup, hm0, got2]
        refine yl2_store rfl rfl (by simp [upd]) ?_
        simp -implicitDefEqProofs [List.lookup, hm0, got2]
        repeat' (first
          | refine aw_seq ?_
          | (refine aw_run [5, 8, 10, 11] ?_; simp -implicitDefEqProofs (maxSteps := 1000000) [List.lookup, hm0, got2])
          | (refine aw_ymix [5, 8, 10, 11] draws (by decide +kernel) ?_; simp -implicitDefEqProofs (maxSteps := 1000000) [List.lookup, hm0, got2])
          | (refine aw_yrun draws (by kernel_rfl) ?_; simp -implicitDefEqProofs (maxSteps := 1000000) [List.lookup, hm0, got2])
          | (refine awl_skip' [5, 8, 10, 11] rfl ?_; simp -implicitDefEqProofs (maxSteps := 1000000) [List.lookup, hm0, got2])
          | (refine aw_cond rfl (fun h => ?_) (fun h => ?_) <;> try (with_reducible first | exact ff_tt h | exact tt_ff h))
          | (refine aw_skip ?_; simp -implicitDefEqProofs (maxSteps := 1000000) [List.lookup, hm0, got2])
          | refine aw_block ?_
          | (refine aw_exit ?_; simp -implicitDefEqProofs (maxSteps := 1000000) [List.lookup, hm0, got2])
          | refine aw_ret (ret_of (.inr rfl) (by simp [Tryd.results5]; rfl) (Fin.of ?_)))
        exact ⟨n - 1, by omega, mkSt [(0, gotL f 3)] [] (m + 1), le_mkSt (by simp [List.lookup, hm0, got3]) (by simp) (by simp), 3, by omega, m + 1, by omega, rfl, by rw [wrap_id (by decide) (by decide)]; rfl⟩
      · simp at h
    · refine aw_cond rfl (fun h => aw_skip ?_) (fun h => aw_exit ?_)
      · have hd := d3
        have hs1 : (mkSt [(0, gotL f 3)] [] m).addBx [vi 0, vi 0] = (mkSt [(0, gotL f 3)] [] m).addBx [vi 0, vi 0] := rfl
        simp -implicitDefEqProofs [List.lookup, got3]
        refine aw_seq (aw_block (aw_seq ?_))
        refine aw_draw2' 10 11 ((mkSt [(0, gotL f 3)] [] m).addBx [vi 0, vi 0]) { (mkSt [(0, gotL f 3)] [] m).addBx [vi 0, vi 0] with bx := upd ((mkSt [(0, gotL f 3)] [] m).addBx [vi 0, vi 0]).bx m (some [vi (f 3).1, vi (f 3).2]) } draws (by decide +kernel) ?_
        simp -implicitDefEqProofs [List.lookup, hm0, got3]
        refine yl2_pure (by decide) (by decide) rfl rfl rfl (by kernel_rfl) rfl hd (by simp) (by simp) ?_
        simp -implicitDefEqProofs [List.lookup, hm0, got3]
        refine yl2_alloc rfl rfl tz24 rfl ?_
        simp -implicitDefEqProofs [List.lookup, hm0, got3]
        refine yl2_store rfl rfl (by simp [upd]) ?_
        simp -implicitDefEqProofs [List.lookup, hm0, got3]
        repeat' (first
          | refine aw_seq ?_
          | (refine aw_run [5, 8, 10, 11] ?_; simp -implicitDefEqProofs (maxSteps := 1000000) [List.lookup, hm0, got3])
          | (refine aw_ymix [5, 8, 10, 11] draws (by decide +kernel) ?_; simp -implicitDefEqProofs (maxSteps := 1000000) [List.lookup, hm0, got3])
          | (refine aw_yrun draws (by kernel_rfl) ?_; simp -implicitDefEqProofs (maxSteps := 1000000) [List.lookup, hm0, got3])
          | (refine awl_skip' [5, 8, 10, 11] rfl ?_; simp -implicitDefEqProofs (maxSteps := 1000000) [List.lookup, hm0, got3])
          | (refine aw_cond rfl (fun h => ?_) (fun h => ?_) <;> try (with_reducible first | exact ff_tt h | exact tt_ff h))
          | (refine aw_skip ?_; simp -implicitDefEqProofs (maxSteps := 1000000) [List.lookup, hm0, got3])
          | refine aw_block ?_
          | (refine aw_exit ?_; simp -implicitDefEqProofs (maxSteps := 1000000) [List.lookup, hm0, got3])
          | refine aw_ret (ret_of (.inr rfl) (by simp [Tryd.results5]; rfl) (Fin.of ?_)))
        exact ⟨n - 1, by omega, mkSt [(0, gotL f 4)] [] (m + 1), le_mkSt (by simp [List.lookup, hm0, got4]) (by simp) (by simp), 4, by omega, m + 1, by omega, rfl, by rw [wrap_id (by decide) (by decide)]; rfl⟩
      · simp at h
    · refine aw_cond rfl (fun h => aw_skip ?_) (fun h => aw_exit ?_)
      · have hd := d4
        have hs1 : (mkSt [(0, gotL f 4)] [] m).addBx [vi 0, vi 0] = (mkSt [(0, gotL f 4)] [] m).addBx [vi 0, vi 0] := rfl
        simp -implicitDefEqProofs [List.lookup, got4]
        refine aw_seq (aw_block (aw_seq ?_))
        refine aw_draw2' 10 11 ((mkSt [(0, gotL f 4)] [] m).addBx [vi 0, vi 0]) { (mkSt [(0, gotL f 4)] [] m).addBx [vi 0, vi 0] with bx := upd ((mkSt [(0, gotL f 4)] [] m).addBx [vi 0, vi 0]).bx m (some [vi (f 4).1, vi (f 4).2]) } draws (by decide +kernel) ?_
        simp -implicitDefEqProofs [List.lookup, hm0, got4]
        refine yl2_pure (by decide) (by decide) rfl rfl rfl (by kernel_rfl) rfl hd (by simp) (by simp) ?_
        simp -implicitDefEqProofs [List.lookup, hm0, got4]
        refine yl2_alloc rfl rfl tz24 rfl ?_
        simp -implicitDefEqProofs [List.lookup, hm0, got4]
        refine yl2_store rfl rfl (by simp [upd]) ?_
        simp -implicitDefEqProofs [List.lookup, hm0, got4]
        repeat' (first
          | refine aw_seq ?_
          | (refine aw_run [5, 8, 10, 11] ?_; simp -implicitDefEqProofs (maxSteps := 1000000) [List.lookup, hm0, got4])
          | (refine aw_ymix [5, 8, 10, 11] draws (by decide +kernel) ?_; simp -implicitDefEqProofs (maxSteps := 1000000) [List.lookup, hm0, got4])
          | (refine aw_yrun draws (by kernel_rfl) ?_; simp -implicitDefEqProofs (maxSteps := 1000000) [List.lookup, hm0, got4])
          | (refine awl_skip' [5, 8, 10, 11] rfl ?_; simp -implicitDefEqProofs (maxSteps := 1000000) [List.lookup, hm0, got4])
          | (refine aw_cond rfl (fun h => ?_) (fun h => ?_) <;> try (with_reducible first | exact ff_tt h | exact tt_ff h))
          | (refine aw_skip ?_; simp -implicitDefEqProofs (maxSteps := 1000000) [List.lookup, hm0, got4])
          | refine aw_block ?_
          | (refine aw_exit ?_; simp -implicitDefEqProofs (maxSteps := 1000000) [List.lookup, hm0, got4])
          | refine aw_ret (ret_of (.inr rfl) (by simp [Tryd.results5]; rfl) (Fin.of ?_)))
        exact ⟨n - 1, by omega, mkSt [(0, gotL f 5)] [] (m + 1), le_mkSt (by simp [List.lookup, hm0, got5]) (by simp) (by simp), 5, by omega, m + 1, by omega, rfl, by rw [wrap_id (by decide) (by decide)]; rfl⟩
      · simp at h
    · refine aw_cond rfl (fun h => aw_skip ?_) (fun h => aw_exit ?_)
      · have hd := d5
        have hs1 : (mkSt [(0, gotL f 5)] [] m).addBx [vi 0, vi 0] = (mkSt [(0, gotL f 5)] [] m).addBx [vi 0, vi 0] := rfl
        simp -implicitDefEqProofs [List.lookup, got5]
        refine aw_seq (aw_block (aw_seq ?_))
        refine aw_draw2' 10 11 ((mkSt [(0, gotL f 5)] [] m).addBx [vi 0, vi 0]) { (mkSt [(0, gotL f 5)] [] m).addBx [vi 0, vi 0] with bx := upd ((mkSt [(0, gotL f 5)] [] m).addBx [vi 0, vi 0]).bx m (some [vi (f 5).1, vi (f 5).2]) } draws (by decide +kernel) ?_
        simp -implicitDefEqProofs [List.lookup, hm0, got5]
        refine yl2_pure (by decide) (by decide) rfl rfl rfl (by kernel_rfl) rfl hd (by simp) (by simp) ?_
        simp -implicitDefEqProofs [List.lookup, hm0, got5]
        refine yl2_alloc rfl rfl tz24 rfl ?_
        simp -implicitDefEqProofs [List.lookup, hm0, got5]
        refine yl2_store rfl rfl (by simp [upd]) ?_
        simp -implicitDefEqProofs [List.lookup, hm0, got5]
        repeat' (first
          | refine aw_seq ?_
          | (refine aw_run [5, 8, 10, 11] ?_; simp -implicitDefEqProofs (maxSteps := 1000000) [List.lookup, hm0, got5])
          | (refine aw_ymix [5, 8, 10, 11] draws (by decide +kernel) ?_; simp -implicitDefEqProofs (maxSteps := 1000000) [List.lookup, hm0, got5])
          | (refine aw_yrun draws (by kernel_rfl) ?_; simp -implicitDefEqProofs (maxSteps := 1000000) [List.lookup, hm0, got5])
          | (refine awl_skip' [5, 8, 10, 11] rfl ?_; simp -implicitDefEqProofs (maxSteps := 1000000) [List.lookup, hm0, got5])
          | (refine aw_cond rfl (fun h => ?_) (fun h => ?_) <;> try (with_reducible first | exact ff_tt h | exact tt_ff h))
          | (refine aw_skip ?_; simp -implicitDefEqProofs (maxSteps := 1000000) [List.lookup, hm0, got5])
          | refine aw_block ?_
          | (refine aw_exit ?_; simp -implicitDefEqProofs (maxSteps := 1000000) [List.lookup, hm0, got5])
          | refine aw_ret (ret_of (.inr rfl) (by simp [Tryd.results5]; rfl) (Fin.of ?_)))
        exact ⟨n - 1, by omega, mkSt [(0, gotL f 6)] [] (m + 1), le_mkSt (by simp [List.lookup, hm0, got6]) (by simp) (by simp), 6, by omega, m + 1, by omega, rfl, by rw [wrap_id (by decide) (by decide)]; rfl⟩
      · simp at h
    · refine aw_cond rfl (fun h => aw_skip ?_) (fun h => aw_exit ?_)
      · have hd := d6
        have hs1 : (mkSt [(0, gotL f 6)] [] m).addBx [vi 0, vi 0] = (mkSt [(0, gotL f 6)] [] m).addBx [vi 0, vi 0] := rfl
        simp -implicitDefEqProofs [List.lookup, got6]
        refine aw_seq (aw_block (aw_seq ?_))
        refine aw_draw2' 10 11 ((mkSt [(0, gotL f 6)] [] m).addBx [vi 0, vi 0]) { (mkSt [(0, gotL f 6)] [] m).addBx [vi 0, vi 0] with bx := upd ((mkSt [(0, gotL f 6)] [] m).addBx [vi 0, vi 0]).bx m (some [vi (f 6).1, vi (f 6).2]) } draws (by decide +kernel) ?_
        simp -implicitDefEqProofs [List.lookup, hm0, got6]
        refine yl2_pure (by decide) (by decide) rfl rfl rfl (by kernel_rfl) rfl hd (by simp) (by simp) ?_
        simp -implicitDefEqProofs [List.lookup, hm0, got6]
        refine yl2_alloc rfl rfl tz24 rfl ?_
        simp -implicitDefEqProofs [List.lookup, hm0, got6]
        refine yl2_store rfl rfl (by simp [upd]) ?_
        simp -implicitDefEqProofs [List.lookup, hm0, got6]
        repeat' (first
          | refine aw_seq ?_
          | (refine aw_run [5, 8, 10, 11] ?_; simp -implicitDefEqProofs (maxSteps := 1000000) [List.lookup, hm0, got6])
          | (refine aw_ymix [5, 8, 10, 11] draws (by decide +kernel) ?_; simp -implicitDefEqProofs (maxSteps := 1000000) [List.lookup, hm0, got6])
          | (refine aw_yrun draws (by kernel_rfl) ?_; simp -implicitDefEqProofs (maxSteps := 1000000) [List.lookup, hm0, got6])
          | (refine awl_skip' [5, 8, 10, 11] rfl ?_; simp -implicitDefEqProofs (maxSteps := 1000000) [List.lookup, hm0, got6])
          | (refine aw_cond rfl (fun h => ?_) (fun h => ?_) <;> try (with_reducible first | exact ff_tt h | exact tt_ff h))
          | (refine aw_skip ?_; simp -implicitDefEqProofs (maxSteps := 1000000) [List.lookup, hm0, got6])
          | refine aw_block ?_
          | (refine aw_exit ?_; simp -implicitDefEqProofs (maxSteps := 1000000) [List.lookup, hm0, got6])
          | refine aw_ret (ret_of (.inr rfl) (by simp [Tryd.results5]; rfl) (Fin.of ?_)))
        exact ⟨n - 1, by omega, mkSt [(0, gotL f 7)] [] (m + 1), le_mkSt (by simp [List.lookup, hm0, got7]) (by simp) (by simp), 7, by omega, m + 1, by omega, rfl, by rw [wrap_id (by decide) (by decide)]; rfl⟩
      · simp at h
    · refine aw_cond rfl (fun h => aw_skip ?_) (fun h => aw_exit ?_)
      · have hd := d7
        have hs1 : (mkSt [(0, gotL f 7)] [] m).addBx [vi 0, vi 0] = (mkSt [(0, gotL f 7)] [] m).addBx [vi 0, vi 0] := rfl
        simp -implicitDefEqProofs [List.lookup, got7]
        refine aw_seq (aw_block (aw_seq ?_))
        refine aw_draw2' 10 11 ((mkSt [(0, gotL f 7)] [] m).addBx [vi 0, vi 0]) { (mkSt [(0, gotL f 7)] [] m).addBx [vi 0, vi 0] with bx := upd ((mkSt [(0, gotL f 7)] [] m).addBx [vi 0, vi 0]).bx m (some [vi (f 7).1, vi (f 7).2]) } draws (by decide +kernel) ?_
        simp -implicitDefEqProofs [List.lookup, hm0, got7]
        refine yl2_pure (by decide) (by decide) rfl rfl rfl (by kernel_rfl) rfl hd (by simp) (by simp) ?_
        simp -implicitDefEqProofs [List.lookup, hm0, got7]
        refine yl2_alloc rfl rfl tz24 rfl ?_
        simp -implicitDefEqProofs [List.lookup, hm0, got7]
        refine yl2_store rfl rfl (by simp [upd]) ?_
        simp -implicitDefEqProofs [List.lookup, hm0, got7]
        repeat' (first
          | refine aw_seq ?_
          | (refine aw_run [5, 8, 10, 11] ?_; simp -implicitDefEqProofs (maxSteps := 1000000) [List.lookup, hm0, got7])
          | (refine aw_ymix [5, 8, 10, 11] draws (by decide +kernel) ?_; simp -implicitDefEqProofs (maxSteps := 1000000) [List.lookup, hm0, got7])
          | (refine aw_yrun draws (by kernel_rfl) ?_; simp -implicitDefEqProofs (maxSteps := 1000000) [List.lookup, hm0, got7])
          | (refine awl_skip' [5, 8, 10, 11] rfl ?_; simp -implicitDefEqProofs (maxSteps := 1000000) [List.lookup, hm0, got7])
          | (refine aw_cond rfl (fun h => ?_) (fun h => ?_) <;> try (with_reducible first | exact ff_tt h | exact tt_ff h))
          | (refine aw_skip ?_; simp -implicitDefEqProofs (maxSteps := 1000000) [List.lookup, hm0, got7])
          | refine aw_block ?_
          | (refine aw_exit ?_; simp -implicitDefEqProofs (maxSteps := 1000000) [List.lookup, hm0, got7])
          | refine aw_ret (ret_of (.inr rfl) (by simp [Tryd.results5]; rfl) (Fin.of ?_)))
        exact ⟨n - 1, by omega, mkSt [(0, gotL f 8)] [] (m + 1), le_mkSt (by simp [List.lookup, hm0, got8]) (by simp) (by simp), 8, by omega, m + 1, by omega, rfl, by rw [wrap_id (by decide) (by decide)]; rfl⟩
      · simp at h
    · refine aw_cond rfl (fun h => aw_skip ?_) (fun h => aw_exit ?_)
      · have hd := d8
        have hs1 : (mkSt [(0, gotL f 8)] [] m).addBx [vi 0, vi 0] = (mkSt [(0, gotL f 8)] [] m).addBx [vi 0, vi 0] := rfl
        simp -implicitDefEqProofs [List.lookup, got8]
        refine aw_seq (aw_block (aw_seq ?_))
        refine aw_draw2' 10 11 ((mkSt [(0, gotL f 8)] [] m).addBx [vi 0, vi 0]) { (mkSt [(0, gotL f 8)] [] m).addBx [vi 0, vi 0] with bx := upd ((mkSt [(0, gotL f 8)] [] m).addBx [vi 0, vi 0]).bx m (some [vi (f 8).1, vi (f 8).2]) } draws (by decide +kernel) ?_
        simp -implicitDefEqProofs [List.lookup, hm0, got8]
        refine yl2_pure (by decide) (by decide) rfl rfl rfl (by kernel_rfl) rfl hd (by simp) (by simp) ?_
        simp -implicitDefEqProofs [List.lookup, hm0, got8]
        refine yl2_alloc rfl rfl tz24 rfl ?_
        simp -implicitDefEqProofs [List.lookup, hm0, got8]
        refine yl2_store rfl rfl (by simp [upd]) ?_
        simp -implicitDefEqProofs [List.lookup, hm0, got8]
        repeat' (first
          | refine aw_seq ?_
          | (refine aw_run [5, 8, 10, 11] ?_; simp -implicitDefEqProofs (maxSteps := 1000000) [List.lookup, hm0, got8])
          | (refine aw_ymix [5, 8, 10, 11] draws (by decide +kernel) ?_; simp -implicitDefEqProofs (maxSteps := 1000000) [List.lookup, hm0, got8])
          | (refine aw_yrun draws (by kernel_rfl) ?_; simp -implicitDefEqProofs (maxSteps := 1000000) [List.lookup, hm0, got8])
          | (refine awl_skip' [5, 8, 10, 11] rfl ?_; simp -implicitDefEqProofs (maxSteps := 1000000) [List.lookup, hm0, got8])
          | (refine aw_cond rfl (fun h => ?_) (fun h => ?_) <;> try (with_reducible first | exact ff_tt h | exact tt_ff h))
          | (refine aw_skip ?_; simp -implicitDefEqProofs (maxSteps := 1000000) [List.lookup, hm0, got8])
          | refine aw_block ?_
          | (refine aw_exit ?_; simp -implicitDefEqProofs (maxSteps := 1000000) [List.lookup, hm0, got8])
          | refine aw_ret (ret_of (.inr rfl) (by simp [Tryd.results5]; rfl) (Fin.of ?_)))
        exact ⟨n - 1, by omega, mkSt [(0, gotL f 9)] [] (m + 1), le_mkSt (by simp [List.lookup, hm0, got9]) (by simp) (by simp), 9, by omega, m + 1, by omega, rfl, by rw [wrap_id (by decide) (by decide)]; rfl⟩
      · simp at h
    · refine aw_cond rfl (fun h => aw_skip ?_) (fun h => aw_exit ?_)
      · have hd := d9
        have hs1 : (mkSt [(0, gotL f 9)] [] m).addBx [vi 0, vi 0] = (mkSt [(0, gotL f 9)] [] m).addBx [vi 0, vi 0] := rfl
        simp -implicitDefEqProofs [List.lookup, got9]
        refine aw_seq (aw_block (aw_seq ?_))
        refine aw_draw2' 10 11 ((mkSt [(0, gotL f 9)] [] m).addBx [vi 0, vi 0]) { (mkSt [(0, gotL f 9)] [] m).addBx [vi 0, vi 0] with bx := upd ((mkSt [(0, gotL f 9)] [] m).addBx [vi 0, vi 0]).bx m (some [vi (f 9).1, vi (f 9).2]) } draws (by decide +kernel) ?_
        simp -implicitDefEqProofs [List.lookup, hm0, got9]
        refine yl2_pure (by decide) (by decide) rfl rfl rfl (by kernel_rfl) rfl hd (by simp) (by simp) ?_
        simp -implicitDefEqProofs [List.lookup, hm0, got9]
        refine yl2_alloc rfl rfl tz24 rfl ?_
        simp -implicitDefEqProofs [List.lookup, hm0, got9]
        refine yl2_store rfl rfl (by simp [upd]) ?_
        simp -implicitDefEqProofs [List.lookup, hm0, got9]
        repeat' (first
          | refine aw_seq ?_
          | (refine aw_run [5, 8, 10, 11] ?_; simp -implicitDefEqProofs (maxSteps := 1000000) [List.lookup, hm0, got9])
          | (refine aw_ymix [5, 8, 10, 11] draws (by decide +kernel) ?_; simp -implicitDefEqProofs (maxSteps := 1000000) [List.lookup, hm0, got9])
          | (refine aw_yrun draws (by kernel_rfl) ?_; simp -implicitDefEqProofs (maxSteps := 1000000) [List.lookup, hm0, got9])
          | (refine awl_skip' [5, 8, 10, 11] rfl ?_; simp -implicitDefEqProofs (maxSteps := 1000000) [List.lookup, hm0, got9])
          | (refine aw_cond rfl (fun h => ?_) (fun h => ?_) <;> try (with_reducible first | exact ff_tt h | exact tt_ff h))
          | (refine aw_skip ?_; simp -implicitDefEqProofs (maxSteps := 1000000) [List.lookup, hm0, got9])
          | refine aw_block ?_
          | (refine aw_exit ?_; simp -implicitDefEqProofs (maxSteps := 1000000) [List.lookup, hm0, got9])
          | refine aw_ret (ret_of (.inr rfl) (by simp [Tryd.results5]; rfl) (Fin.of ?_)))
        exact ⟨n - 1, by omega, mkSt [(0, gotL f 10)] [] (m + 1), le_mkSt (by simp [List.lookup, hm0, got10]) (by simp) (by simp), 10, by omega, m + 1, by omega, rfl, by rw [wrap_id (by decide) (by decide)]; rfl⟩
      · simp at h
    · refine aw_cond rfl (fun h => aw_skip ?_) (fun h => aw_exit ?_)
      · simp at h
      have hlo := least_ok [(a, fa), (b, fb)] (by simp)
      have hhi := greatest_ok [(a, fa), (b, fb)] (by simp)
      have hsm := vsum_ok [(a, fa), (b, fb)] (by simp) (by simp [ha, hb])
      by_cases hfa : fa = 0
      · by_cases hfb : fb = 0
        · subst hfa hfb
          have es : sumL [(a, 0), (b, 0)] = f 6 := by
            have hs1 : addS (0, 0) (a, 0) = (a, 0) := by simp [addS, doN, doF, numK, fltK, inI_iff.2 ha]
            show addS (addS (0, 0) (a, 0)) (b, 0) = f 6
            rw [hs1, hf]; rfl
          rw [es] at hsm
          rcases Int.lt_trichotomy a b with h1 | h1 | h1
          · have o1 : a < b := h1
            have o2 : ¬ a = b := by omega
            have o3 : ¬ b < a := by omega
            have o4 : a ≤ b := by omega
            have o5 : ¬ b ≤ a := by omega
            have n0 : (f 0).1 = 1 := by rw [hf]; simp [gotF, opK, doN, numK, o1, o2, o3, o4, o5]
            have n1 : (f 1).1 = 0 := by rw [hf]; simp [gotF, opK, doN, numK, o1, o2, o3, o4, o5]
            have n2 : (f 2).1 = 0 := by rw [hf]; simp [gotF, opK, doN, numK, o1, o2, o3, o4, o5]
            have n3 : (f 3).1 = 1 := by rw [hf]; simp [gotF, opK, doN, numK, o1, o2, o3, o4, o5]
            have n4 : (f 4).1 = 0 := by rw [hf]; simp [gotF, opK, doN, numK, o1, o2, o3, o4, o5]
            have n5 : (f 5).1 = 1 := by rw [hf]; simp [gotF, opK, doN, numK, o1, o2, o3, o4, o5]
            have el : lowL [(a, 0), (b, 0)] = (a, 0) := by simp [lowL, bestV, isFault, bstF, bstS, o1, o2, o3, o4, o5]
            have eh : highL [(a, 0), (b, 0)] = (b, 0) := by simp [highL, bestV, isFault, bstF, bstS, o1, o2, o3, o4, o5]
            rw [el] at hlo
            rw [eh] at hhi
            simp -implicitDefEqProofs [got10, List.lookup]
            repeat' (first
              | refine aw_seq ?_
              | (refine aw_run [5, 8, 10, 11] ?_; simp -implicitDefEqProofs (maxSteps := 1000000) [got10, List.lookup, vl, hm0, n0, n1, n2, n3, n4, n5, w0, w1, o1, o2, o3, o4, o5])
              | (refine aw_ymix [5, 8, 10, 11] draws (by decide +kernel) ?_; simp -implicitDefEqProofs (maxSteps := 1000000) [got10, List.lookup, vl, hm0, n0, n1, n2, n3, n4, n5, w0, w1, o1, o2, o3, o4, o5])
              | (refine aw_yrun draws (by kernel_rfl) ?_; simp -implicitDefEqProofs (maxSteps := 1000000) [got10, List.lookup, vl, hm0, n0, n1, n2, n3, n4, n5, w0, w1, o1, o2, o3, o4, o5])
              | (refine awl_skip' [5, 8, 10, 11] rfl ?_; simp -implicitDefEqProofs (maxSteps := 1000000) [got10, List.lookup, vl, hm0, n0, n1, n2, n3, n4, n5, w0, w1, o1, o2, o3, o4, o5])
              | (refine awl_pure_guard [5, 8, 10, 11] rfl rfl rfl (by first | assumption | kernel_rfl) rfl (fun hc => by first | exact hlo | exact hhi | exact hsm | exact alive3_ok) (by simp) (by simp) (by simp) ?_; simp -implicitDefEqProofs (maxSteps := 1000000) [got10, List.lookup, vl, hm0, n0, n1, n2, n3, n4, n5, w0, w1, o1, o2, o3, o4, o5])
              | (refine yl_pureG rfl rfl rfl (by first | assumption | kernel_rfl) rfl (fun hc => by first | exact hlo | exact hhi | exact hsm | exact alive3_ok) (by simp) (by simp) (by simp) ?_; simp -implicitDefEqProofs (maxSteps := 1000000) [got10, List.lookup, vl, hm0, n0, n1, n2, n3, n4, n5, w0, w1, o1, o2, o3, o4, o5])
              | (refine awl_pure' [5, 8, 10, 11] rfl rfl rfl (by first | assumption | kernel_rfl) rfl (by first | exact hlo | exact hhi | exact hsm | exact alive3_ok) (by simp) (by simp) ?_; simp -implicitDefEqProofs (maxSteps := 1000000) [got10, List.lookup, vl, hm0, n0, n1, n2, n3, n4, n5, w0, w1, o1, o2, o3, o4, o5])
              | (refine yl_pure rfl rfl rfl (by first | assumption | kernel_rfl) rfl (by first | exact hlo | exact hhi | exact hsm | exact alive3_ok) (by simp) (by simp) ?_; simp -implicitDefEqProofs (maxSteps := 1000000) [got10, List.lookup, vl, hm0, n0, n1, n2, n3, n4, n5, w0, w1, o1, o2, o3, o4, o5])
              | (refine aw_cond rfl (fun h => ?_) (fun h => ?_) <;> try (with_reducible first | exact ff_tt h | exact tt_ff h))
              | (refine aw_skip ?_; simp -implicitDefEqProofs (maxSteps := 1000000) [got10, List.lookup, vl, hm0, n0, n1, n2, n3, n4, n5, w0, w1, o1, o2, o3, o4, o5])
              | refine aw_block ?_
              | (refine aw_exit ?_; simp -implicitDefEqProofs (maxSteps := 1000000) [got10, List.lookup, vl, hm0, n0, n1, n2, n3, n4, n5, w0, w1, o1, o2, o3, o4, o5])
              | refine aw_ret (ret_of (.inr rfl) (by simp [Tryd.results5]; rfl) (Fin.of ?_)))
            rfl
          · subst h1
            have o1 : ¬ a < a := by omega
            have o2 : a = a := rfl
            have o3 : ¬ a < a := by omega
            have o4 : a ≤ a := by omega
            have o5 : a ≤ a := by omega
            have n0 : (f 0).1 = 0 := by rw [hf]; simp [gotF, opK, doN, numK, o1, o2, o3, o4, o5]
            have n1 : (f 1).1 = 1 := by rw [hf]; simp [gotF, opK, doN, numK, o1, o2, o3, o4, o5]
            have n2 : (f 2).1 = 0 := by rw [hf]; simp [gotF, opK, doN, numK, o1, o2, o3, o4, o5]
            have n3 : (f 3).1 = 1 := by rw [hf]; simp [gotF, opK, doN, numK, o1, o2, o3, o4, o5]
            have n4 : (f 4).1 = 1 := by rw [hf]; simp [gotF, opK, doN, numK, o1, o2, o3, o4, o5]
            have n5 : (f 5).1 = 0 := by rw [hf]; simp [gotF, opK, doN, numK, o1, o2, o3, o4, o5]
            have el : lowL [(a, 0), (a, 0)] = (a, 0) := by simp [lowL, bestV, isFault, bstF, bstS, o1, o2, o3, o4, o5]
            have eh : highL [(a, 0), (a, 0)] = (a, 0) := by simp [highL, bestV, isFault, bstF, bstS, o1, o2, o3, o4, o5]
            rw [el] at hlo
            rw [eh] at hhi
            simp -implicitDefEqProofs [got10, List.lookup]
            repeat' (first
              | refine aw_seq ?_
              | (refine aw_run [5, 8, 10, 11] ?_; simp -implicitDefEqProofs (maxSteps := 1000000) [got10, List.lookup, vl, hm0, n0, n1, n2, n3, n4, n5, w0, w1, o1, o2, o3, o4, o5])
              | (refine aw_ymix [5, 8, 10, 11] draws (by decide +kernel) ?_; simp -implicitDefEqProofs (maxSteps := 1000000) [got10, List.lookup, vl, hm0, n0, n1, n2, n3, n4, n5, w0, w1, o1, o2, o3, o4, o5])
              | (refine aw_yrun draws (by kernel_rfl) ?_; simp -implicitDefEqProofs (maxSteps := 1000000) [got10, List.lookup, vl, hm0, n0, n1, n2, n3, n4, n5, w0, w1, o1, o2, o3, o4, o5])
              | (refine awl_skip' [5, 8, 10, 11] rfl ?_; simp -implicitDefEqProofs (maxSteps := 1000000) [got10, List.lookup, vl, hm0, n0, n1, n2, n3, n4, n5, w0, w1, o1, o2, o3, o4, o5])
              | (refine awl_pure_guard [5, 8, 10, 11] rfl rfl rfl (by first | assumption | kernel_rfl) rfl (fun hc => by first | exact hlo | exact hhi | exact hsm | exact alive3_ok) (by simp) (by simp) (by simp) ?_; simp -implicitDefEqProofs (maxSteps := 1000000) [got10, List.lookup, vl, hm0, n0, n1, n2, n3, n4, n5, w0, w1, o1, o2, o3, o4, o5])
              | (refine yl_pureG rfl rfl rfl (by first | assumption | kernel_rfl) rfl (fun hc => by first | exact hlo | exact hhi | exact hsm | exact alive3_ok) (by simp) (by simp) (by simp) ?_; simp -implicitDefEqProofs (maxSteps := 1000000) [got10, List.lookup, vl, hm0, n0, n1, n2, n3, n4, n5, w0, w1, o1, o2, o3, o4, o5])
              | (refine awl_pure' [5, 8, 10, 11] rfl rfl rfl (by first | assumption | kernel_rfl) rfl (by first | exact hlo | exact hhi | exact hsm | exact alive3_ok) (by simp) (by simp) ?_; simp -implicitDefEqProofs (maxSteps := 1000000) [got10, List.lookup, vl, hm0, n0, n1, n2, n3, n4, n5, w0, w1, o1, o2, o3, o4, o5])
              | (refine yl_pure rfl rfl rfl (by first | assumption | kernel_rfl) rfl (by first | exact hlo | exact hhi | exact hsm | exact alive3_ok) (by simp) (by simp) ?_; simp -implicitDefEqProofs (maxSteps := 1000000) [got10, List.lookup, vl, hm0, n0, n1, n2, n3, n4, n5, w0, w1, o1, o2, o3, o4, o5])
              | (refine aw_cond rfl (fun h => ?_) (fun h => ?_) <;> try (with_reducible first | exact ff_tt h | exact tt_ff h))
              | (refine aw_skip ?_; simp -implicitDefEqProofs (maxSteps := 1000000) [got10, List.lookup, vl, hm0, n0, n1, n2, n3, n4, n5, w0, w1, o1, o2, o3, o4, o5])
              | refine aw_block ?_
              | (refine aw_exit ?_; simp -implicitDefEqProofs (maxSteps := 1000000) [got10, List.lookup, vl, hm0, n0, n1, n2, n3, n4, n5, w0, w1, o1, o2, o3, o4, o5])
              | refine aw_ret (ret_of (.inr rfl) (by simp [Tryd.results5]; rfl) (Fin.of ?_)))
            rfl
          · have o1 : ¬ a < b := by omega
            have o2 : ¬ a = b := by omega
            have o3 : b < a := h1
            have o4 : ¬ a ≤ b := by omega
            have o5 : b ≤ a := by omega
            have n0 : (f 0).1 = 0 := by rw [hf]; simp [gotF, opK, doN, numK, o1, o2, o3, o4, o5]
            have n1 : (f 1).1 = 0 := by rw [hf]; simp [gotF, opK, doN, numK, o1, o2, o3, o4, o5]
            have n2 : (f 2).1 = 1 := by rw [hf]; simp [gotF, opK, doN, numK, o1, o2, o3, o4, o5]
            have n3 : (f 3).1 = 0 := by rw [hf]; simp [gotF, opK, doN, numK, o1, o2, o3, o4, o5]
            have n4 : (f 4).1 = 1 := by rw [hf]; simp [gotF, opK, doN, numK, o1, o2, o3, o4, o5]
            have n5 : (f 5).1 = 1 := by rw [hf]; simp [gotF, opK, doN, numK, o1, o2, o3, o4, o5]
            have el : lowL [(a, 0), (b, 0)] = (b, 0) := by simp [lowL, bestV, isFault, bstF, bstS, o1, o2, o3, o4, o5]
            have eh : highL [(a, 0), (b, 0)] = (a, 0) := by simp [highL, bestV, isFault, bstF, bstS, o1, o2, o3, o4, o5]
            rw [el] at hlo
            rw [eh] at hhi
            simp -implicitDefEqProofs [got10, List.lookup]
            repeat' (first
              | refine aw_seq ?_
              | (refine aw_run [5, 8, 10, 11] ?_; simp -implicitDefEqProofs (maxSteps := 1000000) [got10, List.lookup, vl, hm0, n0, n1, n2, n3, n4, n5, w0, w1, o1, o2, o3, o4, o5])
              | (refine aw_ymix [5, 8, 10, 11] draws (by decide +kernel) ?_; simp -implicitDefEqProofs (maxSteps := 1000000) [got10, List.lookup, vl, hm0, n0, n1, n2, n3, n4, n5, w0, w1, o1, o2, o3, o4, o5])
              | (refine aw_yrun draws (by kernel_rfl) ?_; simp -implicitDefEqProofs (maxSteps := 1000000) [got10, List.lookup, vl, hm0, n0, n1, n2, n3, n4, n5, w0, w1, o1, o2, o3, o4, o5])
              | (refine awl_skip' [5, 8, 10, 11] rfl ?_; simp -implicitDefEqProofs (maxSteps := 1000000) [got10, List.lookup, vl, hm0, n0, n1, n2, n3, n4, n5, w0, w1, o1, o2, o3, o4, o5])
              | (refine awl_pure_guard [5, 8, 10, 11] rfl rfl rfl (by first | assumption | kernel_rfl) rfl (fun hc => by first | exact hlo | exact hhi | exact hsm | exact alive3_ok) (by simp) (by simp) (by simp) ?_; simp -implicitDefEqProofs (maxSteps := 1000000) [got10, List.lookup, vl, hm0, n0, n1, n2, n3, n4, n5, w0, w1, o1, o2, o3, o4, o5])
              | (refine yl_pureG rfl rfl rfl (by first | assumption | kernel_rfl) rfl (fun hc => by first | exact hlo | exact hhi | exact hsm | exact alive3_ok) (by simp) (by simp) (by simp) ?_; simp -implicitDefEqProofs (maxSteps := 1000000) [got10, List.lookup, vl, hm0, n0, n1, n2, n3, n4, n5, w0, w1, o1, o2, o3, o4, o5])
              | (refine awl_pure' [5, 8, 10, 11] rfl rfl rfl (by first | assumption | kernel_rfl) rfl (by first | exact hlo | exact hhi | exact hsm | exact alive3_ok) (by simp) (by simp) ?_; simp -implicitDefEqProofs (maxSteps := 1000000) [got10, List.lookup, vl, hm0, n0, n1, n2, n3, n4, n5, w0, w1, o1, o2, o3, o4, o5])
              | (refine yl_pure rfl rfl rfl (by first | assumption | kernel_rfl) rfl (by first | exact hlo | exact hhi | exact hsm | exact alive3_ok) (by simp) (by simp) ?_; simp -implicitDefEqProofs (maxSteps := 1000000) [got10, List.lookup, vl, hm0, n0, n1, n2, n3, n4, n5, w0, w1, o1, o2, o3, o4, o5])
              | (refine aw_cond rfl (fun h => ?_) (fun h => ?_) <;> try (with_reducible first | exact ff_tt h | exact tt_ff h))
              | (refine aw_skip ?_; simp -implicitDefEqProofs (maxSteps := 1000000) [got10, List.lookup, vl, hm0, n0, n1, n2, n3, n4, n5, w0, w1, o1, o2, o3, o4, o5])
              | refine aw_block ?_
              | (refine aw_exit ?_; simp -implicitDefEqProofs (maxSteps := 1000000) [got10, List.lookup, vl, hm0, n0, n1, n2, n3, n4, n5, w0, w1, o1, o2, o3, o4, o5])
              | refine aw_ret (ret_of (.inr rfl) (by simp [Tryd.results5]; rfl) (Fin.of ?_)))
            rfl
        · subst hfa
          have es : sumL [(a, 0), (b, fb)] = (0, fb) := by
            have hs1 : addS (0, 0) (a, 0) = (a, 0) := by simp [addS, doN, doF, numK, fltK, inI_iff.2 ha]
            show addS (addS (0, 0) (a, 0)) (b, fb) = (0, fb)
            rw [hs1]; simp [addS, doN, doF, hfb]
          have n0 : (f 0).1 = 0 := by rw [hf]; simp [gotF, opK, doN, hfb]
          have q0 : (f 0).2 = fb := by rw [hf]; simp [gotF, opK, doF, hfb]
          have n1 : (f 1).1 = 0 := by rw [hf]; simp [gotF, opK, doN, hfb]
          have q1 : (f 1).2 = fb := by rw [hf]; simp [gotF, opK, doF, hfb]
          have n2 : (f 2).1 = 0 := by rw [hf]; simp [gotF, opK, doN, hfb]
          have q2 : (f 2).2 = fb := by rw [hf]; simp [gotF, opK, doF, hfb]
          have n3 : (f 3).1 = 0 := by rw [hf]; simp [gotF, opK, doN, hfb]
          have q3 : (f 3).2 = fb := by rw [hf]; simp [gotF, opK, doF, hfb]
          have n4 : (f 4).1 = 0 := by rw [hf]; simp [gotF, opK, doN, hfb]
          have q4 : (f 4).2 = fb := by rw [hf]; simp [gotF, opK, doF, hfb]
          have n5 : (f 5).1 = 0 := by rw [hf]; simp [gotF, opK, doN, hfb]
          have q5 : (f 5).2 = fb := by rw [hf]; simp [gotF, opK, doF, hfb]
          have n6 : (f 6).1 = 0 := by rw [hf]; simp [gotF, opK, doN, hfb]
          have q6 : (f 6).2 = fb := by rw [hf]; simp [gotF, opK, doF, hfb]
          have n7 : (f 7).1 = 0 := by rw [hf]; simp [gotF, opK, doN, hfb]
          have q7 : (f 7).2 = fb := by rw [hf]; simp [gotF, opK, doF, hfb]
          have n8 : (f 8).1 = 0 := by rw [hf]; simp [gotF, opK, doN, hfb]
          have q8 : (f 8).2 = fb := by rw [hf]; simp [gotF, opK, doF, hfb]
          have n9 : (f 9).1 = 0 := by rw [hf]; simp [gotF, opK, doN, hfb]
          have q9 : (f 9).2 = fb := by rw [hf]; simp [gotF, opK, doF, hfb]
          have el : lowL [(a, 0), (b, fb)] = (0, fb) := by simp [lowL, bestV, isFault, hfb]
          have eh : highL [(a, 0), (b, fb)] = (0, fb) := by simp [highL, bestV, isFault, hfb]
          rw [el] at hlo
          rw [eh] at hhi
          rw [es] at hsm
          simp -implicitDefEqProofs [got10, List.lookup]
          repeat' (first
            | refine aw_seq ?_
            | (refine aw_run [5, 8, 10, 11] ?_; simp -implicitDefEqProofs (maxSteps := 1000000) [got10, List.lookup, vl, hm0, n0, q0, n1, q1, n2, q2, n3, q3, n4, q4, n5, q5, n6, q6, n7, q7, n8, q8, n9, q9, hfb])
            | (refine aw_ymix [5, 8, 10, 11] draws (by decide +kernel) ?_; simp -implicitDefEqProofs (maxSteps := 1000000) [got10, List.lookup, vl, hm0, n0, q0, n1, q1, n2, q2, n3, q3, n4, q4, n5, q5, n6, q6, n7, q7, n8, q8, n9, q9, hfb])
            | (refine aw_yrun draws (by kernel_rfl) ?_; simp -implicitDefEqProofs (maxSteps := 1000000) [got10, List.lookup, vl, hm0, n0, q0, n1, q1, n2, q2, n3, q3, n4, q4, n5, q5, n6, q6, n7, q7, n8, q8, n9, q9, hfb])
            | (refine awl_skip' [5, 8, 10, 11] rfl ?_; simp -implicitDefEqProofs (maxSteps := 1000000) [got10, List.lookup, vl, hm0, n0, q0, n1, q1, n2, q2, n3, q3, n4, q4, n5, q5, n6, q6, n7, q7, n8, q8, n9, q9, hfb])
            | (refine awl_pure_guard [5, 8, 10, 11] rfl rfl rfl (by first | assumption | kernel_rfl) rfl (fun hc => by first | exact hlo | exact hhi | exact hsm | exact alive3_ok) (by simp) (by simp) (by simp) ?_; simp -implicitDefEqProofs (maxSteps := 1000000) [got10, List.lookup, vl, hm0, n0, q0, n1, q1, n2, q2, n3, q3, n4, q4, n5, q5, n6, q6, n7, q7, n8, q8, n9, q9, hfb])
            | (refine yl_pureG rfl rfl rfl (by first | assumption | kernel_rfl) rfl (fun hc => by first | exact hlo | exact hhi | exact hsm | exact alive3_ok) (by simp) (by simp) (by simp) ?_; simp -implicitDefEqProofs (maxSteps := 1000000) [got10, List.lookup, vl, hm0, n0, q0, n1, q1, n2, q2, n3, q3, n4, q4, n5, q5, n6, q6, n7, q7, n8, q8, n9, q9, hfb])
            | (refine awl_pure' [5, 8, 10, 11] rfl rfl rfl (by first | assumption | kernel_rfl) rfl (by first | exact hlo | exact hhi | exact hsm | exact alive3_ok) (by simp) (by simp) ?_; simp -implicitDefEqProofs (maxSteps := 1000000) [got10, List.lookup, vl, hm0, n0, q0, n1, q1, n2, q2, n3, q3, n4, q4, n5, q5, n6, q6, n7, q7, n8, q8, n9, q9, hfb])
            | (refine yl_pure rfl rfl rfl (by first | assumption | kernel_rfl) rfl (by first | exact hlo | exact hhi | exact hsm | exact alive3_ok) (by simp) (by simp) ?_; simp -implicitDefEqProofs (maxSteps := 1000000) [got10, List.lookup, vl, hm0, n0, q0, n1, q1, n2, q2, n3, q3, n4, q4, n5, q5, n6, q6, n7, q7, n8, q8, n9, q9, hfb])
            | (refine aw_cond rfl (fun h => ?_) (fun h => ?_) <;> try (with_reducible first | exact ff_tt h | exact tt_ff h))
            | (refine aw_skip ?_; simp -implicitDefEqProofs (maxSteps := 1000000) [got10, List.lookup, vl, hm0, n0, q0, n1, q1, n2, q2, n3, q3, n4, q4, n5, q5, n6, q6, n7, q7, n8, q8, n9, q9, hfb])
            | refine aw_block ?_
            | (refine aw_exit ?_; simp -implicitDefEqProofs (maxSteps := 1000000) [got10, List.lookup, vl, hm0, n0, q0, n1, q1, n2, q2, n3, q3, n4, q4, n5, q5, n6, q6, n7, q7, n8, q8, n9, q9, hfb])
            | refine aw_ret (ret_of (.inr rfl) (by simp [Tryd.results5]; rfl) (Fin.of ?_)))
          refine aw_loopW [2, 3, 5, 10, 11, 12, 13] (fun n fr σ => ∃ i mm : Nat, i + n = 10 ∧ m + 2 ≤ mm ∧ σ = mkSt [(0, gotL f 10), (m, [vi 0, vi fb]), (m + 1, [vi 0, vi fb])] [] mm ∧ fr = frm 224 [(2, .vel [value a 0] 0 0), (3, .vel [value b fb] 0 0), (5, .ptr 0 0), (10, .ptr m 0), (11, .ptr (m + 1) 0), (12, vi fb), (13, vi (i : Nat))]) 10 ?_ ?_
          · refine ⟨mkSt [(0, gotL f 10), (m, [vi 0, vi fb]), (m + 1, [vi 0, vi fb])] [] (m + 2), le_mkSt (by simp [List.lookup, hm0, got10, n0, q0, n1, q1, n2, q2, n3, q3, n4, q4, n5, q5, n6, q6, n7, q7, n8, q8, n9, q9]) (by simp) (by simp), 0, m + 2, by omega, by omega, rfl, by simp⟩
          · rintro n fr σ ⟨i, mm, hi, hmm, rfl, rfl⟩
            simp
            have hm1 : ¬ m = 0 := by omega
            have hm2 : (m == 0) = false := by simp; omega
            have hm3 : (m + 1 == m) = false := by simp
            have hm4 : (m + 1 == 0) = false := by simp
            have hi10 : i = 0 ∨ i = 1 ∨ i = 2 ∨ i = 3 ∨ i = 4 ∨ i = 5 ∨ i = 6 ∨ i = 7 ∨ i = 8 ∨ i = 9 ∨ i = 10 := by omega
            refine aw_seq (aw_seq (aw_run [5, 8, 10, 11] ?_))
            simp -implicitDefEqProofs [List.lookup]
            rcases hi10 with rfl | rfl | rfl | rfl | rfl | rfl | rfl | rfl | rfl | rfl | rfl
            · refine aw_cond rfl (fun h => aw_skip ?_) (fun h => aw_exit ?_)
              · simp -implicitDefEqProofs [List.lookup, got10]
                repeat' (first
                  | refine aw_seq ?_
                  | (refine aw_run [5, 8, 10, 11] ?_; simp -implicitDefEqProofs (maxSteps := 1000000) [got10, List.lookup, hm0, hm1, n0, q0, n1, q1, n2, q2, n3, q3, n4, q4, n5, q5, n6, q6, n7, q7, n8, q8, n9, q9])
                  | (refine aw_ymix [5, 8, 10, 11] draws (by decide +kernel) ?_; simp -implicitDefEqProofs (maxSteps := 1000000) [got10, List.lookup, hm0, hm1, n0, q0, n1, q1, n2, q2, n3, q3, n4, q4, n5, q5, n6, q6, n7, q7, n8, q8, n9, q9])
                  | (refine aw_yrun draws (by kernel_rfl) ?_; simp -implicitDefEqProofs (maxSteps := 1000000) [got10, List.lookup, hm0, hm1, n0, q0, n1, q1, n2, q2, n3, q3, n4, q4, n5, q5, n6, q6, n7, q7, n8, q8, n9, q9])
                  | (refine awl_skip' [5, 8, 10, 11] rfl ?_; simp -implicitDefEqProofs (maxSteps := 1000000) [got10, List.lookup, hm0, hm1, n0, q0, n1, q1, n2, q2, n3, q3, n4, q4, n5, q5, n6, q6, n7, q7, n8, q8, n9, q9])
                  | (refine aw_cond rfl (fun h => ?_) (fun h => ?_) <;> try (with_reducible first | exact ff_tt h | exact tt_ff h))
                  | (refine aw_skip ?_; simp -implicitDefEqProofs (maxSteps := 1000000) [got10, List.lookup, hm0, hm1, n0, q0, n1, q1, n2, q2, n3, q3, n4, q4, n5, q5, n6, q6, n7, q7, n8, q8, n9, q9])
                  | refine aw_block ?_
                  | (refine aw_exit ?_; simp -implicitDefEqProofs (maxSteps := 1000000) [got10, List.lookup, hm0, hm1, n0, q0, n1, q1, n2, q2, n3, q3, n4, q4, n5, q5, n6, q6, n7, q7, n8, q8, n9, q9])
                  | refine aw_ret (ret_of (.inr rfl) (by simp [Tryd.results5]; rfl) (Fin.of ?_)))
                exact ⟨n - 1, by omega, _, leSame _, 1, by omega, mm, by omega, rfl, by rw [wrap_id (by decide) (by decide)]; rfl⟩
              · simp at h
            · refine aw_cond rfl (fun h => aw_skip ?_) (fun h => aw_exit ?_)
              · simp -implicitDefEqProofs [List.lookup, got10]
                repeat' (first
                  | refine aw_seq ?_
                  | (refine aw_run [5, 8, 10, 11] ?_; simp -implicitDefEqProofs (maxSteps := 1000000) [got10, List.lookup, hm0, hm1, n0, q0, n1, q1, n2, q2, n3, q3, n4, q4, n5, q5, n6, q6, n7, q7, n8, q8, n9, q9])
                  | (refine aw_ymix [5, 8, 10, 11] draws (by decide +kernel) ?_; simp -implicitDefEqProofs (maxSteps := 1000000) [got10, List.lookup, hm0, hm1, n0, q0, n1, q1, n2, q2, n3, q3, n4, q4, n5, q5, n6, q6, n7, q7, n8, q8, n9, q9])
                  | (refine aw_yrun draws (by kernel_rfl) ?_; simp -implicitDefEqProofs (maxSteps := 1000000) [got10, List.lookup, hm0, hm1, n0, q0, n1, q1, n2, q2, n3, q3, n4, q4, n5, q5, n6, q6, n7, q7, n8, q8, n9, q9])
                  | (refine awl_skip' [5, 8, 10, 11] rfl ?_; simp -implicitDefEqProofs (maxSteps := 1000000) [got10, List.lookup, hm0, hm1, n0, q0, n1, q1, n2, q2, n3, q3, n4, q4, n5, q5, n6, q6, n7, q7, n8, q8, n9, q9])
                  | (refine aw_cond rfl (fun h => ?_) (fun h => ?_) <;> try (with_reducible first | exact ff_tt h | exact tt_ff h))
                  | (refine aw_skip ?_; simp -implicitDefEqProofs (maxSteps := 1000000) [got10, List.lookup, hm0, hm1, n0, q0, n1, q1, n2, q2, n3, q3, n4, q4, n5, q5, n6, q6, n7, q7, n8, q8, n9, q9])
                  | refine aw_block ?_
                  | (refine aw_exit ?_; simp -implicitDefEqProofs (maxSteps := 1000000) [got10, List.lookup, hm0, hm1, n0, q0, n1, q1, n2, q2, n3, q3, n4, q4, n5, q5, n6, q6, n7, q7, n8, q8, n9, q9])
                  | refine aw_ret (ret_of (.inr rfl) (by simp [Tryd.results5]; rfl) (Fin.of ?_)))
                exact ⟨n - 1, by omega, _, leSame _, 2, by omega, mm, by omega, rfl, by rw [wrap_id (by decide) (by decide)]; rfl⟩
              · simp at h
            · refine aw_cond rfl (fun h => aw_skip ?_) (fun h => aw_exit ?_)
              · simp -implicitDefEqProofs [List.lookup, got10]
                repeat' (first
                  | refine aw_seq ?_
                  | (refine aw_run [5, 8, 10, 11] ?_; simp -implicitDefEqProofs (maxSteps := 1000000) [got10, List.lookup, hm0, hm1, n0, q0, n1, q1, n2, q2, n3, q3, n4, q4, n5, q5, n6, q6, n7, q7, n8, q8, n9, q9])
                  | (refine aw_ymix [5, 8, 10, 11] draws (by decide +kernel) ?_; simp -implicitDefEqProofs (maxSteps := 1000000) [got10, List.lookup, hm0, hm1, n0, q0, n1, q1, n2, q2, n3, q3, n4, q4, n5, q5, n6, q6, n7, q7, n8, q8, n9, q9])
                  | (refine aw_yrun draws (by kernel_rfl) ?_; simp -implicitDefEqProofs (maxSteps := 1000000) [got10, List.lookup, hm0, hm1, n0, q0, n1, q1, n2, q2, n3, q3, n4, q4, n5, q5, n6, q6, n7, q7, n8, q8, n9, q9])
                  | (refine awl_skip' [5, 8, 10, 11] rfl ?_; simp -implicitDefEqProofs (maxSteps := 1000000) [got10, List.lookup, hm0, hm1, n0, q0, n1, q1, n2, q2, n3, q3, n4, q4, n5, q5, n6, q6, n7, q7, n8, q8, n9, q9])
                  | (refine aw_cond rfl (fun h => ?_) (fun h => ?_) <;> try (with_reducible first | exact ff_tt h | exact tt_ff h))
                  | (refine aw_skip ?_; simp -implicitDefEqProofs (maxSteps := 1000000) [got10, List.lookup, hm0, hm1, n0, q0, n1, q1, n2, q2, n3, q3, n4, q4, n5, q5, n6, q6, n7, q7, n8, q8, n9, q9])
                  | refine aw_block ?_
                  | (refine aw_exit ?_; simp -implicitDefEqProofs (maxSteps := 1000000) [got10, List.lookup, hm0, hm1, n0, q0, n1, q1, n2, q2, n3, q3, n4, q4, n5, q5, n6, q6, n7, q7, n8, q8, n9, q9])
                  | refine aw_ret (ret_of (.inr rfl) (by simp [Tryd.results5]; rfl) (Fin.of ?_)))
                exact ⟨n - 1, by omega, _, leSame _, 3, by omega, mm, by omega, rfl, by rw [wrap_id (by decide) (by decide)]; rfl⟩
              · simp at h
            · refine aw_cond rfl (fun h => aw_skip ?_) (fun h => aw_exit ?_)
              · simp -implicitDefEqProofs [List.lookup, got10]
                repeat' (first
                  | refine aw_seq ?_
                  | (refine aw_run [5, 8, 10, 11] ?_; simp -implicitDefEqProofs (maxSteps := 1000000) [got10, List.lookup, hm0, hm1, n0, q0, n1, q1, n2, q2, n3, q3, n4, q4, n5, q5, n6, q6, n7, q7, n8, q8, n9, q9])
                  | (refine aw_ymix [5, 8, 10, 11] draws (by decide +kernel) ?_; simp -implicitDefEqProofs (maxSteps := 1000000) [got10, List.lookup, hm0, hm1, n0, q0, n1, q1, n2, q2, n3, q3, n4, q4, n5, q5, n6, q6, n7, q7, n8, q8, n9, q9])
                  | (refine aw_yrun draws (by kernel_rfl) ?_; simp -implicitDefEqProofs (maxSteps := 1000000) [got10, List.lookup, hm0, hm1, n0, q0, n1, q1, n2, q2, n3, q3, n4, q4, n5, q5, n6, q6, n7, q7, n8, q8, n9, q9])
                  | (refine awl_skip' [5, 8, 10, 11] rfl ?_; simp -implicitDefEqProofs (maxSteps := 1000000) [got10, List.lookup, hm0, hm1, n0, q0, n1, q1, n2, q2, n3, q3, n4, q4, n5, q5, n6, q6, n7, q7, n8, q8, n9, q9])
                  | (refine aw_cond rfl (fun h => ?_) (fun h => ?_) <;> try (with_reducible first | exact ff_tt h | exact tt_ff h))
                  | (refine aw_skip ?_; simp -implicitDefEqProofs (maxSteps := 1000000) [got10, List.lookup, hm0, hm1, n0, q0, n1, q1, n2, q2, n3, q3, n4, q4, n5, q5, n6, q6, n7, q7, n8, q8, n9, q9])
                  | refine aw_block ?_
                  | (refine aw_exit ?_; simp -implicitDefEqProofs (maxSteps := 1000000) [got10, List.lookup, hm0, hm1, n0, q0, n1, q1, n2, q2, n3, q3, n4, q4, n5, q5, n6, q6, n7, q7, n8, q8, n9, q9])
                  | refine aw_ret (ret_of (.inr rfl) (by simp [Tryd.results5]; rfl) (Fin.of ?_)))
                exact ⟨n - 1, by omega, _, leSame _, 4, by omega, mm, by omega, rfl, by rw [wrap_id (by decide) (by decide)]; rfl⟩
              · simp at h
            · refine aw_cond rfl (fun h => aw_skip ?_) (fun h => aw_exit ?_)
              · simp -implicitDefEqProofs [List.lookup, got10]
                repeat' (first
                  | refine aw_seq ?_
                  | (refine aw_run [5, 8, 10, 11] ?_; simp -implicitDefEqProofs (maxSteps := 1000000) [got10, List.lookup, hm0, hm1, n0, q0, n1, q1, n2, q2, n3, q3, n4, q4, n5, q5, n6, q6, n7, q7, n8, q8, n9, q9])
                  | (refine aw_ymix [5, 8, 10, 11] draws (by decide +kernel) ?_; simp -implicitDefEqProofs (maxSteps := 1000000) [got10, List.lookup, hm0, hm1, n0, q0, n1, q1, n2, q2, n3, q3, n4, q4, n5, q5, n6, q6, n7, q7, n8, q8, n9, q9])
                  | (refine aw_yrun draws (by kernel_rfl) ?_; simp -implicitDefEqProofs (maxSteps := 1000000) [got10, List.lookup, hm0, hm1, n0, q0, n1, q1, n2, q2, n3, q3, n4, q4, n5, q5, n6, q6, n7, q7, n8, q8, n9, q9])
                  | (refine awl_skip' [5, 8, 10, 11] rfl ?_; simp -implicitDefEqProofs (maxSteps := 1000000) [got10, List.lookup, hm0, hm1, n0, q0, n1, q1, n2, q2, n3, q3, n4, q4, n5, q5, n6, q6, n7, q7, n8, q8, n9, q9])
                  | (refine aw_cond rfl (fun h => ?_) (fun h => ?_) <;> try (with_reducible first | exact ff_tt h | exact tt_ff h))
                  | (refine aw_skip ?_; simp -implicitDefEqProofs (maxSteps := 1000000) [got10, List.lookup, hm0, hm1, n0, q0, n1, q1, n2, q2, n3, q3, n4, q4, n5, q5, n6, q6, n7, q7, n8, q8, n9, q9])
                  | refine aw_block ?_
                  | (refine aw_exit ?_; simp -implicitDefEqProofs (maxSteps := 1000000) [got10, List.lookup, hm0, hm1, n0, q0, n1, q1, n2, q2, n3, q3, n4, q4, n5, q5, n6, q6, n7, q7, n8, q8, n9, q9])
                  | refine aw_ret (ret_of (.inr rfl) (by simp [Tryd.results5]; rfl) (Fin.of ?_)))
                exact ⟨n - 1, by omega, _, leSame _, 5, by omega, mm, by omega, rfl, by rw [wrap_id (by decide) (by decide)]; rfl⟩
              · simp at h
            · refine aw_cond rfl (fun h => aw_skip ?_) (fun h => aw_exit ?_)
              · simp -implicitDefEqProofs [List.lookup, got10]
                repeat' (first
                  | refine aw_seq ?_
                  | (refine aw_run [5, 8, 10, 11] ?_; simp -implicitDefEqProofs (maxSteps := 1000000) [got10, List.lookup, hm0, hm1, n0, q0, n1, q1, n2, q2, n3, q3, n4, q4, n5, q5, n6, q6, n7, q7, n8, q8, n9, q9])
                  | (refine aw_ymix [5, 8, 10, 11] draws (by decide +kernel) ?_; simp -implicitDefEqProofs (maxSteps := 1000000) [got10, List.lookup, hm0, hm1, n0, q0, n1, q1, n2, q2, n3, q3, n4, q4, n5, q5, n6, q6, n7, q7, n8, q8, n9, q9])
                  | (refine aw_yrun draws (by kernel_rfl) ?_; simp -implicitDefEqProofs (maxSteps := 1000000) [got10, List.lookup, hm0, hm1, n0, q0, n1, q1, n2, q2, n3, q3, n4, q4, n5, q5, n6, q6, n7, q7, n8, q8, n9, q9])
                  | (refine awl_skip' [5, 8, 10, 11] rfl ?_; simp -implicitDefEqProofs (maxSteps := 1000000) [got10, List.lookup, hm0, hm1, n0, q0, n1, q1, n2, q2, n3, q3, n4, q4, n5, q5, n6, q6, n7, q7, n8, q8, n9, q9])
                  | (refine aw_cond rfl (fun h => ?_) (fun h => ?_) <;> try (with_reducible first | exact ff_tt h | exact tt_ff h))
                  | (refine aw_skip ?_; simp -implicitDefEqProofs (maxSteps := 1000000) [got10, List.lookup, hm0, hm1, n0, q0, n1, q1, n2, q2, n3, q3, n4, q4, n5, q5, n6, q6, n7, q7, n8, q8, n9, q9])
                  | refine aw_block ?_
                  | (refine aw_exit ?_; simp -implicitDefEqProofs (maxSteps := 1000000) [got10, List.lookup, hm0, hm1, n0, q0, n1, q1, n2, q2, n3, q3, n4, q4, n5, q5, n6, q6, n7, q7, n8, q8, n9, q9])
                  | refine aw_ret (ret_of (.inr rfl) (by simp [Tryd.results5]; rfl) (Fin.of ?_)))
                exact ⟨n - 1, by omega, _, leSame _, 6, by omega, mm, by omega, rfl, by rw [wrap_id (by decide) (by decide)]; rfl⟩
              · simp at h
            · refine aw_cond rfl (fun h => aw_skip ?_) (fun h => aw_exit ?_)
              · simp -implicitDefEqProofs [List.lookup, got10]
                repeat' (first
                  | refine aw_seq ?_
                  | (refine aw_run [5, 8, 10, 11] ?_; simp -implicitDefEqProofs (maxSteps := 1000000) [got10, List.lookup, hm0, hm1, n0, q0, n1, q1, n2, q2, n3, q3, n4, q4, n5, q5, n6, q6, n7, q7, n8, q8, n9, q9])
                  | (refine aw_ymix [5, 8, 10, 11] draws (by decide +kernel) ?_; simp -implicitDefEqProofs (maxSteps := 1000000) [got10, List.lookup, hm0, hm1, n0, q0, n1, q1, n2, q2, n3, q3, n4, q4, n5, q5, n6, q6, n7, q7, n8, q8, n9, q9])
                  | (refine aw_yrun draws (by kernel_rfl) ?_; simp -implicitDefEqProofs (maxSteps := 1000000) [got10, List.lookup, hm0, hm1, n0, q0, n1, q1, n2, q2, n3, q3, n4, q4, n5, q5, n6, q6, n7, q7, n8, q8, n9, q9])
                  | (refine awl_skip' [5, 8, 10, 11] rfl ?_; simp -implicitDefEqProofs (maxSteps := 1000000) [got10, List.lookup, hm0, hm1, n0, q0, n1, q1, n2, q2, n3, q3, n4, q4, n5, q5, n6, q6, n7, q7, n8, q8, n9, q9])
                  | (refine aw_cond rfl (fun h => ?_) (fun h => ?_) <;> try (with_reducible first | exact ff_tt h | exact tt_ff h))
                  | (refine aw_skip ?_; simp -implicitDefEqProofs (maxSteps := 1000000) [got10, List.lookup, hm0, hm1, n0, q0, n1, q1, n2, q2, n3, q3, n4, q4, n5, q5, n6, q6, n7, q7, n8, q8, n9, q9])
                  | refine aw_block ?_
                  | (refine aw_exit ?_; simp -implicitDefEqProofs (maxSteps := 1000000) [got10, List.lookup, hm0, hm1, n0, q0, n1, q1, n2, q2, n3, q3, n4, q4, n5, q5, n6, q6, n7, q7, n8, q8, n9, q9])
                  | refine aw_ret (ret_of (.inr rfl) (by simp [Tryd.results5]; rfl) (Fin.of ?_)))
                exact ⟨n - 1, by omega, _, leSame _, 7, by omega, mm, by omega, rfl, by rw [wrap_id (by decide) (by decide)]; rfl⟩
              · simp at h
            · refine aw_cond rfl (fun h => aw_skip ?_) (fun h => aw_exit ?_)
              · simp -implicitDefEqProofs [List.lookup, got10]
                repeat' (first
                  | refine aw_seq ?_
                  | (refine aw_run [5, 8, 10, 11] ?_; simp -implicitDefEqProofs (maxSteps := 1000000) [got10, List.lookup, hm0, hm1, n0, q0, n1, q1, n2, q2, n3, q3, n4, q4, n5, q5, n6, q6, n7, q7, n8, q8, n9, q9])
                  | (refine aw_ymix [5, 8, 10, 11] draws (by decide +kernel) ?_; simp -implicitDefEqProofs (maxSteps := 1000000) [got10, List.lookup, hm0, hm1, n0, q0, n1, q1, n2, q2, n3, q3, n4, q4, n5, q5, n6, q6, n7, q7, n8, q8, n9, q9])
                  | (refine aw_yrun draws (by kernel_rfl) ?_; simp -implicitDefEqProofs (maxSteps := 1000000) [got10, List.lookup, hm0, hm1, n0, q0, n1, q1, n2, q2, n3, q3, n4, q4, n5, q5, n6, q6, n7, q7, n8, q8, n9, q9])
                  | (refine awl_skip' [5, 8, 10, 11] rfl ?_; simp -implicitDefEqProofs (maxSteps := 1000000) [got10, List.lookup, hm0, hm1, n0, q0, n1, q1, n2, q2, n3, q3, n4, q4, n5, q5, n6, q6, n7, q7, n8, q8, n9, q9])
                  | (refine aw_cond rfl (fun h => ?_) (fun h => ?_) <;> try (with_reducible first | exact ff_tt h | exact tt_ff h))
                  | (refine aw_skip ?_; simp -implicitDefEqProofs (maxSteps := 1000000) [got10, List.lookup, hm0, hm1, n0, q0, n1, q1, n2, q2, n3, q3, n4, q4, n5, q5, n6, q6, n7, q7, n8, q8, n9, q9])
                  | refine aw_block ?_
                  | (refine aw_exit ?_; simp -implicitDefEqProofs (maxSteps := 1000000) [got10, List.lookup, hm0, hm1, n0, q0, n1, q1, n2, q2, n3, q3, n4, q4, n5, q5, n6, q6, n7, q7, n8, q8, n9, q9])
                  | refine aw_ret (ret_of (.inr rfl) (by simp [Tryd.results5]; rfl) (Fin.of ?_)))
                exact ⟨n - 1, by omega, _, leSame _, 8, by omega, mm, by omega, rfl, by rw [wrap_id (by decide) (by decide)]; rfl⟩
              · simp at h
            · refine aw_cond rfl (fun h => aw_skip ?_) (fun h => aw_exit ?_)
              · simp -implicitDefEqProofs [List.lookup, got10]
                repeat' (first
                  | refine aw_seq ?_
                  | (refine aw_run [5, 8, 10, 11] ?_; simp -implicitDefEqProofs (maxSteps := 1000000) [got10, List.lookup, hm0, hm1, n0, q0, n1, q1, n2, q2, n3, q3, n4, q4, n5, q5, n6, q6, n7, q7, n8, q8, n9, q9])
                  | (refine aw_ymix [5, 8, 10, 11] draws (by decide +kernel) ?_; simp -implicitDefEqProofs (maxSteps := 1000000) [got10, List.lookup, hm0, hm1, n0, q0, n1, q1, n2, q2, n3, q3, n4, q4, n5, q5, n6, q6, n7, q7, n8, q8, n9, q9])
                  | (refine aw_yrun draws (by kernel_rfl) ?_; simp -implicitDefEqProofs (maxSteps := 1000000) [got10, List.lookup, hm0, hm1, n0, q0, n1, q1, n2, q2, n3, q3, n4, q4, n5, q5, n6, q6, n7, q7, n8, q8, n9, q9])
                  | (refine awl_skip' [5, 8, 10, 11] rfl ?_; simp -implicitDefEqProofs (maxSteps := 1000000) [got10, List.lookup, hm0, hm1, n0, q0, n1, q1, n2, q2, n3, q3, n4, q4, n5, q5, n6, q6, n7, q7, n8, q8, n9, q9])
                  | (refine aw_cond rfl (fun h => ?_) (fun h => ?_) <;> try (with_reducible first | exact ff_tt h | exact tt_ff h))
                  | (refine aw_skip ?_; simp -implicitDefEqProofs (maxSteps := 1000000) [got10, List.lookup, hm0, hm1, n0, q0, n1, q1, n2, q2, n3, q3, n4, q4, n5, q5, n6, q6, n7, q7, n8, q8, n9, q9])
                  | refine aw_block ?_
                  | (refine aw_exit ?_; simp -implicitDefEqProofs (maxSteps := 1000000) [got10, List.lookup, hm0, hm1, n0, q0, n1, q1, n2, q2, n3, q3, n4, q4, n5, q5, n6, q6, n7, q7, n8, q8, n9, q9])
                  | refine aw_ret (ret_of (.inr rfl) (by simp [Tryd.results5]; rfl) (Fin.of ?_)))
                exact ⟨n - 1, by omega, _, leSame _, 9, by omega, mm, by omega, rfl, by rw [wrap_id (by decide) (by decide)]; rfl⟩
              · simp at h
            · refine aw_cond rfl (fun h => aw_skip ?_) (fun h => aw_exit ?_)
              · simp -implicitDefEqProofs [List.lookup, got10]
                repeat' (first
                  | refine aw_seq ?_
                  | (refine aw_run [5, 8, 10, 11] ?_; simp -implicitDefEqProofs (maxSteps := 1000000) [got10, List.lookup, hm0, hm1, n0, q0, n1, q1, n2, q2, n3, q3, n4, q4, n5, q5, n6, q6, n7, q7, n8, q8, n9, q9])
                  | (refine aw_ymix [5, 8, 10, 11] draws (by decide +kernel) ?_; simp -implicitDefEqProofs (maxSteps := 1000000) [got10, List.lookup, hm0, hm1, n0, q0, n1, q1, n2, q2, n3, q3, n4, q4, n5, q5, n6, q6, n7, q7, n8, q8, n9, q9])
                  | (refine aw_yrun draws (by kernel_rfl) ?_; simp -implicitDefEqProofs (maxSteps := 1000000) [got10, List.lookup, hm0, hm1, n0, q0, n1, q1, n2, q2, n3, q3, n4, q4, n5, q5, n6, q6, n7, q7, n8, q8, n9, q9])
                  | (refine awl_skip' [5, 8, 10, 11] rfl ?_; simp -implicitDefEqProofs (maxSteps := 1000000) [got10, List.lookup, hm0, hm1, n0, q0, n1, q1, n2, q2, n3, q3, n4, q4, n5, q5, n6, q6, n7, q7, n8, q8, n9, q9])
                  | (refine aw_cond rfl (fun h => ?_) (fun h => ?_) <;> try (with_reducible first | exact ff_tt h | exact tt_ff h))
                  | (refine aw_skip ?_; simp -implicitDefEqProofs (maxSteps := 1000000) [got10, List.lookup, hm0, hm1, n0, q0, n1, q1, n2, q2, n3, q3, n4, q4, n5, q5, n6, q6, n7, q7, n8, q8, n9, q9])
                  | refine aw_block ?_
                  | (refine aw_exit ?_; simp -implicitDefEqProofs (maxSteps := 1000000) [got10, List.lookup, hm0, hm1, n0, q0, n1, q1, n2, q2, n3, q3, n4, q4, n5, q5, n6, q6, n7, q7, n8, q8, n9, q9])
                  | refine aw_ret (ret_of (.inr rfl) (by simp [Tryd.results5]; rfl) (Fin.of ?_)))
                exact ⟨n - 1, by omega, _, leSame _, 10, by omega, mm, by omega, rfl, by rw [wrap_id (by decide) (by decide)]; rfl⟩
              · simp at h
            · refine aw_cond rfl (fun h => aw_skip ?_) (fun h => aw_exit ?_)
              · simp at h
              · simp -implicitDefEqProofs [List.lookup, got10]
                repeat' (first
                  | refine aw_seq ?_
                  | (refine aw_run [5, 8, 10, 11] ?_; simp -implicitDefEqProofs (maxSteps := 1000000) [got10, List.lookup, vl, hm0, hm1, hm2, hm3, hm4, n0, q0, n1, q1, n2, q2, n3, q3, n4, q4, n5, q5, n6, q6, n7, q7, n8, q8, n9, q9])
                  | (refine aw_ymix [5, 8, 10, 11] draws (by decide +kernel) ?_; simp -implicitDefEqProofs (maxSteps := 1000000) [got10, List.lookup, vl, hm0, hm1, hm2, hm3, hm4, n0, q0, n1, q1, n2, q2, n3, q3, n4, q4, n5, q5, n6, q6, n7, q7, n8, q8, n9, q9])
                  | (refine aw_yrun draws (by kernel_rfl) ?_; simp -implicitDefEqProofs (maxSteps := 1000000) [got10, List.lookup, vl, hm0, hm1, hm2, hm3, hm4, n0, q0, n1, q1, n2, q2, n3, q3, n4, q4, n5, q5, n6, q6, n7, q7, n8, q8, n9, q9])
                  | (refine awl_skip' [5, 8, 10, 11] rfl ?_; simp -implicitDefEqProofs (maxSteps := 1000000) [got10, List.lookup, vl, hm0, hm1, hm2, hm3, hm4, n0, q0, n1, q1, n2, q2, n3, q3, n4, q4, n5, q5, n6, q6, n7, q7, n8, q8, n9, q9])
                  | (refine awl_pure_guard [5, 8, 10, 11] rfl rfl rfl (by first | assumption | kernel_rfl) rfl (fun hc => by first | exact hsm | exact alive3_ok) (by simp) (by simp) (by simp) ?_; simp -implicitDefEqProofs (maxSteps := 1000000) [got10, List.lookup, vl, hm0, hm1, hm2, hm3, hm4, n0, q0, n1, q1, n2, q2, n3, q3, n4, q4, n5, q5, n6, q6, n7, q7, n8, q8, n9, q9])
                  | (refine yl_pureG rfl rfl rfl (by first | assumption | kernel_rfl) rfl (fun hc => by first | exact hsm | exact alive3_ok) (by simp) (by simp) (by simp) ?_; simp -implicitDefEqProofs (maxSteps := 1000000) [got10, List.lookup, vl, hm0, hm1, hm2, hm3, hm4, n0, q0, n1, q1, n2, q2, n3, q3, n4, q4, n5, q5, n6, q6, n7, q7, n8, q8, n9, q9])
                  | (refine awl_pure' [5, 8, 10, 11] rfl rfl rfl (by first | assumption | kernel_rfl) rfl (by first | exact hsm | exact alive3_ok) (by simp) (by simp) ?_; simp -implicitDefEqProofs (maxSteps := 1000000) [got10, List.lookup, vl, hm0, hm1, hm2, hm3, hm4, n0, q0, n1, q1, n2, q2, n3, q3, n4, q4, n5, q5, n6, q6, n7, q7, n8, q8, n9, q9])
                  | (refine yl_pure rfl rfl rfl (by first | assumption | kernel_rfl) rfl (by first | exact hsm | exact alive3_ok) (by simp) (by simp) ?_; simp -implicitDefEqProofs (maxSteps := 1000000) [got10, List.lookup, vl, hm0, hm1, hm2, hm3, hm4, n0, q0, n1, q1, n2, q2, n3, q3, n4, q4, n5, q5, n6, q6, n7, q7, n8, q8, n9, q9])
                  | (refine aw_cond rfl (fun h => ?_) (fun h => ?_) <;> try (with_reducible first | exact ff_tt h | exact tt_ff h))
                  | (refine aw_skip ?_; simp -implicitDefEqProofs (maxSteps := 1000000) [got10, List.lookup, vl, hm0, hm1, hm2, hm3, hm4, n0, q0, n1, q1, n2, q2, n3, q3, n4, q4, n5, q5, n6, q6, n7, q7, n8, q8, n9, q9])
                  | refine aw_block ?_
                  | (refine aw_exit ?_; simp -implicitDefEqProofs (maxSteps := 1000000) [got10, List.lookup, vl, hm0, hm1, hm2, hm3, hm4, n0, q0, n1, q1, n2, q2, n3, q3, n4, q4, n5, q5, n6, q6, n7, q7, n8, q8, n9, q9])
                  | refine aw_ret (ret_of (.inr rfl) (by simp [Tryd.results5]; rfl) (Fin.of ?_)))
                rfl
      · have es : sumL [(a, fa), (b, fb)] = (0, fa) := by
          have hs1 : addS (0, 0) (a, fa) = (0, fa) := by simp [addS, doN, doF, hfa]
          show addS (addS (0, 0) (a, fa)) (b, fb) = (0, fa)
          rw [hs1]; simp [addS, doN, doF, hfa]
        have n0 : (f 0).1 = 0 := by rw [hf]; simp [gotF, opK, doN, hfa]
        have q0 : (f 0).2 = fa := by rw [hf]; simp [gotF, opK, doF, hfa]
        have n1 : (f 1).1 = 0 := by rw [hf]; simp [gotF, opK, doN, hfa]
        have q1 : (f 1).2 = fa := by rw [hf]; simp [gotF, opK, doF, hfa]
        have n2 : (f 2).1 = 0 := by rw [hf]; simp [gotF, opK, doN, hfa]
        have q2 : (f 2).2 = fa := by rw [hf]; simp [gotF, opK, doF, hfa]
        have n3 : (f 3).1 = 0 := by rw [hf]; simp [gotF, opK, doN, hfa]
        have q3 : (f 3).2 = fa := by rw [hf]; simp [gotF, opK, doF, hfa]
        have n4 : (f 4).1 = 0 := by rw [hf]; simp [gotF, opK, doN, hfa]
        have q4 : (f 4).2 = fa := by rw [hf]; simp [gotF, opK, doF, hfa]
        have n5 : (f 5).1 = 0 := by rw [hf]; simp [gotF, opK, doN, hfa]
        have q5 : (f 5).2 = fa := by rw [hf]; simp [gotF, opK, doF, hfa]
        have n6 : (f 6).1 = 0 := by rw [hf]; simp [gotF, opK, doN, hfa]
        have q6 : (f 6).2 = fa := by rw [hf]; simp [gotF, opK, doF, hfa]
        have n7 : (f 7).1 = 0 := by rw [hf]; simp [gotF, opK, doN, hfa]
        have q7 : (f 7).2 = fa := by rw [hf]; simp [gotF, opK, doF, hfa]
        have n8 : (f 8).1 = 0 := by rw [hf]; simp [gotF, opK, doN, hfa]
        have q8 : (f 8).2 = fa := by rw [hf]; simp [gotF, opK, doF, hfa]
        have n9 : (f 9).1 = 0 := by rw [hf]; simp [gotF, opK, doN, hfa]
        have q9 : (f 9).2 = fa := by rw [hf]; simp [gotF, opK, doF, hfa]
        have el : lowL [(a, fa), (b, fb)] = (0, fa) := by simp [lowL, bestV, isFault, hfa]
        have eh : highL [(a, fa), (b, fb)] = (0, fa) := by simp [highL, bestV, isFault, hfa]
        rw [el] at hlo
        rw [eh] at hhi
        rw [es] at hsm
        simp -implicitDefEqProofs [got10, List.lookup]
        repeat' (first
          | refine aw_seq ?_
          | (refine aw_run [5, 8, 10, 11] ?_; simp -implicitDefEqProofs (maxSteps := 1000000) [got10, List.lookup, vl, hm0, n0, q0, n1, q1, n2, q2, n3, q3, n4, q4, n5, q5, n6, q6, n7, q7, n8, q8, n9, q9, hfa])
          | (refine aw_ymix [5, 8, 10, 11] draws (by decide +kernel) ?_; simp -implicitDefEqProofs (maxSteps := 1000000) [got10, List.lookup, vl, hm0, n0, q0, n1, q1, n2, q2, n3, q3, n4, q4, n5, q5, n6, q6, n7, q7, n8, q8, n9, q9, hfa])
          | (refine aw_yrun draws (by kernel_rfl) ?_; simp -implicitDefEqProofs (maxSteps := 1000000) [got10, List.lookup, vl, hm0, n0, q0, n1, q1, n2, q2, n3, q3, n4, q4, n5, q5, n6, q6, n7, q7, n8, q8, n9, q9, hfa])
          | (refine awl_skip' [5, 8, 10, 11] rfl ?_; simp -implicitDefEqProofs (maxSteps := 1000000) [got10, List.lookup, vl, hm0, n0, q0, n1, q1, n2, q2, n3, q3, n4, q4, n5, q5, n6, q6, n7, q7, n8, q8, n9, q9, hfa])
          | (refine awl_pure_guard [5, 8, 10, 11] rfl rfl rfl (by first | assumption | kernel_rfl) rfl (fun hc => by first | exact hlo | exact hhi | exact hsm | exact alive3_ok) (by simp) (by simp) (by simp) ?_; simp -implicitDefEqProofs (maxSteps := 1000000) [got10, List.lookup, vl, hm0, n0, q0, n1, q1, n2, q2, n3, q3, n4, q4, n5, q5, n6, q6, n7, q7, n8, q8, n9, q9, hfa])
          | (refine yl_pureG rfl rfl rfl (by first | assumption | kernel_rfl) rfl (fun hc => by first | exact hlo | exact hhi | exact hsm | exact alive3_ok) (by simp) (by simp) (by simp) ?_; simp -implicitDefEqProofs (maxSteps := 1000000) [got10, List.lookup, vl, hm0, n0, q0, n1, q1, n2, q2, n3, q3, n4, q4, n5, q5, n6, q6, n7, q7, n8, q8, n9, q9, hfa])
          | (refine awl_pure' [5, 8, 10, 11] rfl rfl rfl (by first | assumption | kernel_rfl) rfl (by first | exact hlo | exact hhi | exact hsm | exact alive3_ok) (by simp) (by simp) ?_; simp -implicitDefEqProofs (maxSteps := 1000000) [got10, List.lookup, vl, hm0, n0, q0, n1, q1, n2, q2, n3, q3, n4, q4, n5, q5, n6, q6, n7, q7, n8, q8, n9, q9, hfa])
          | (refine yl_pure rfl rfl rfl (by first | assumption | kernel_rfl) rfl (by first | exact hlo | exact hhi | exact hsm | exact alive3_ok) (by simp) (by simp) ?_; simp -implicitDefEqProofs (maxSteps := 1000000) [got10, List.lookup, vl, hm0, n0, q0, n1, q1, n2, q2, n3, q3, n4, q4, n5, q5, n6, q6, n7, q7, n8, q8, n9, q9, hfa])
          | (refine aw_cond rfl (fun h => ?_) (fun h => ?_) <;> try (with_reducible first | exact ff_tt h | exact tt_ff h))
          | (refine aw_skip ?_; simp -implicitDefEqProofs (maxSteps := 1000000) [got10, List.lookup, vl, hm0, n0, q0, n1, q1, n2, q2, n3, q3, n4, q4, n5, q5, n6, q6, n7, q7, n8, q8, n9, q9, hfa])
          | refine aw_block ?_
          | (refine aw_exit ?_; simp -implicitDefEqProofs (maxSteps := 1000000) [got10, List.lookup, vl, hm0, n0, q0, n1, q1, n2, q2, n3, q3, n4, q4, n5, q5, n6, q6, n7, q7, n8, q8, n9, q9, hfa])
          | refine aw_ret (ret_of (.inr rfl) (by simp [Tryd.results5]; rfl) (Fin.of ?_)))
        refine aw_loopW [2, 3, 5, 10, 11, 12, 13] (fun n fr σ => ∃ i mm : Nat, i + n = 10 ∧ m + 2 ≤ mm ∧ σ = mkSt [(0, gotL f 10), (m, [vi 0, vi fa]), (m + 1, [vi 0, vi fa])] [] mm ∧ fr = frm 224 [(2, .vel [value a fa] 0 0), (3, .vel [value b fb] 0 0), (5, .ptr 0 0), (10, .ptr m 0), (11, .ptr (m + 1) 0), (12, vi fa), (13, vi (i : Nat))]) 10 ?_ ?_
        · refine ⟨mkSt [(0, gotL f 10), (m, [vi 0, vi fa]), (m + 1, [vi 0, vi fa])] [] (m + 2), le_mkSt (by simp [List.lookup, hm0, got10, n0, q0, n1, q1, n2, q2, n3, q3, n4, q4, n5, q5, n6, q6, n7, q7, n8, q8, n9, q9]) (by simp) (by simp), 0, m + 2, by omega, by omega, rfl, by simp⟩
        · rintro n fr σ ⟨i, mm, hi, hmm, rfl, rfl⟩
          simp
          have hm1 : ¬ m = 0 := by omega
          have hm2 : (m == 0) = false := by simp; omega
          have hm3 : (m + 1 == m) = false := by simp
          have hm4 : (m + 1 == 0) = false := by simp
          have hi10 : i = 0 ∨ i = 1 ∨ i = 2 ∨ i = 3 ∨ i = 4 ∨ i = 5 ∨ i = 6 ∨ i = 7 ∨ i = 8 ∨ i = 9 ∨ i = 10 := by omega
          refine aw_seq (aw_seq (aw_run [5, 8, 10, 11] ?_))
          simp -implicitDefEqProofs [List.lookup]
          rcases hi10 with rfl | rfl | rfl | rfl | rfl | rfl | rfl | rfl | rfl | rfl | rfl
          · refine aw_cond rfl (fun h => aw_skip ?_) (fun h => aw_exit ?_)
            · simp -implicitDefEqProofs [List.lookup, got10]
              repeat' (first
                | refine aw_seq ?_
                | (refine aw_run [5, 8, 10, 11] ?_; simp -implicitDefEqProofs (maxSteps := 1000000) [got10, List.lookup, hm0, hm1, n0, q0, n1, q1, n2, q2, n3, q3, n4, q4, n5, q5, n6, q6, n7, q7, n8, q8, n9, q9])
                | (refine aw_ymix [5, 8, 10, 11] draws (by decide +kernel) ?_; simp -implicitDefEqProofs (maxSteps := 1000000) [got10, List.lookup, hm0, hm1, n0, q0, n1, q1, n2, q2, n3, q3, n4, q4, n5, q5, n6, q6, n7, q7, n8, q8, n9, q9])
                | (refine aw_yrun draws (by kernel_rfl) ?_; simp -implicitDefEqProofs (maxSteps := 1000000) [got10, List.lookup, hm0, hm1, n0, q0, n1, q1, n2, q2, n3, q3, n4, q4, n5, q5, n6, q6, n7, q7, n8, q8, n9, q9])
                | (refine awl_skip' [5, 8, 10, 11] rfl ?_; simp -implicitDefEqProofs (maxSteps := 1000000) [got10, List.lookup, hm0, hm1, n0, q0, n1, q1, n2, q2, n3, q3, n4, q4, n5, q5, n6, q6, n7, q7, n8, q8, n9, q9])
                | (refine aw_cond rfl (fun h => ?_) (fun h => ?_) <;> try (with_reducible first | exact ff_tt h | exact tt_ff h))
                | (refine aw_skip ?_; simp -implicitDefEqProofs (maxSteps := 1000000) [got10, List.lookup, hm0, hm1, n0, q0, n1, q1, n2, q2, n3, q3, n4, q4, n5, q5, n6, q6, n7, q7, n8, q8, n9, q9])
                | refine aw_block ?_
                | (refine aw_exit ?_; simp -implicitDefEqProofs (maxSteps := 1000000) [got10, List.lookup, hm0, hm1, n0, q0, n1, q1, n2, q2, n3, q3, n4, q4, n5, q5, n6, q6, n7, q7, n8, q8, n9, q9])
                | refine aw_ret (ret_of (.inr rfl) (by simp [Tryd.results5]; rfl) (Fin.of ?_)))
              exact ⟨n - 1, by omega, _, leSame _, 1, by omega, mm, by omega, rfl, by rw [wrap_id (by decide) (by decide)]; rfl⟩
            · simp at h
          · refine aw_cond rfl (fun h => aw_skip ?_) (fun h => aw_exit ?_)
            · simp -implicitDefEqProofs [List.lookup, got10]
              repeat' (first
                | refine aw_seq ?_
                | (refine aw_run [5, 8, 10, 11] ?_; simp -implicitDefEqProofs (maxSteps := 1000000) [got10, List.lookup, hm0, hm1, n0, q0, n1, q1, n2, q2, n3, q3, n4, q4, n5, q5, n6, q6, n7, q7, n8, q8, n9, q9])
                | (refine aw_ymix [5, 8, 10, 11] draws (by decide +kernel) ?_; simp -implicitDefEqProofs (maxSteps := 1000000) [got10, List.lookup, hm0, hm1, n0, q0, n1, q1, n2, q2, n3, q3, n4, q4, n5, q5, n6, q6, n7, q7, n8, q8, n9, q9])
                | (refine aw_yrun draws (by kernel_rfl) ?_; simp -implicitDefEqProofs (maxSteps := 1000000) [got10, List.lookup, hm0, hm1, n0, q0, n1, q1, n2, q2, n3, q3, n4, q4, n5, q5, n6, q6, n7, q7, n8, q8, n9, q9])
                | (refine awl_skip' [5, 8, 10, 11] rfl ?_; simp -implicitDefEqProofs (maxSteps := 1000000) [got10, List.lookup, hm0, hm1, n0, q0, n1, q1, n2, q2, n3, q3, n4, q4, n5, q5, n6, q6, n7, q7, n8, q8, n9, q9])
                | (refine aw_cond rfl (fun h => ?_) (fun h => ?_) <;> try (with_reducible first | exact ff_tt h | exact tt_ff h))
                | (refine aw_skip ?_; simp -implicitDefEqProofs (maxSteps := 1000000) [got10, List.lookup, hm0, hm1, n0, q0, n1, q1, n2, q2, n3, q3, n4, q4, n5, q5, n6, q6, n7, q7, n8, q8, n9, q9])
                | refine aw_block ?_
                | (refine aw_exit ?_; simp -implicitDefEqProofs (maxSteps := 1000000) [got10, List.lookup, hm0, hm1, n0, q0, n1, q1, n2, q2, n3, q3, n4, q4, n5, q5, n6, q6, n7, q7, n8, q8, n9, q9])
                | refine aw_ret (ret_of (.inr rfl) (by simp [Tryd.results5]; rfl) (Fin.of ?_)))
              exact ⟨n - 1, by omega, _, leSame _, 2, by omega, mm, by omega, rfl, by rw [wrap_id (by decide) (by decide)]; rfl⟩
            · simp at h
          · refine aw_cond rfl (fun h => aw_skip ?_) (fun h => aw_exit ?_)
            · simp -implicitDefEqProofs [List.lookup, got10]
              repeat' (first
                | refine aw_seq ?_
                | (refine aw_run [5, 8, 10, 11] ?_; simp -implicitDefEqProofs (maxSteps := 1000000) [got10, List.lookup, hm0, hm1, n0, q0, n1, q1, n2, q2, n3, q3, n4, q4, n5, q5, n6, q6, n7, q7, n8, q8, n9, q9])
                | (refine aw_ymix [5, 8, 10, 11] draws (by decide +kernel) ?_; simp -implicitDefEqProofs (maxSteps := 1000000) [got10, List.lookup, hm0, hm1, n0, q0, n1, q1, n2, q2, n3, q3, n4, q4, n5, q5, n6, q6, n7, q7, n8, q8, n9, q9])
                | (refine aw_yrun draws (by kernel_rfl) ?_; simp -implicitDefEqProofs (maxSteps := 1000000) [got10, List.lookup, hm0, hm1, n0, q0, n1, q1, n2, q2, n3, q3, n4, q4, n5, q5, n6, q6, n7, q7, n8, q8, n9, q9])
                | (refine awl_skip' [5, 8, 10, 11] rfl ?_; simp -implicitDefEqProofs (maxSteps := 1000000) [got10, List.lookup, hm0, hm1, n0, q0, n1, q1, n2, q2, n3, q3, n4, q4, n5, q5, n6, q6, n7, q7, n8, q8, n9, q9])
                | (refine aw_cond rfl (fun h => ?_) (fun h => ?_) <;> try (with_reducible first | exact ff_tt h | exact tt_ff h))
                | (refine aw_skip ?_; simp -implicitDefEqProofs (maxSteps := 1000000) [got10, List.lookup, hm0, hm1, n0, q0, n1, q1, n2, q2, n3, q3, n4, q4, n5, q5, n6, q6, n7, q7, n8, q8, n9, q9])
                | refine aw_block ?_
                | (refine aw_exit ?_; simp -implicitDefEqProofs (maxSteps := 1000000) [got10, List.lookup, hm0, hm1, n0, q0, n1, q1, n2, q2, n3, q3, n4, q4, n5, q5, n6, q6, n7, q7, n8, q8, n9, q9])
                | refine aw_ret (ret_of (.inr rfl) (by simp [Tryd.results5]; rfl) (Fin.of ?_)))
              exact ⟨n - 1, by omega, _, leSame _, 3, by omega, mm, by omega, rfl, by rw [wrap_id (by decide) (by decide)]; rfl⟩
            · simp at h
          · refine aw_cond rfl (fun h => aw_skip ?_) (fun h => aw_exit ?_)
            · simp -implicitDefEqProofs [List.lookup, got10]
              repeat' (first
                | refine aw_seq ?_
                | (refine aw_run [5, 8, 10, 11] ?_; simp -implicitDefEqProofs (maxSteps := 1000000) [got10, List.lookup, hm0, hm1, n0, q0, n1, q1, n2, q2, n3, q3, n4, q4, n5, q5, n6, q6, n7, q7, n8, q8, n9, q9])
                | (refine aw_ymix [5, 8, 10, 11] draws (by decide +kernel) ?_; simp -implicitDefEqProofs (maxSteps := 1000000) [got10, List.lookup, hm0, hm1, n0, q0, n1, q1, n2, q2, n3, q3, n4, q4, n5, q5, n6, q6, n7, q7, n8, q8, n9, q9])
                | (refine aw_yrun draws (by kernel_rfl) ?_; simp -implicitDefEqProofs (maxSteps := 1000000) [got10, List.lookup, hm0, hm1, n0, q0, n1, q1, n2, q2, n3, q3, n4, q4, n5, q5, n6, q6, n7, q7, n8, q8, n9, q9])
                | (refine awl_skip' [5, 8, 10, 11] rfl ?_; simp -implicitDefEqProofs (maxSteps := 1000000) [got10, List.lookup, hm0, hm1, n0, q0, n1, q1, n2, q2, n3, q3, n4, q4, n5, q5, n6, q6, n7, q7, n8, q8, n9, q9])
                | (refine aw_cond rfl (fun h => ?_) (fun h => ?_) <;> try (with_reducible first | exact ff_tt h | exact tt_ff h))
                | (refine aw_skip ?_; simp -implicitDefEqProofs (maxSteps := 1000000) [got10, List.lookup, hm0, hm1, n0, q0, n1, q1, n2, q2, n3, q3, n4, q4, n5, q5, n6, q6, n7, q7, n8, q8, n9, q9])
                | refine aw_block ?_
                | (refine aw_exit ?_; simp -implicitDefEqProofs (maxSteps := 1000000) [got10, List.lookup, hm0, hm1, n0, q0, n1, q1, n2, q2, n3, q3, n4, q4, n5, q5, n6, q6, n7, q7, n8, q8, n9, q9])
                | refine aw_ret (ret_of (.inr rfl) (by simp [Tryd.results5]; rfl) (Fin.of ?_)))
              exact ⟨n - 1, by omega, _, leSame _, 4, by omega, mm, by omega, rfl, by rw [wrap_id (by decide) (by decide)]; rfl⟩
            · simp at h
          · refine aw_cond rfl (fun h => aw_skip ?_) (fun h => aw_exit ?_)
            · simp -implicitDefEqProofs [List.lookup, got10]
              repeat' (first
                | refine aw_seq ?_
                | (refine aw_run [5, 8, 10, 11] ?_; simp -implicitDefEqProofs (maxSteps := 1000000) [got10, List.lookup, hm0, hm1, n0, q0, n1, q1, n2, q2, n3, q3, n4, q4, n5, q5, n6, q6, n7, q7, n8, q8, n9, q9])
                | (refine aw_ymix [5, 8, 10, 11] draws (by decide +kernel) ?_; simp -implicitDefEqProofs (maxSteps := 1000000) [got10, List.lookup, hm0, hm1, n0, q0, n1, q1, n2, q2, n3, q3, n4, q4, n5, q5, n6, q6, n7, q7, n8, q8, n9, q9])
                | (refine aw_yrun draws (by kernel_rfl) ?_; simp -implicitDefEqProofs (maxSteps := 1000000) [got10, List.lookup, hm0, hm1, n0, q0, n1, q1, n2, q2, n3, q3, n4, q4, n5, q5, n6, q6, n7, q7, n8, q8, n9, q9])
                | (refine awl_skip' [5, 8, 10, 11] rfl ?_; simp -implicitDefEqProofs (maxSteps := 1000000) [got10, List.lookup, hm0, hm1, n0, q0, n1, q1, n2, q2, n3, q3, n4, q4, n5, q5, n6, q6, n7, q7, n8, q8, n9, q9])
                | (refine aw_cond rfl (fun h => ?_) (fun h => ?_) <;> try (with_reducible first | exact ff_tt h | exact tt_ff h))
                | (refine aw_skip ?_; simp -implicitDefEqProofs (maxSteps := 1000000) [got10, List.lookup, hm0, hm1, n0, q0, n1, q1, n2, q2, n3, q3, n4, q4, n5, q5, n6, q6, n7, q7, n8, q8, n9, q9])
                | refine aw_block ?_
                | (refine aw_exit ?_; simp -implicitDefEqProofs (maxSteps := 1000000) [got10, List.lookup, hm0, hm1, n0, q0, n1, q1, n2, q2, n3, q3, n4, q4, n5, q5, n6, q6, n7, q7, n8, q8, n9, q9])
                | refine aw_ret (ret_of (.inr rfl) (by simp [Tryd.results5]; rfl) (Fin.of ?_)))
              exact ⟨n - 1, by omega, _, leSame _, 5, by omega, mm, by omega, rfl, by rw [wrap_id (by decide) (by decide)]; rfl⟩
            · simp at h
          · refine aw_cond rfl (fun h => aw_skip ?_) (fun h => aw_exit ?_)
            · simp -implicitDefEqProofs [List.lookup, got10]
              repeat' (first
                | refine aw_seq ?_
                | (refine aw_run [5, 8, 10, 11] ?_; simp -implicitDefEqProofs (maxSteps := 1000000) [got10, List.lookup, hm0, hm1, n0, q0, n1, q1, n2, q2, n3, q3, n4, q4, n5, q5, n6, q6, n7, q7, n8, q8, n9, q9])
                | (refine aw_ymix [5, 8, 10, 11] draws (by decide +kernel) ?_; simp -implicitDefEqProofs (maxSteps := 1000000) [got10, List.lookup, hm0, hm1, n0, q0, n1, q1, n2, q2, n3, q3, n4, q4, n5, q5, n6, q6, n7, q7, n8, q8, n9, q9])
                | (refine aw_yrun draws (by kernel_rfl) ?_; simp -implicitDefEqProofs (maxSteps := 1000000) [got10, List.lookup, hm0, hm1, n0, q0, n1, q1, n2, q2, n3, q3, n4, q4, n5, q5, n6, q6, n7, q7, n8, q8, n9, q9])
                | (refine awl_skip' [5, 8, 10, 11] rfl ?_; simp -implicitDefEqProofs (maxSteps := 1000000) [got10, List.lookup, hm0, hm1, n0, q0, n1, q1, n2, q2, n3, q3, n4, q4, n5, q5, n6, q6, n7, q7, n8, q8, n9, q9])
                | (refine aw_cond rfl (fun h => ?_) (fun h => ?_) <;> try (with_reducible first | exact ff_tt h | exact tt_ff h))
                | (refine aw_skip ?_; simp -implicitDefEqProofs (maxSteps := 1000000) [got10, List.lookup, hm0, hm1, n0, q0, n1, q1, n2, q2, n3, q3, n4, q4, n5, q5, n6, q6, n7, q7, n8, q8, n9, q9])
                | refine aw_block ?_
                | (refine aw_exit ?_; simp -implicitDefEqProofs (maxSteps := 1000000) [got10, List.lookup, hm0, hm1, n0, q0, n1, q1, n2, q2, n3, q3, n4, q4, n5, q5, n6, q6, n7, q7, n8, q8, n9, q9])
                | refine aw_ret (ret_of (.inr rfl) (by simp [Tryd.results5]; rfl) (Fin.of ?_)))
              exact ⟨n - 1, by omega, _, leSame _, 6, by omega, mm, by omega, rfl, by rw [wrap_id (by decide) (by decide)]; rfl⟩
            · simp at h
          · refine aw_cond rfl (fun h => aw_skip ?_) (fun h => aw_exit ?_)
            · simp -implicitDefEqProofs [List.lookup, got10]
              repeat' (first
                | refine aw_seq ?_
                | (refine aw_run [5, 8, 10, 11] ?_; simp -implicitDefEqProofs (maxSteps := 1000000) [got10, List.lookup, hm0, hm1, n0, q0, n1, q1, n2, q2, n3, q3, n4, q4, n5, q5, n6, q6, n7, q7, n8, q8, n9, q9])
                | (refine aw_ymix [5, 8, 10, 11] draws (by decide +kernel) ?_; simp -implicitDefEqProofs (maxSteps := 1000000) [got10, List.lookup, hm0, hm1, n0, q0, n1, q1, n2, q2, n3, q3, n4, q4, n5, q5, n6, q6, n7, q7, n8, q8, n9, q9])
                | (refine aw_yrun draws (by kernel_rfl) ?_; simp -implicitDefEqProofs (maxSteps := 1000000) [got10, List.lookup, hm0, hm1, n0, q0, n1, q1, n2, q2, n3, q3, n4, q4, n5, q5, n6, q6, n7, q7, n8, q8, n9, q9])
                | (refine awl_skip' [5, 8, 10, 11] rfl ?_; simp -implicitDefEqProofs (maxSteps := 1000000) [got10, List.lookup, hm0, hm1, n0, q0, n1, q1, n2, q2, n3, q3, n4, q4, n5, q5, n6, q6, n7, q7, n8, q8, n9, q9])
                | (refine aw_cond rfl (fun h => ?_) (fun h => ?_) <;> try (with_reducible first | exact ff_tt h | exact tt_ff h))
                | (refine aw_skip ?_; simp -implicitDefEqProofs (maxSteps := 1000000) [got10, List.lookup, hm0, hm1, n0, q0, n1, q1, n2, q2, n3, q3, n4, q4, n5, q5, n6, q6, n7, q7, n8, q8, n9, q9])
                | refine aw_block ?_
                | (refine aw_exit ?_; simp -implicitDefEqProofs (maxSteps := 1000000) [got10, List.lookup, hm0, hm1, n0, q0, n1, q1, n2, q2, n3, q3, n4, q4, n5, q5, n6, q6, n7, q7, n8, q8, n9, q9])
                | refine aw_ret (ret_of (.inr rfl) (by simp [Tryd.results5]; rfl) (Fin.of ?_)))
              exact ⟨n - 1, by omega, _, leSame _, 7, by omega, mm, by omega, rfl, by rw [wrap_id (by decide) (by decide)]; rfl⟩
            · simp at h
          · refine aw_cond rfl (fun h => aw_skip ?_) (fun h => aw_exit ?_)
            · simp -implicitDefEqProofs [List.lookup, got10]
              repeat' (first
                | refine aw_seq ?_
                | (refine aw_run [5, 8, 10, 11] ?_; simp -implicitDefEqProofs (maxSteps := 1000000) [got10, List.lookup, hm0, hm1, n0, q0, n1, q1, n2, q2, n3, q3, n4, q4, n5, q5, n6, q6, n7, q7, n8, q8, n9, q9])
                | (refine aw_ymix [5, 8, 10, 11] draws (by decide +kernel) ?_; simp -implicitDefEqProofs (maxSteps := 1000000) [got10, List.lookup, hm0, hm1, n0, q0, n1, q1, n2, q2, n3, q3, n4, q4, n5, q5, n6, q6, n7, q7, n8, q8, n9, q9])
                | (refine aw_yrun draws (by kernel_rfl) ?_; simp -implicitDefEqProofs (maxSteps := 1000000) [got10, List.lookup, hm0, hm1, n0, q0, n1, q1, n2, q2, n3, q3, n4, q4, n5, q5, n6, q6, n7, q7, n8, q8, n9, q9])
                | (refine awl_skip' [5, 8, 10, 11] rfl ?_; simp -implicitDefEqProofs (maxSteps := 1000000) [got10, List.lookup, hm0, hm1, n0, q0, n1, q1, n2, q2, n3, q3, n4, q4, n5, q5, n6, q6, n7, q7, n8, q8, n9, q9])
                | (refine aw_cond rfl (fun h => ?_) (fun h => ?_) <;> try (with_reducible first | exact ff_tt h | exact tt_ff h))
                | (refine aw_skip ?_; simp -implicitDefEqProofs (maxSteps := 1000000) [got10, List.lookup, hm0, hm1, n0, q0, n1, q1, n2, q2, n3, q3, n4, q4, n5, q5, n6, q6, n7, q7, n8, q8, n9, q9])
                | refine aw_block ?_
                | (refine aw_exit ?_; simp -implicitDefEqProofs (maxSteps := 1000000) [got10, List.lookup, hm0, hm1, n0, q0, n1, q1, n2, q2, n3, q3, n4, q4, n5, q5, n6, q6, n7, q7, n8, q8, n9, q9])
                | refine aw_ret (ret_of (.inr rfl) (by simp [Tryd.results5]; rfl) (Fin.of ?_)))
              exact ⟨n - 1, by omega, _, leSame _, 8, by omega, mm, by omega, rfl, by rw [wrap_id (by decide) (by decide)]; rfl⟩
            · simp at h
          · refine aw_cond rfl (fun h => aw_skip ?_) (fun h => aw_exit ?_)
            · simp -implicitDefEqProofs [List.lookup, got10]
              repeat' (first
                | refine aw_seq ?_
                | (refine aw_run [5, 8, 10, 11] ?_; simp -implicitDefEqProofs (maxSteps := 1000000) [got10, List.lookup, hm0, hm1, n0, q0, n1, q1, n2, q2, n3, q3, n4, q4, n5, q5, n6, q6, n7, q7, n8, q8, n9, q9])
                | (refine aw_ymix [5, 8, 10, 11] draws (by decide +kernel) ?_; simp -implicitDefEqProofs (maxSteps := 1000000) [got10, List.lookup, hm0, hm1, n0, q0, n1, q1, n2, q2, n3, q3, n4, q4, n5, q5, n6, q6, n7, q7, n8, q8, n9, q9])
                | (refine aw_yrun draws (by kernel_rfl) ?_; simp -implicitDefEqProofs (maxSteps := 1000000) [got10, List.lookup, hm0, hm1, n0, q0, n1, q1, n2, q2, n3, q3, n4, q4, n5, q5, n6, q6, n7, q7, n8, q8, n9, q9])
                | (refine awl_skip' [5, 8, 10, 11] rfl ?_; simp -implicitDefEqProofs (maxSteps := 1000000) [got10, List.lookup, hm0, hm1, n0, q0, n1, q1, n2, q2, n3, q3, n4, q4, n5, q5, n6, q6, n7, q7, n8, q8, n9, q9])
                | (refine aw_cond rfl (fun h => ?_) (fun h => ?_) <;> try (with_reducible first | exact ff_tt h | exact tt_ff h))
                | (refine aw_skip ?_; simp -implicitDefEqProofs (maxSteps := 1000000) [got10, List.lookup, hm0, hm1, n0, q0, n1, q1, n2, q2, n3, q3, n4, q4, n5, q5, n6, q6, n7, q7, n8, q8, n9, q9])
                | refine aw_block ?_
                | (refine aw_exit ?_; simp -implicitDefEqProofs (maxSteps := 1000000) [got10, List.lookup, hm0, hm1, n0, q0, n1, q1, n2, q2, n3, q3, n4, q4, n5, q5, n6, q6, n7, q7, n8, q8, n9, q9])
                | refine aw_ret (ret_of (.inr rfl) (by simp [Tryd.results5]; rfl) (Fin.of ?_)))
              exact ⟨n - 1, by omega, _, leSame _, 9, by omega, mm, by omega, rfl, by rw [wrap_id (by decide) (by decide)]; rfl⟩
            · simp at h
          · refine aw_cond rfl (fun h => aw_skip ?_) (fun h => aw_exit ?_)
            · simp -implicitDefEqProofs [List.lookup, got10]
              repeat' (first
                | refine aw_seq ?_
                | (refine aw_run [5, 8, 10, 11] ?_; simp -implicitDefEqProofs (maxSteps := 1000000) [got10, List.lookup, hm0, hm1, n0, q0, n1, q1, n2, q2, n3, q3, n4, q4, n5, q5, n6, q6, n7, q7, n8, q8, n9, q9])
                | (refine aw_ymix [5, 8, 10, 11] draws (by decide +kernel) ?_; simp -implicitDefEqProofs (maxSteps := 1000000) [got10, List.lookup, hm0, hm1, n0, q0, n1, q1, n2, q2, n3, q3, n4, q4, n5, q5, n6, q6, n7, q7, n8, q8, n9, q9])
                | (refine aw_yrun draws (by kernel_rfl) ?_; simp -implicitDefEqProofs (maxSteps := 1000000) [got10, List.lookup, hm0, hm1, n0, q0, n1, q1, n2, q2, n3, q3, n4, q4, n5, q5, n6, q6, n7, q7, n8, q8, n9, q9])
                | (refine awl_skip' [5, 8, 10, 11] rfl ?_; simp -implicitDefEqProofs (maxSteps := 1000000) [got10, List.lookup, hm0, hm1, n0, q0, n1, q1, n2, q2, n3, q3, n4, q4, n5, q5, n6, q6, n7, q7, n8, q8, n9, q9])
                | (refine aw_cond rfl (fun h => ?_) (fun h => ?_) <;> try (with_reducible first | exact ff_tt h | exact tt_ff h))
                | (refine aw_skip ?_; simp -implicitDefEqProofs (maxSteps := 1000000) [got10, List.lookup, hm0, hm1, n0, q0, n1, q1, n2, q2, n3, q3, n4, q4, n5, q5, n6, q6, n7, q7, n8, q8, n9, q9])
                | refine aw_block ?_
                | (refine aw_exit ?_; simp -implicitDefEqProofs (maxSteps := 1000000) [got10, List.lookup, hm0, hm1, n0, q0, n1, q1, n2, q2, n3, q3, n4, q4, n5, q5, n6, q6, n7, q7, n8, q8, n9, q9])
                | refine aw_ret (ret_of (.inr rfl) (by simp [Tryd.results5]; rfl) (Fin.of ?_)))
              exact ⟨n - 1, by omega, _, leSame _, 10, by omega, mm, by omega, rfl, by rw [wrap_id (by decide) (by decide)]; rfl⟩
            · simp at h
          · refine aw_cond rfl (fun h => aw_skip ?_) (fun h => aw_exit ?_)
            · simp at h
            · simp -implicitDefEqProofs [List.lookup, got10]
              repeat' (first
                | refine aw_seq ?_
                | (refine aw_run [5, 8, 10, 11] ?_; simp -implicitDefEqProofs (maxSteps := 1000000) [got10, List.lookup, vl, hm0, hm1, hm2, hm3, hm4, n0, q0, n1, q1, n2, q2, n3, q3, n4, q4, n5, q5, n6, q6, n7, q7, n8, q8, n9, q9])
                | (refine aw_ymix [5, 8, 10, 11] draws (by decide +kernel) ?_; simp -implicitDefEqProofs (maxSteps := 1000000) [got10, List.lookup, vl, hm0, hm1, hm2, hm3, hm4, n0, q0, n1, q1, n2, q2, n3, q3, n4, q4, n5, q5, n6, q6, n7, q7, n8, q8, n9, q9])
                | (refine aw_yrun draws (by kernel_rfl) ?_; simp -implicitDefEqProofs (maxSteps := 1000000) [got10, List.lookup, vl, hm0, hm1, hm2, hm3, hm4, n0, q0, n1, q1, n2, q2, n3, q3, n4, q4, n5, q5, n6, q6, n7, q7, n8, q8, n9, q9])
                | (refine awl_skip' [5, 8, 10, 11] rfl ?_; simp -implicitDefEqProofs (maxSteps := 1000000) [got10, List.lookup, vl, hm0, hm1, hm2, hm3, hm4, n0, q0, n1, q1, n2, q2, n3, q3, n4, q4, n5, q5, n6, q6, n7, q7, n8, q8, n9, q9])
                | (refine awl_pure_guard [5, 8, 10, 11] rfl rfl rfl (by first | assumption | kernel_rfl) rfl (fun hc => by first | exact hsm | exact alive3_ok) (by simp) (by simp) (by simp) ?_; simp -implicitDefEqProofs (maxSteps := 1000000) [got10, List.lookup, vl, hm0, hm1, hm2, hm3, hm4, n0, q0, n1, q1, n2, q2, n3, q3, n4, q4, n5, q5, n6, q6, n7, q7, n8, q8, n9, q9])
                | (refine yl_pureG rfl rfl rfl (by first | assumption | kernel_rfl) rfl (fun hc => by first | exact hsm | exact alive3_ok) (by simp) (by simp) (by simp) ?_; simp -implicitDefEqProofs (maxSteps := 1000000) [got10, List.lookup, vl, hm0, hm1, hm2, hm3, hm4, n0, q0, n1, q1, n2, q2, n3, q3, n4, q4, n5, q5, n6, q6, n7, q7, n8, q8, n9, q9])
                | (refine awl_pure' [5, 8, 10, 11] rfl rfl rfl (by first | assumption | kernel_rfl) rfl (by first | exact hsm | exact alive3_ok) (by simp) (by simp) ?_; simp -implicitDefEqProofs (maxSteps := 1000000) [got10, List.lookup, vl, hm0, hm1, hm2, hm3, hm4, n0, q0, n1, q1, n2, q2, n3, q3, n4, q4, n5, q5, n6, q6, n7, q7, n8, q8, n9, q9])
                | (refine yl_pure rfl rfl rfl (by first | assumption | kernel_rfl) rfl (by first | exact hsm | exact alive3_ok) (by simp) (by simp) ?_; simp -implicitDefEqProofs (maxSteps := 1000000) [got10, List.lookup, vl, hm0, hm1, hm2, hm3, hm4, n0, q0, n1, q1, n2, q2, n3, q3, n4, q4, n5, q5, n6, q6, n7, q7, n8, q8, n9, q9])
                | (refine aw_cond rfl (fun h => ?_) (fun h => ?_) <;> try (with_reducible first | exact ff_tt h | exact tt_ff h))
                | (refine aw_skip ?_; simp -implicitDefEqProofs (maxSteps := 1000000) [got10, List.lookup, vl, hm0, hm1, hm2, hm3, hm4, n0, q0, n1, q1, n2, q2, n3, q3, n4, q4, n5, q5, n6, q6, n7, q7, n8, q8, n9, q9])
                | refine aw_block ?_
                | (refine aw_exit ?_; simp -implicitDefEqProofs (maxSteps := 1000000) [got10, List.lookup, vl, hm0, hm1, hm2, hm3, hm4, n0, q0, n1, q1, n2, q2, n3, q3, n4, q4, n5, q5, n6, q6, n7, q7, n8, q8, n9, q9])
                | refine aw_ret (ret_of (.inr rfl) (by simp [Tryd.results5]; rfl) (Fin.of ?_)))
              rfl
theorem ValueOrder_all (a fa b fb : Int) (ha : (Lit.int .i64 a).wf = true) (_ : (Lit.int .i64 fa).wf = true) (hb : (Lit.int .i64 b).wf = true) (_ : (Lit.int .i64 fb).wf = true) :
    APure Tryd.prog 5 [value a fa, value b fb] (vb true) := valueOrder_ok a fa b fb (.of_wf ha) (.of_wf hb)
end Go.AL
