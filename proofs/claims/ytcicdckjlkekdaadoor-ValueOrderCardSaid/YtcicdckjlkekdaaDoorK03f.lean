import Derived.Test.YtcicdckjlkekdaaDoorK03e
/-! Contracts: value.Sum, best, and gridironref03's. -/
namespace Go.AL
open Go.Proofs
set_option linter.unusedSimpArgs false
set_option linter.unusedVariables false
def vl (p : Int × Int) : AV := value p.1 p.2
@[simp] theorem cl_vl (p : Int × Int) : Cl (vl p) := by unfold vl; simp
@[simp] theorem vl_cells (p : Int × Int) : (vl p).cells.length = 2 := rfl
@[simp high] theorem cl_vls (l : List (Int × Int)) : Cl (.vsl (l.map vl)) := by
  simp [vl]; rintro _ _ _ _ rfl; simp
def addS (s v : Int × Int) : Int × Int := (doN 0 s.1 s.2 v.1 v.2, doF 0 s.1 s.2 v.1 v.2)
def sumL (l : List (Int × Int)) : Int × Int := l.foldl addS (0, 0)
theorem sumL_snoc (l : List (Int × Int)) (v : Int × Int) : sumL (l ++ [v]) = addS (sumL l) v := by simp [sumL]
theorem doN_in (k : Nat) (a fa b fb : Int) : In64 (doN 0 a fa b fb) := by
  unfold doN; split
  · unfold In64; omega
  · simp only [numK, if_true]
    cases h : inI (a + b) with
    | true => exact inI_iff.1 h
    | false => unfold In64; simp
theorem addS_fault (s v : Int × Int) : (addS s v).2 ≠ 0 → (addS s v).1 = 0 := by
  unfold addS doN doF
  intro h
  by_cases h1 : s.2 = 0 <;> by_cases h2 : v.2 = 0 <;> simp [h1, h2, numK, fltK] at h ⊢
  cases hi : inI (s.1 + v.1) <;> simp [hi] at h ⊢
theorem addS_stay {s v : Int × Int} (h : s.2 ≠ 0) (h0 : s.1 = 0) : addS s v = s := by
  obtain ⟨a, b⟩ := s
  simp at h h0
  subst h0
  simp [addS, doN, doF, h]
def SumOK (s : Int × Int) : Prop := In64 s.1 ∧ (s.2 ≠ 0 → s.1 = 0)
theorem sum_ok0 (l : List (Int × Int)) : ∀ s, SumOK s → SumOK (l.foldl addS s) := by
  induction l with
  | nil => exact fun s h => h
  | cons v l ih => exact fun s h => ih _ ⟨doN_in 0 _ _ _ _, addS_fault s v⟩
theorem sumL_ok (l : List (Int × Int)) : SumOK (sumL l) := sum_ok0 l _ ⟨by unfold In64; simp, by simp⟩
theorem fold_stay {s : Int × Int} (h : s.2 ≠ 0) (h0 : s.1 = 0) : ∀ l : List (Int × Int), l.foldl addS s = s
  | [] => rfl
  | v :: l => by rw [List.foldl_cons, addS_stay h h0]; exact fold_stay h h0 l
theorem sumL_stay {l : List (Int × Int)} {i : Nat} (h : (sumL (l.take i)).2 ≠ 0) : sumL l = sumL (l.take i) := by
  have e : sumL l = (l.drop i).foldl addS (sumL (l.take i)) := by
    unfold sumL; rw [← List.foldl_append, List.take_append_drop]
  rw [e]
  exact fold_stay h ((sumL_ok _).2 h) _
set_option maxHeartbeats 4000000 in
set_option maxRecDepth 100000 in
theorem vsum_ok (l : List (Int × Int)) (hl : (l.length : Int) ≤ 9223372036854775807) (hin : ∀ v ∈ l, In64 v.1) : APure Tryd.prog 19 [.vsl (l.map vl)] (vl (sumL l)) := by
  refine apure_of Tryd.func19 Tryd.ntmps19 rfl ?_
  simp only [List.length_cons, List.length_nil, List.cons_append, List.nil_append, List.replicate]
  refine aw_seq (aw_run [2, 3, 5] ?_)
  simp -implicitDefEqProofs
  refine aw_seq (aw_run [2, 3, 5] ?_)
  simp -implicitDefEqProofs
  refine aw_seq (aw_seq (aw_run [2, 3, 5] ?_))
  simp -implicitDefEqProofs
  refine aw_block (aw_loopW [2, 3, 6, 7, 8] (fun n fr σ => ∃ i m : Nat, i + n = l.length ∧ 2 ≤ m ∧ σ = mkSt [(0, [vi 0, vi 0]), (1, [vi (sumL (l.take i)).1, vi (sumL (l.take i)).2])] [] m ∧ fr = frm 20 [(2, .ptr 0 0), (3, .ptr 1 0), (6, .vsl (l.map vl)), (7, vi (l.length : Int)), (8, vi (i : Nat))]) l.length ?_ ?_)
  · refine ⟨mkSt [(0, [vi 0, vi 0]), (1, [vi 0, vi 0])] [] 2, le_mkSt (by simp [σ0]) (by simp) (by simp [σ0]), 0, 2, by omega, by omega, ?_, by simp⟩
    simp [sumL]
  · rintro n fr σ ⟨i, m, hi, hm, rfl, rfl⟩
    simp
    have hm0 : ¬ 0 = m := by omega
    have hm1 : ¬ 1 = m := by omega
    refine aw_seq (aw_run [2, 3, 5] ?_)
    simp -implicitDefEqProofs [List.lookup]
    refine aw_seq (aw_cond rfl (fun h => aw_skip ?_) (fun h => aw_exit ?_))
    · have hlt : i < l.length := by simp at h; omega
      obtain ⟨x, hx⟩ : ∃ x, l[i]? = some x := ⟨l[i], by simp [hlt]⟩
      have hxm := List.mem_of_getElem? hx
      have hnx : IntKind.i64.wrap ((i : Int) + 1) = ((i + 1 : Nat) : Int) := by rw [wrap_id (by omega) (by omega)]; simp
      have hs := sumL_ok (l.take i)
      have hd := do_ok ⟨#[43]⟩ (sumL (l.take i)).1 (sumL (l.take i)).2 x.1 x.2 hs.1 (hin x hxm)
      rw [doK_plus] at hd
      have he : sumL (l.take (i + 1)) = addS (sumL (l.take i)) x := by rw [List.take_add_one, hx]; exact sumL_snoc _ _
      simp -implicitDefEqProofs [List.lookup]
      repeat' (first
        | refine aw_seq ?_
        | (refine aw_run [2, 3, 5] ?_; simp -implicitDefEqProofs [List.lookup, hm0, hm1, hx, vl])
        | (refine aw_ymix [2, 3, 5] draws (by decide +kernel) ?_; simp -implicitDefEqProofs [List.lookup, hm0, hm1, hx, vl])
        | (refine aw_yrun draws (by kernel_rfl) ?_; simp -implicitDefEqProofs [List.lookup, hm0, hm1, hx, vl])
        | (refine awl_skip' [2, 3, 5] rfl ?_; simp -implicitDefEqProofs [List.lookup, hm0, hm1, hx, vl])
        | (refine awl_pure_guard [2, 3, 5] rfl rfl rfl (by first | assumption | kernel_rfl) rfl (fun hc => by first | exact hd) (by simp) (by simp) (by simp) ?_; simp -implicitDefEqProofs [List.lookup, hm0, hm1, hx, vl])
        | (refine yl_pureG rfl rfl rfl (by first | assumption | kernel_rfl) rfl (fun hc => by first | exact hd) (by simp) (by simp) (by simp) ?_; simp -implicitDefEqProofs [List.lookup, hm0, hm1, hx, vl])
        | (refine awl_pure' [2, 3, 5] rfl rfl rfl (by first | assumption | kernel_rfl) rfl (by first | exact hd) (by simp) (by simp) ?_; simp -implicitDefEqProofs [List.lookup, hm0, hm1, hx, vl])
        | (refine yl_pure rfl rfl rfl (by first | assumption | kernel_rfl) rfl (by first | exact hd) (by simp) (by simp) ?_; simp -implicitDefEqProofs [List.lookup, hm0, hm1, hx, vl])
        | (refine aw_cond rfl (fun h => ?_) (fun h => ?_) <;> try (with_reducible first | exact ff_tt h | exact tt_ff h))
        | (refine aw_skip ?_; simp -implicitDefEqProofs [List.lookup, hm0, hm1, hx, vl])
        | refine aw_block ?_
        | (refine aw_exit ?_; simp -implicitDefEqProofs [List.lookup, hm0, hm1, hx, vl])
        | refine aw_ret (ret_of (.inr rfl) (by simp [Tryd.results19]; rfl) (Fin.of ?_)))
      refine ⟨n - 1, by omega, mkSt [(0, [vi 0, vi 0]), (1, [vi (sumL (l.take (i + 1))).1, vi (sumL (l.take (i + 1))).2])] [] (m + 1), le_mkSt (by simp [List.lookup, hm0, hm1, he, addS]) (by simp) (by simp), i + 1, by omega, m + 1, by omega, rfl, by simp [hnx]⟩
    · have hi2 : i = l.length := by simp at h; omega
      subst hi2
      simp -implicitDefEqProofs [List.lookup]
      repeat' (first
        | refine aw_seq ?_
        | (refine aw_run [2, 3, 5] ?_; simp -implicitDefEqProofs [List.lookup])
        | (refine aw_ymix [2, 3, 5] draws (by decide +kernel) ?_; simp -implicitDefEqProofs [List.lookup])
        | (refine aw_yrun draws (by kernel_rfl) ?_; simp -implicitDefEqProofs [List.lookup])
        | (refine awl_skip' [2, 3, 5] rfl ?_; simp -implicitDefEqProofs [List.lookup])
        | (refine aw_cond rfl (fun h => ?_) (fun h => ?_) <;> try (with_reducible first | exact ff_tt h | exact tt_ff h))
        | (refine aw_skip ?_; simp -implicitDefEqProofs [List.lookup])
        | refine aw_block ?_
        | (refine aw_exit ?_; simp -implicitDefEqProofs [List.lookup])
        | refine aw_ret (ret_of (.inr rfl) (by simp [Tryd.results19]; rfl) (Fin.of ?_)))
      rfl
/-- The best so far. -/
def bstS (ah : Int → Int → Bool) (o v : Int × Int) : Int × Int := if ah v.1 o.1 = true then v else o
def bstF (ah : Int → Int → Bool) : List (Int × Int) → Int × Int
  | [] => (0, 0)
  | x :: xs => xs.foldl (bstS ah) x
def isFault (v : Int × Int) : Bool := !decide (v.2 = 0)
def bestV (ah : Int → Int → Bool) (l : List (Int × Int)) : Int × Int :=
  match l.find? isFault with
  | some v => (0, v.2)
  | none => bstF ah l
theorem bstF_snoc (ah : Int → Int → Bool) (l : List (Int × Int)) (v : Int × Int) : bstF ah (l ++ [v]) = if l = [] then v else bstS ah (bstF ah l) v := by
  cases l with
  | nil => rfl
  | cons x xs => simp [bstF]
def NoFault (l : List (Int × Int)) : Prop := ∀ v ∈ l, isFault v = false
set_option maxHeartbeats 4000000 in
set_option maxRecDepth 100000 in
theorem best_ok (g : Nat) (ah : Int → Int → Bool) (hc : callable Tryd.prog g = true) (hg : ∀ a b, APure Tryd.prog g [vi a, vi b] (vb (ah a b))) (l : List (Int × Int)) (hl : (l.length : Int) ≤ 9223372036854775807) : APure Tryd.prog 39 [.vsl (l.map vl), vf g] (vl (bestV ah l)) := by
  refine apure_of Tryd.func39 Tryd.ntmps39 rfl ?_
  simp only [List.length_cons, List.length_nil, List.cons_append, List.nil_append, List.replicate]
  refine aw_seq (aw_run [4, 5, 7] ?_)
  simp -implicitDefEqProofs
  refine aw_seq (aw_run [4, 5, 7] ?_)
  simp -implicitDefEqProofs
  refine aw_seq (aw_seq (aw_run [4, 5, 7] ?_))
  simp -implicitDefEqProofs
  refine aw_block (aw_loopW [1, 4, 5, 8, 9, 10] (fun n fr σ => ∃ i m : Nat, i + n = l.length ∧ 2 ≤ m ∧ NoFault (l.take i) ∧ σ = mkSt [(0, [vi 0, vi 0]), (1, [vi (bstF ah (l.take i)).1, vi (bstF ah (l.take i)).2])] [] m ∧ fr = frm 34 [(1, vf g), (4, .ptr 0 0), (5, .ptr 1 0), (8, .vsl (l.map vl)), (9, vi (l.length : Int)), (10, vi (i : Nat))]) l.length ?_ ?_)
  · refine ⟨mkSt [(0, [vi 0, vi 0]), (1, [vi 0, vi 0])] [] 2, le_mkSt (by simp [σ0]) (by simp) (by simp [σ0]), 0, 2, by omega, by omega, by simp [NoFault], ?_, by simp⟩
    simp [bstF]
  · rintro n fr σ ⟨i, m, hi, hm, hnf, rfl, rfl⟩
    simp
    have hm0 : ¬ 0 = m := by omega
    have hm1 : ¬ 1 = m := by omega
    refine aw_seq (aw_run [4, 5, 7] ?_)
    simp -implicitDefEqProofs [List.lookup]
    refine aw_seq (aw_cond rfl (fun h => aw_skip ?_) (fun h => aw_exit ?_))
    · have hlt : i < l.length := by simp at h; omega
      obtain ⟨x, hx⟩ : ∃ x, l[i]? = some x := ⟨l[i], by simp [hlt]⟩
      have hnx : IntKind.i64.wrap ((i : Int) + 1) = ((i + 1 : Nat) : Int) := by rw [wrap_id (by omega) (by omega)]; simp
      have he : l.take (i + 1) = l.take i ++ [x] := by rw [List.take_add_one, hx]; rfl
      simp -implicitDefEqProofs [List.lookup]
      by_cases hxf : x.2 = 0
      · have hnf2 : NoFault (l.take (i + 1)) := by
          intro v hv
          rw [he, List.mem_append] at hv
          rcases hv with hv | hv
          · exact hnf v hv
          · obtain rfl : v = x := by simpa using hv
            simp [isFault, hxf]
        by_cases hi0 : i = 0
        · subst hi0
          repeat' (first
            | refine aw_seq ?_
            | (refine aw_run [4, 5, 7] ?_; simp -implicitDefEqProofs [List.lookup, hm0, hm1, hx, hxf, vl])
            | (refine aw_ymix [4, 5, 7] draws (by decide +kernel) ?_; simp -implicitDefEqProofs [List.lookup, hm0, hm1, hx, hxf, vl])
            | (refine aw_yrun draws (by kernel_rfl) ?_; simp -implicitDefEqProofs [List.lookup, hm0, hm1, hx, hxf, vl])
            | (refine awl_skip' [4, 5, 7] rfl ?_; simp -implicitDefEqProofs [List.lookup, hm0, hm1, hx, hxf, vl])
            | (refine awl_pure_guard [4, 5, 7] rfl rfl rfl (by first | assumption | kernel_rfl) rfl (fun hc => by first | exact hg _ _ | exact faulty_ok _) (by simp) (by simp) (by simp) ?_; simp -implicitDefEqProofs [List.lookup, hm0, hm1, hx, hxf, vl])
            | (refine yl_pureG rfl rfl rfl (by first | assumption | kernel_rfl) rfl (fun hc => by first | exact hg _ _ | exact faulty_ok _) (by simp) (by simp) (by simp) ?_; simp -implicitDefEqProofs [List.lookup, hm0, hm1, hx, hxf, vl])
            | (refine awl_pure' [4, 5, 7] rfl rfl rfl (by first | assumption | kernel_rfl) rfl (by first | exact hg _ _ | exact faulty_ok _) (by simp) (by simp) ?_; simp -implicitDefEqProofs [List.lookup, hm0, hm1, hx, hxf, vl])
            | (refine yl_pure rfl rfl rfl (by first | assumption | kernel_rfl) rfl (by first | exact hg _ _ | exact faulty_ok _) (by simp) (by simp) ?_; simp -implicitDefEqProofs [List.lookup, hm0, hm1, hx, hxf, vl])
            | (refine aw_cond rfl (fun h => ?_) (fun h => ?_) <;> try (with_reducible first | exact ff_tt h | exact tt_ff h))
            | (refine aw_skip ?_; simp -implicitDefEqProofs [List.lookup, hm0, hm1, hx, hxf, vl])
            | refine aw_block ?_
            | (refine aw_exit ?_; simp -implicitDefEqProofs [List.lookup, hm0, hm1, hx, hxf, vl])
            | refine aw_ret (ret_of (.inr rfl) (by simp [Tryd.results39]; rfl) (Fin.of ?_)))
          have hx0 : x = (x.1, 0) := by rw [← hxf]
          have hb0 : bstF ah (l.take (0 + 1)) = x := by rw [he]; rfl
          exact ⟨n - 1, by omega, mkSt [(0, [vi 0, vi 0]), (1, [vi (bstF ah (l.take (0 + 1))).1, vi (bstF ah (l.take (0 + 1))).2])] [] (m + 1), le_mkSt (by rw [hb0]; simp [List.lookup, hm0, hm1, hxf]) (by simp) (by simp), 0 + 1, by omega, m + 1, by omega, hnf2, rfl, by simpa using hnx⟩
        · have hne : l.take i ≠ [] := by
            intro e
            have := congrArg List.length e
            rw [List.length_take, List.length_nil] at this
            omega
          have hbs : bstF ah (l.take (i + 1)) = bstS ah (bstF ah (l.take i)) x := by rw [he, bstF_snoc, if_neg hne]
          cases ha : ah x.1 (bstF ah (l.take i)).1 with
          | true =>
            have hg' := ha ▸ hg x.1 (bstF ah (l.take i)).1
            have hi1 : ¬ (i : Int) = 0 := by omega
            repeat' (first
              | refine aw_seq ?_
              | (refine aw_run [4, 5, 7] ?_; simp -implicitDefEqProofs [List.lookup, hm0, hm1, hx, hxf, hi0, hi1, vl])
              | (refine aw_ymix [4, 5, 7] draws (by decide +kernel) ?_; simp -implicitDefEqProofs [List.lookup, hm0, hm1, hx, hxf, hi0, hi1, vl])
              | (refine aw_yrun draws (by kernel_rfl) ?_; simp -implicitDefEqProofs [List.lookup, hm0, hm1, hx, hxf, hi0, hi1, vl])
              | (refine awl_skip' [4, 5, 7] rfl ?_; simp -implicitDefEqProofs [List.lookup, hm0, hm1, hx, hxf, hi0, hi1, vl])
              | (refine awl_pure_guard [4, 5, 7] rfl rfl rfl (by first | assumption | kernel_rfl) rfl (fun hc => by first | exact hg' | exact faulty_ok _) (by simp) (by simp) (by simp) ?_; simp -implicitDefEqProofs [List.lookup, hm0, hm1, hx, hxf, hi0, hi1, vl])
              | (refine yl_pureG rfl rfl rfl (by first | assumption | kernel_rfl) rfl (fun hc => by first | exact hg' | exact faulty_ok _) (by simp) (by simp) (by simp) ?_; simp -implicitDefEqProofs [List.lookup, hm0, hm1, hx, hxf, hi0, hi1, vl])
              | (refine awl_pure' [4, 5, 7] rfl rfl rfl (by first | assumption | kernel_rfl) rfl (by first | exact hg' | exact faulty_ok _) (by simp) (by simp) ?_; simp -implicitDefEqProofs [List.lookup, hm0, hm1, hx, hxf, hi0, hi1, vl])
              | (refine yl_pure rfl rfl rfl (by first | assumption | kernel_rfl) rfl (by first | exact hg' | exact faulty_ok _) (by simp) (by simp) ?_; simp -implicitDefEqProofs [List.lookup, hm0, hm1, hx, hxf, hi0, hi1, vl])
              | (refine aw_cond rfl (fun h => ?_) (fun h => ?_) <;> try (with_reducible first | exact ff_tt h | exact tt_ff h))
              | (refine aw_skip ?_; simp -implicitDefEqProofs [List.lookup, hm0, hm1, hx, hxf, hi0, hi1, vl])
              | refine aw_block ?_
              | (refine aw_exit ?_; simp -implicitDefEqProofs [List.lookup, hm0, hm1, hx, hxf, hi0, hi1, vl])
              | refine aw_ret (ret_of (.inr rfl) (by simp [Tryd.results39]; rfl) (Fin.of ?_)))
            have hb0 : bstF ah (l.take (i + 1)) = x := by rw [hbs, bstS, if_pos ha]
            exact ⟨n - 1, by omega, mkSt [(0, [vi 0, vi 0]), (1, [vi (bstF ah (l.take (i + 1))).1, vi (bstF ah (l.take (i + 1))).2])] [] (m + 1), le_mkSt (by rw [hb0]; simp [List.lookup, hm0, hm1, hxf]) (by simp) (by simp), i + 1, by omega, m + 1, by omega, hnf2, rfl, by simp [hnx]⟩
          | false =>
            have hg' := ha ▸ hg x.1 (bstF ah (l.take i)).1
            have hi1 : ¬ (i : Int) = 0 := by omega
            repeat' (first
              | refine aw_seq ?_
              | (refine aw_run [4, 5, 7] ?_; simp -implicitDefEqProofs [List.lookup, hm0, hm1, hx, hxf, hi0, hi1, vl])
              | (refine aw_ymix [4, 5, 7] draws (by decide +kernel) ?_; simp -implicitDefEqProofs [List.lookup, hm0, hm1, hx, hxf, hi0, hi1, vl])
              | (refine aw_yrun draws (by kernel_rfl) ?_; simp -implicitDefEqProofs [List.lookup, hm0, hm1, hx, hxf, hi0, hi1, vl])
              | (refine awl_skip' [4, 5, 7] rfl ?_; simp -implicitDefEqProofs [List.lookup, hm0, hm1, hx, hxf, hi0, hi1, vl])
              | (refine awl_pure_guard [4, 5, 7] rfl rfl rfl (by first | assumption | kernel_rfl) rfl (fun hc => by first | exact hg' | exact faulty_ok _) (by simp) (by simp) (by simp) ?_; simp -implicitDefEqProofs [List.lookup, hm0, hm1, hx, hxf, hi0, hi1, vl])
              | (refine yl_pureG rfl rfl rfl (by first | assumption | kernel_rfl) rfl (fun hc => by first | exact hg' | exact faulty_ok _) (by simp) (by simp) (by simp) ?_; simp -implicitDefEqProofs [List.lookup, hm0, hm1, hx, hxf, hi0, hi1, vl])
              | (refine awl_pure' [4, 5, 7] rfl rfl rfl (by first | assumption | kernel_rfl) rfl (by first | exact hg' | exact faulty_ok _) (by simp) (by simp) ?_; simp -implicitDefEqProofs [List.lookup, hm0, hm1, hx, hxf, hi0, hi1, vl])
              | (refine yl_pure rfl rfl rfl (by first | assumption | kernel_rfl) rfl (by first | exact hg' | exact faulty_ok _) (by simp) (by simp) ?_; simp -implicitDefEqProofs [List.lookup, hm0, hm1, hx, hxf, hi0, hi1, vl])
              | (refine aw_cond rfl (fun h => ?_) (fun h => ?_) <;> try (with_reducible first | exact ff_tt h | exact tt_ff h))
              | (refine aw_skip ?_; simp -implicitDefEqProofs [List.lookup, hm0, hm1, hx, hxf, hi0, hi1, vl])
              | refine aw_block ?_
              | (refine aw_exit ?_; simp -implicitDefEqProofs [List.lookup, hm0, hm1, hx, hxf, hi0, hi1, vl])
              | refine aw_ret (ret_of (.inr rfl) (by simp [Tryd.results39]; rfl) (Fin.of ?_)))
            have hb0 : bstF ah (l.take (i + 1)) = bstF ah (l.take i) := by rw [hbs, bstS, if_neg (by simp [ha])]
            exact ⟨n - 1, by omega, mkSt [(0, [vi 0, vi 0]), (1, [vi (bstF ah (l.take (i + 1))).1, vi (bstF ah (l.take (i + 1))).2])] [] (m + 1), le_mkSt (by rw [hb0]; simp [List.lookup, hm0, hm1]) (by simp) (by simp), i + 1, by omega, m + 1, by omega, hnf2, rfl, by simp [hnx]⟩
      · repeat' (first
          | refine aw_seq ?_
          | (refine aw_run [4, 5, 7] ?_; simp -implicitDefEqProofs [List.lookup, hm0, hm1, hx, hxf, vl])
          | (refine aw_ymix [4, 5, 7] draws (by decide +kernel) ?_; simp -implicitDefEqProofs [List.lookup, hm0, hm1, hx, hxf, vl])
          | (refine aw_yrun draws (by kernel_rfl) ?_; simp -implicitDefEqProofs [List.lookup, hm0, hm1, hx, hxf, vl])
          | (refine awl_skip' [4, 5, 7] rfl ?_; simp -implicitDefEqProofs [List.lookup, hm0, hm1, hx, hxf, vl])
          | (refine awl_pure_guard [4, 5, 7] rfl rfl rfl (by first | assumption | kernel_rfl) rfl (fun hc => by first | exact faulty_ok _) (by simp) (by simp) (by simp) ?_; simp -implicitDefEqProofs [List.lookup, hm0, hm1, hx, hxf, vl])
          | (refine yl_pureG rfl rfl rfl (by first | assumption | kernel_rfl) rfl (fun hc => by first | exact faulty_ok _) (by simp) (by simp) (by simp) ?_; simp -implicitDefEqProofs [List.lookup, hm0, hm1, hx, hxf, vl])
          | (refine awl_pure' [4, 5, 7] rfl rfl rfl (by first | assumption | kernel_rfl) rfl (by first | exact faulty_ok _) (by simp) (by simp) ?_; simp -implicitDefEqProofs [List.lookup, hm0, hm1, hx, hxf, vl])
          | (refine yl_pure rfl rfl rfl (by first | assumption | kernel_rfl) rfl (by first | exact faulty_ok _) (by simp) (by simp) ?_; simp -implicitDefEqProofs [List.lookup, hm0, hm1, hx, hxf, vl])
          | (refine aw_cond rfl (fun h => ?_) (fun h => ?_) <;> try (with_reducible first | exact ff_tt h | exact tt_ff h))
          | (refine aw_skip ?_; simp -implicitDefEqProofs [List.lookup, hm0, hm1, hx, hxf, vl])
          | refine aw_block ?_
          | (refine aw_exit ?_; simp -implicitDefEqProofs [List.lookup, hm0, hm1, hx, hxf, vl])
          | refine aw_ret (ret_of (.inr rfl) (by simp [Tryd.results39]; rfl) (Fin.of ?_)))
        have hfd : l.find? isFault = some x := by
          have e : l = l.take i ++ x :: l.drop (i + 1) := by
            have h1 := (List.take_append_drop i l).symm
            rw [List.drop_eq_getElem_cons hlt] at h1
            have h2 : l[i] = x := (List.getElem?_eq_some_iff.1 hx).2
            rwa [h2] at h1
          rw [e, List.find?_append, List.find?_eq_none.2 (fun v hv => by simp [hnf v hv])]
          simp [isFault, hxf]
        simp [tupOf, bestV, hfd, vl]
    · have hi2 : i = l.length := by simp at h; omega
      subst hi2
      simp -implicitDefEqProofs [List.lookup]
      repeat' (first
        | refine aw_seq ?_
        | (refine aw_run [4, 5, 7] ?_; simp -implicitDefEqProofs [List.lookup])
        | (refine aw_ymix [4, 5, 7] draws (by decide +kernel) ?_; simp -implicitDefEqProofs [List.lookup])
        | (refine aw_yrun draws (by kernel_rfl) ?_; simp -implicitDefEqProofs [List.lookup])
        | (refine awl_skip' [4, 5, 7] rfl ?_; simp -implicitDefEqProofs [List.lookup])
        | (refine aw_cond rfl (fun h => ?_) (fun h => ?_) <;> try (with_reducible first | exact ff_tt h | exact tt_ff h))
        | (refine aw_skip ?_; simp -implicitDefEqProofs [List.lookup])
        | refine aw_block ?_
        | (refine aw_exit ?_; simp -implicitDefEqProofs [List.lookup])
        | refine aw_ret (ret_of (.inr rfl) (by simp [Tryd.results39]; rfl) (Fin.of ?_)))
      have hnf : NoFault l := by rwa [List.take_of_length_le (Nat.le_refl _)] at hnf
      have hfd : l.find? isFault = none := List.find?_eq_none.2 (fun v hv => by simp [hnf v hv])
      simp [tupOf, bestV, hfd, vl]
set_option maxRecDepth 100000 in
theorem less_ok (a b : Int) : APure Tryd.prog 40 [vi a, vi b] (vb (decide (a < b))) := by
  refine apure_of Tryd.func40 Tryd.ntmps40 rfl ?_
  simp only [List.length_cons, List.length_nil, List.cons_append, List.nil_append, List.replicate]
  repeat' (first
    | refine aw_seq ?_
    | (refine aw_run [] ?_; simp -implicitDefEqProofs)
    | (refine aw_ymix [] draws (by decide +kernel) ?_; simp -implicitDefEqProofs)
    | (refine aw_yrun draws (by kernel_rfl) ?_; simp -implicitDefEqProofs)
    | (refine awl_skip' [] rfl ?_; simp -implicitDefEqProofs)
    | (refine aw_cond rfl (fun h => ?_) (fun h => ?_) <;> try (with_reducible first | exact ff_tt h | exact tt_ff h))
    | (refine aw_skip ?_; simp -implicitDefEqProofs)
    | refine aw_block ?_
    | (refine aw_exit ?_; simp -implicitDefEqProofs)
    | refine aw_ret (ret_of (.inr rfl) (by simp [Tryd.results40]; rfl) (Fin.of ?_)))
  rfl
set_option maxRecDepth 100000 in
theorem more_ok (a b : Int) : APure Tryd.prog 41 [vi a, vi b] (vb (decide (b < a))) := by
  refine apure_of Tryd.func41 Tryd.ntmps41 rfl ?_
  simp only [List.length_cons, List.length_nil, List.cons_append, List.nil_append, List.replicate]
  repeat' (first
    | refine aw_seq ?_
    | (refine aw_run [] ?_; simp -implicitDefEqProofs)
    | (refine aw_ymix [] draws (by decide +kernel) ?_; simp -implicitDefEqProofs)
    | (refine aw_yrun draws (by kernel_rfl) ?_; simp -implicitDefEqProofs)
    | (refine awl_skip' [] rfl ?_; simp -implicitDefEqProofs)
    | (refine aw_cond rfl (fun h => ?_) (fun h => ?_) <;> try (with_reducible first | exact ff_tt h | exact tt_ff h))
    | (refine aw_skip ?_; simp -implicitDefEqProofs)
    | refine aw_block ?_
    | (refine aw_exit ?_; simp -implicitDefEqProofs)
    | refine aw_ret (ret_of (.inr rfl) (by simp [Tryd.results41]; rfl) (Fin.of ?_)))
  rfl
def lowL (l : List (Int × Int)) : Int × Int := bestV (fun a b => decide (a < b)) l
def highL (l : List (Int × Int)) : Int × Int := bestV (fun a b => decide (b < a)) l
set_option maxRecDepth 100000 in
theorem least_ok (l : List (Int × Int)) (hl : (l.length : Int) ≤ 9223372036854775807) : APure Tryd.prog 21 [.vsl (l.map vl)] (vl (lowL l)) := by
  have hb := best_ok 40 (fun a b => decide (a < b)) (by kernel_rfl) less_ok l hl
  refine apure_of Tryd.func21 Tryd.ntmps21 rfl ?_
  simp only [List.length_cons, List.length_nil, List.cons_append, List.nil_append, List.replicate]
  repeat' (first
    | refine aw_seq ?_
    | (refine aw_run [2] ?_; simp -implicitDefEqProofs [vl])
    | (refine aw_ymix [2] draws (by decide +kernel) ?_; simp -implicitDefEqProofs [vl])
    | (refine aw_yrun draws (by kernel_rfl) ?_; simp -implicitDefEqProofs [vl])
    | (refine awl_skip' [2] rfl ?_; simp -implicitDefEqProofs [vl])
    | (refine awl_pure_guard [2] rfl rfl rfl (by first | assumption | kernel_rfl) rfl (fun hc => by first | exact hb) (by simp) (by simp) (by simp) ?_; simp -implicitDefEqProofs [vl])
    | (refine yl_pureG rfl rfl rfl (by first | assumption | kernel_rfl) rfl (fun hc => by first | exact hb) (by simp) (by simp) (by simp) ?_; simp -implicitDefEqProofs [vl])
    | (refine awl_pure' [2] rfl rfl rfl (by first | assumption | kernel_rfl) rfl (by first | exact hb) (by simp) (by simp) ?_; simp -implicitDefEqProofs [vl])
    | (refine yl_pure rfl rfl rfl (by first | assumption | kernel_rfl) rfl (by first | exact hb) (by simp) (by simp) ?_; simp -implicitDefEqProofs [vl])
    | (refine aw_cond rfl (fun h => ?_) (fun h => ?_) <;> try (with_reducible first | exact ff_tt h | exact tt_ff h))
    | (refine aw_skip ?_; simp -implicitDefEqProofs [vl])
    | refine aw_block ?_
    | (refine aw_exit ?_; simp -implicitDefEqProofs [vl])
    | refine aw_ret (ret_of (.inr rfl) (by simp [Tryd.results21]; rfl) (Fin.of ?_)))
  rfl
set_option maxRecDepth 100000 in
theorem greatest_ok (l : List (Int × Int)) (hl : (l.length : Int) ≤ 9223372036854775807) : APure Tryd.prog 23 [.vsl (l.map vl)] (vl (highL l)) := by
  have hb := best_ok 41 (fun a b => decide (b < a)) (by kernel_rfl) more_ok l hl
  refine apure_of Tryd.func23 Tryd.ntmps23 rfl ?_
  simp only [List.length_cons, List.length_nil, List.cons_append, List.nil_append, List.replicate]
  repeat' (first
    | refine aw_seq ?_
    | (refine aw_run [2] ?_; simp -implicitDefEqProofs [vl])
    | (refine aw_ymix [2] draws (by decide +kernel) ?_; simp -implicitDefEqProofs [vl])
    | (refine aw_yrun draws (by kernel_rfl) ?_; simp -implicitDefEqProofs [vl])
    | (refine awl_skip' [2] rfl ?_; simp -implicitDefEqProofs [vl])
    | (refine awl_pure_guard [2] rfl rfl rfl (by first | assumption | kernel_rfl) rfl (fun hc => by first | exact hb) (by simp) (by simp) (by simp) ?_; simp -implicitDefEqProofs [vl])
    | (refine yl_pureG rfl rfl rfl (by first | assumption | kernel_rfl) rfl (fun hc => by first | exact hb) (by simp) (by simp) (by simp) ?_; simp -implicitDefEqProofs [vl])
    | (refine awl_pure' [2] rfl rfl rfl (by first | assumption | kernel_rfl) rfl (by first | exact hb) (by simp) (by simp) ?_; simp -implicitDefEqProofs [vl])
    | (refine yl_pure rfl rfl rfl (by first | assumption | kernel_rfl) rfl (by first | exact hb) (by simp) (by simp) ?_; simp -implicitDefEqProofs [vl])
    | (refine aw_cond rfl (fun h => ?_) (fun h => ?_) <;> try (with_reducible first | exact ff_tt h | exact tt_ff h))
    | (refine aw_skip ?_; simp -implicitDefEqProofs [vl])
    | refine aw_block ?_
    | (refine aw_exit ?_; simp -implicitDefEqProofs [vl])
    | refine aw_ret (ret_of (.inr rfl) (by simp [Tryd.results23]; rfl) (Fin.of ?_)))
  rfl
end Go.AL
