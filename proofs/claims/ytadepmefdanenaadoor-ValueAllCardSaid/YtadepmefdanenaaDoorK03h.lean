import Derived.Test.YtadepmefdanenaaDoorK03f
import Derived.Test.YtadepmefdanenaaDoorA20
/-! Contracts: gridironref03.Sum, Best. -/
namespace Go.AL
open Go.Proofs
set_option linter.unusedSimpArgs false
set_option linter.unusedVariables false
set_option maxHeartbeats 4000000 in
set_option maxRecDepth 100000 in
theorem rvsum_ok (l : List (Int × Int)) (hl : (l.length : Int) ≤ 9223372036854775807) (hin : ∀ v ∈ l, In64 v.1) : APure Tryd.prog 47 [.vsl (l.map vl)] (vl (sumL l)) := by
  refine apure_of Tryd.func47 Tryd.ntmps47 rfl ?_
  simp only [List.length_cons, List.length_nil, List.cons_append, List.nil_append, List.replicate]
  refine aw_seq (aw_run [2, 3, 5] ?_)
  simp -implicitDefEqProofs
  refine aw_seq (aw_run [2, 3, 5] ?_)
  simp -implicitDefEqProofs
  refine aw_seq (aw_seq (aw_run [2, 3, 5] ?_))
  simp -implicitDefEqProofs
  refine aw_block (aw_loopW [0, 2, 3, 4] (fun n fr σ => ∃ i m : Nat, i + n = l.length ∧ 2 ≤ m ∧ σ = mkSt [(0, [vi 0, vi 0]), (1, [vi (sumL (l.take i)).1, vi (sumL (l.take i)).2])] [] m ∧ fr = frm 29 [(0, .vsl (l.map vl)), (2, .ptr 0 0), (3, .ptr 1 0), (4, vi (i : Nat))]) l.length ?_ ?_)
  · refine ⟨mkSt [(0, [vi 0, vi 0]), (1, [vi 0, vi 0])] [] 2, le_mkSt (by simp [σ0]) (by simp) (by simp [σ0]), 0, 2, by omega, by omega, ?_, by simp⟩
    simp [sumL]
  · rintro n fr σ ⟨i, m, hi, hm, rfl, rfl⟩
    simp
    have hm0 : ¬ 0 = m := by omega
    have hm1 : ¬ 1 = m := by omega
    refine aw_seq (aw_seq (aw_run [2, 3, 5] ?_))
    simp -implicitDefEqProofs [List.lookup]
    refine aw_cond rfl (fun h => aw_skip ?_) (fun h => aw_exit ?_)
    · have hlt : i < l.length := by simp at h; omega
      obtain ⟨x, hx⟩ : ∃ x, l[i]? = some x := ⟨l[i], by simp [hlt]⟩
      have hxm := List.mem_of_getElem? hx
      have hnx : IntKind.i64.wrap ((i : Int) + 1) = ((i + 1 : Nat) : Int) := by rw [wrap_id (by omega) (by omega)]; simp
      have hs := sumL_ok (l.take i)
      have hd := rdo_ok ⟨#[43]⟩ (sumL (l.take i)).1 (sumL (l.take i)).2 x.1 x.2 hs.1 (hin x hxm)
      rw [doK_plus] at hd
      have he : sumL (l.take (i + 1)) = addS (sumL (l.take i)) x := by rw [List.take_add_one, hx]; exact sumL_snoc _ _
      simp -implicitDefEqProofs [List.lookup]
      refine aw_seq (aw_block (aw_seq ?_))
      refine aw_draw2' 9 10 ((mkSt [(0, [vi 0, vi 0]), (1, [vi (sumL (l.take i)).1, vi (sumL (l.take i)).2])] [] m).addBx [vi 0, vi 0]) { (mkSt [(0, [vi 0, vi 0]), (1, [vi (sumL (l.take i)).1, vi (sumL (l.take i)).2])] [] m).addBx [vi 0, vi 0] with bx := upd ((mkSt [(0, [vi 0, vi 0]), (1, [vi (sumL (l.take i)).1, vi (sumL (l.take i)).2])] [] m).addBx [vi 0, vi 0]).bx m (some [vi (doN 0 (sumL (l.take i)).1 (sumL (l.take i)).2 x.1 x.2), vi (doF 0 (sumL (l.take i)).1 (sumL (l.take i)).2 x.1 x.2)]) } draws (by decide +kernel) ?_
      simp -implicitDefEqProofs [List.lookup, hm0, hm1, hx, vl]
      refine yl2_pure (by decide) (by decide) rfl rfl rfl (by kernel_rfl) rfl hd (by simp) (by simp) ?_
      simp -implicitDefEqProofs [List.lookup, hm0, hm1, hx, vl]
      refine yl2_alloc rfl rfl tz51 rfl ?_
      simp -implicitDefEqProofs [List.lookup, hm0, hm1, hx, vl]
      refine yl2_store rfl rfl (by simp [upd]) ?_
      simp -implicitDefEqProofs [List.lookup, hm0, hm1, hx, vl]
      repeat' (first
        | refine aw_seq ?_
        | (refine aw_run [2, 3, 5] ?_; simp -implicitDefEqProofs [List.lookup, hm0, hm1, hx, vl])
        | (refine aw_ymix [2, 3, 5] draws (by decide +kernel) ?_; simp -implicitDefEqProofs [List.lookup, hm0, hm1, hx, vl])
        | (refine aw_yrun draws (by kernel_rfl) ?_; simp -implicitDefEqProofs [List.lookup, hm0, hm1, hx, vl])
        | (refine awl_skip' [2, 3, 5] rfl ?_; simp -implicitDefEqProofs [List.lookup, hm0, hm1, hx, vl])
        | (refine awl_pure_guard [2, 3, 5] rfl rfl rfl (by first | assumption | kernel_rfl) rfl (fun hc => by first | exact hd) (by simp) (by simp) (by simp) ?_; simp -implicitDefEqProofs [List.lookup, hm0, hm1, hx, vl])
        | (refine yl_pureG rfl rfl rfl (by first | assumption | kernel_rfl) rfl (fun hc => by first | exact hd) (by simp) (by simp) (by simp) ?_; simp -implicitDefEqProofs [List.lookup, hm0, hm1, hx, vl])
        | (refine awl_pure' [2, 3, 5] rfl rfl rfl (by first | assumption | kernel_rfl) rfl (by first | exact hd) (by simp) (by simp) ?_; simp -implicitDefEqProofs [List.lookup, hm0, hm1, hx, vl])
        | (refine yl_pure rfl rfl rfl (by first | assumption | kernel_rfl) rfl (by first | exact hd) (by simp) (by simp) ?_; simp -implicitDefEqProofs [List.lookup, hm0, hm1, hx, vl])
        | (refine aw_cond rfl (fun h => ?_) (fun h => ?_) <;> try (with_reducible first | exact ff_tt h | exact tt_ff h))
        | (refine aw_skip ?_; simp -implicitDefEqProofs [List.lookup, hm0, hm1, hx, vl])
        | refine aw_block ?_
        | (refine aw_exit ?_; simp -implicitDefEqProofs [List.lookup, hm0, hm1, hx, vl])
        | refine aw_ret (ret_of (.inr rfl) (by simp [Tryd.results47]; rfl) (Fin.of ?_)))
      · simp at h
        have hf : (sumL (l.take (i + 1))).2 ≠ 0 := by rw [he]; exact h
        rw [sumL_stay hf, he]
        rfl
      · refine ⟨n - 1, by omega, mkSt [(0, [vi 0, vi 0]), (1, [vi (sumL (l.take (i + 1))).1, vi (sumL (l.take (i + 1))).2])] [] (m + 1), le_mkSt (by simp [List.lookup, hm0, hm1, he, addS]) (by simp) (by simp), i + 1, by omega, m + 1, by omega, rfl, by simp [hnx]⟩
    · have hi2 : i = l.length := by simp at h; omega
      subst hi2
      simp -implicitDefEqProofs [List.lookup]
      repeat' (first
        | refine aw_seq ?_
        | (refine aw_run [2, 3, 5] ?_; simp -implicitDefEqProofs [List.lookup])
        | (refine aw_ymix [2, 3, 5] draws (by decide +kernel) ?_; simp -implicitDefEqProofs [List.lookup])
        | (refine aw_yrun draws (by kernel_rfl) ?_; simp -implicitDefEqProofs [List.lookup])
        | (refine awl_skip' [2, 3, 5] rfl ?_; simp -implicitDefEqProofs [List.lookup])
        | (refine aw_cond rfl (fun h => ?_) (fun h => ?_) <;> try (with_reducible first | exact ff_tt h | exact tt_ff h))
        | (refine aw_skip ?_; simp -implicitDefEqProofs [List.lookup])
        | refine aw_block ?_
        | (refine aw_exit ?_; simp -implicitDefEqProofs [List.lookup])
        | refine aw_ret (ret_of (.inr rfl) (by simp [Tryd.results47]; rfl) (Fin.of ?_)))
      rfl
def ahG (gt : Bool) (a b : Int) : Bool := if gt = true then decide (b < a) else decide (a < b)
set_option maxHeartbeats 4000000 in
set_option maxRecDepth 100000 in
theorem rbest_ok (gt : Bool) (l : List (Int × Int)) (hl : (l.length : Int) ≤ 9223372036854775807) : APure Tryd.prog 49 [.vsl (l.map vl), vb gt] (vl (bestV (ahG gt) l)) := by
  cases gt with
  | true =>
    refine apure_of Tryd.func49 Tryd.ntmps49 rfl ?_
    simp only [List.length_cons, List.length_nil, List.cons_append, List.nil_append, List.replicate]
    refine aw_seq (aw_run [4, 5] ?_)
    simp -implicitDefEqProofs
    refine aw_seq (aw_run [4, 5] ?_)
    simp -implicitDefEqProofs
    refine aw_seq (aw_seq (aw_run [4, 5] ?_))
    simp -implicitDefEqProofs
    refine aw_block (aw_loopW [0, 1, 4, 5, 6] (fun n fr σ => ∃ i m : Nat, i + n = l.length ∧ 2 ≤ m ∧ NoFault (l.take i) ∧ σ = mkSt [(0, [vi 0, vi 0]), (1, [vi (bstF (ahG true) (l.take i)).1, vi (bstF (ahG true) (l.take i)).2])] [] m ∧ fr = frm 60 [(0, .vsl (l.map vl)), (1, vb true), (4, .ptr 0 0), (5, .ptr 1 0), (6, vi (i : Nat))]) l.length ?_ ?_)
    · refine ⟨mkSt [(0, [vi 0, vi 0]), (1, [vi 0, vi 0])] [] 2, le_mkSt (by simp [σ0]) (by simp) (by simp [σ0]), 0, 2, by omega, by omega, by simp [NoFault], ?_, by simp⟩
      simp [bstF]
    · rintro n fr σ ⟨i, m, hi, hm, hnf, rfl, rfl⟩
      simp
      refine aw_seq (aw_seq (aw_run [4, 5] ?_))
      simp -implicitDefEqProofs [List.lookup]
      refine aw_cond rfl (fun h => aw_skip ?_) (fun h => aw_exit ?_)
      · have hlt : i < l.length := by simp at h; omega
        obtain ⟨x, hx⟩ : ∃ x, l[i]? = some x := ⟨l[i], by simp [hlt]⟩
        have hnx : IntKind.i64.wrap ((i : Int) + 1) = ((i + 1 : Nat) : Int) := by rw [wrap_id (by omega) (by omega)]; simp
        have he : l.take (i + 1) = l.take i ++ [x] := by rw [List.take_add_one, hx]; rfl
        simp -implicitDefEqProofs [List.lookup]
        by_cases hxf : x.2 = 0
        · have hnf2 : NoFault (l.take (i + 1)) := by
            intro v hv
            rw [he, List.mem_append] at hv
            rcases hv with hv | hv
            · exact hnf v hv
            · obtain rfl : v = x := by simpa using hv
              simp [isFault, hxf]
          by_cases hi0 : i = 0
          · subst hi0
            repeat' (first
              | refine aw_seq ?_
              | (refine aw_run [4, 5] ?_; simp -implicitDefEqProofs [List.lookup, hx, hxf, vl])
              | (refine aw_ymix [4, 5] draws (by decide +kernel) ?_; simp -implicitDefEqProofs [List.lookup, hx, hxf, vl])
              | (refine aw_yrun draws (by kernel_rfl) ?_; simp -implicitDefEqProofs [List.lookup, hx, hxf, vl])
              | (refine awl_skip' [4, 5] rfl ?_; simp -implicitDefEqProofs [List.lookup, hx, hxf, vl])
              | (refine aw_cond rfl (fun h => ?_) (fun h => ?_) <;> try (with_reducible first | exact ff_tt h | exact tt_ff h))
              | (refine aw_skip ?_; simp -implicitDefEqProofs [List.lookup, hx, hxf, vl])
              | refine aw_block ?_
              | (refine aw_exit ?_; simp -implicitDefEqProofs [List.lookup, hx, hxf, vl])
              | refine aw_ret (ret_of (.inr rfl) (by simp [Tryd.results49]; rfl) (Fin.of ?_)))
            have hb0 : bstF (ahG true) (l.take (0 + 1)) = x := by rw [he]; rfl
            exact ⟨n - 1, by omega, mkSt [(0, [vi 0, vi 0]), (1, [vi (bstF (ahG true) (l.take (0 + 1))).1, vi (bstF (ahG true) (l.take (0 + 1))).2])] [] m, le_mkSt (by rw [hb0]; simp [List.lookup, hxf]) (by simp) (by simp), 0 + 1, by omega, m, by omega, hnf2, rfl, by simpa using hnx⟩
          · have hne : l.take i ≠ [] := by
              intro e
              have := congrArg List.length e
              rw [List.length_take, List.length_nil] at this
              omega
            have hbs : bstF (ahG true) (l.take (i + 1)) = bstS (ahG true) (bstF (ahG true) (l.take i)) x := by rw [he, bstF_snoc, if_neg hne]
            have hi1 : ¬ (i : Int) = 0 := by omega
            by_cases ha : (bstF (ahG true) (l.take i)).1 < x.1
            · have ha' : ahG true x.1 (bstF (ahG true) (l.take i)).1 = true := by simp [ahG, ha]
              repeat' (first
                | refine aw_seq ?_
                | (refine aw_run [4, 5] ?_; simp -implicitDefEqProofs [List.lookup, hx, hxf, hi0, hi1, vl, ha])
                | (refine aw_ymix [4, 5] draws (by decide +kernel) ?_; simp -implicitDefEqProofs [List.lookup, hx, hxf, hi0, hi1, vl, ha])
                | (refine aw_yrun draws (by kernel_rfl) ?_; simp -implicitDefEqProofs [List.lookup, hx, hxf, hi0, hi1, vl, ha])
                | (refine awl_skip' [4, 5] rfl ?_; simp -implicitDefEqProofs [List.lookup, hx, hxf, hi0, hi1, vl, ha])
                | (refine aw_cond rfl (fun h => ?_) (fun h => ?_) <;> try (with_reducible first | exact ff_tt h | exact tt_ff h))
                | (refine aw_skip ?_; simp -implicitDefEqProofs [List.lookup, hx, hxf, hi0, hi1, vl, ha])
                | refine aw_block ?_
                | (refine aw_exit ?_; simp -implicitDefEqProofs [List.lookup, hx, hxf, hi0, hi1, vl, ha])
                | refine aw_ret (ret_of (.inr rfl) (by simp [Tryd.results49]; rfl) (Fin.of ?_)))
              have hb0 : bstF (ahG true) (l.take (i + 1)) = x := by rw [hbs, bstS, if_pos ha']
              exact ⟨n - 1, by omega, mkSt [(0, [vi 0, vi 0]), (1, [vi (bstF (ahG true) (l.take (i + 1))).1, vi (bstF (ahG true) (l.take (i + 1))).2])] [] m, le_mkSt (by rw [hb0]; simp [List.lookup, hxf]) (by simp) (by simp), i + 1, by omega, m, by omega, hnf2, rfl, by simp [hnx]⟩
            · have ha' : ahG true x.1 (bstF (ahG true) (l.take i)).1 = false := by simp [ahG, ha]
              repeat' (first
                | refine aw_seq ?_
                | (refine aw_run [4, 5] ?_; simp -implicitDefEqProofs [List.lookup, hx, hxf, hi0, hi1, vl, ha])
                | (refine aw_ymix [4, 5] draws (by decide +kernel) ?_; simp -implicitDefEqProofs [List.lookup, hx, hxf, hi0, hi1, vl, ha])
                | (refine aw_yrun draws (by kernel_rfl) ?_; simp -implicitDefEqProofs [List.lookup, hx, hxf, hi0, hi1, vl, ha])
                | (refine awl_skip' [4, 5] rfl ?_; simp -implicitDefEqProofs [List.lookup, hx, hxf, hi0, hi1, vl, ha])
                | (refine aw_cond rfl (fun h => ?_) (fun h => ?_) <;> try (with_reducible first | exact ff_tt h | exact tt_ff h))
                | (refine aw_skip ?_; simp -implicitDefEqProofs [List.lookup, hx, hxf, hi0, hi1, vl, ha])
                | refine aw_block ?_
                | (refine aw_exit ?_; simp -implicitDefEqProofs [List.lookup, hx, hxf, hi0, hi1, vl, ha])
                | refine aw_ret (ret_of (.inr rfl) (by simp [Tryd.results49]; rfl) (Fin.of ?_)))
              have hb0 : bstF (ahG true) (l.take (i + 1)) = bstF (ahG true) (l.take i) := by rw [hbs, bstS, if_neg (by simp [ha'])]
              exact ⟨n - 1, by omega, mkSt [(0, [vi 0, vi 0]), (1, [vi (bstF (ahG true) (l.take (i + 1))).1, vi (bstF (ahG true) (l.take (i + 1))).2])] [] m, le_mkSt (by rw [hb0]; simp [List.lookup]) (by simp) (by simp), i + 1, by omega, m, by omega, hnf2, rfl, by simp [hnx]⟩
        · repeat' (first
            | refine aw_seq ?_
            | (refine aw_run [4, 5] ?_; simp -implicitDefEqProofs [List.lookup, hx, hxf, vl])
            | (refine aw_ymix [4, 5] draws (by decide +kernel) ?_; simp -implicitDefEqProofs [List.lookup, hx, hxf, vl])
            | (refine aw_yrun draws (by kernel_rfl) ?_; simp -implicitDefEqProofs [List.lookup, hx, hxf, vl])
            | (refine awl_skip' [4, 5] rfl ?_; simp -implicitDefEqProofs [List.lookup, hx, hxf, vl])
            | (refine aw_cond rfl (fun h => ?_) (fun h => ?_) <;> try (with_reducible first | exact ff_tt h | exact tt_ff h))
            | (refine aw_skip ?_; simp -implicitDefEqProofs [List.lookup, hx, hxf, vl])
            | refine aw_block ?_
            | (refine aw_exit ?_; simp -implicitDefEqProofs [List.lookup, hx, hxf, vl])
            | refine aw_ret (ret_of (.inr rfl) (by simp [Tryd.results49]; rfl) (Fin.of ?_)))
          have hfd : l.find? isFault = some x := by
            have e : l = l.take i ++ x :: l.drop (i + 1) := by
              have h1 := (List.take_append_drop i l).symm
              rw [List.drop_eq_getElem_cons hlt] at h1
              have h2 : l[i] = x := (List.getElem?_eq_some_iff.1 hx).2
              rwa [h2] at h1
            rw [e, List.find?_append, List.find?_eq_none.2 (fun v hv => by simp [hnf v hv])]
            simp [isFault, hxf]
          simp [tupOf, bestV, hfd, vl]
      · have hi2 : i = l.length := by simp at h; omega
        subst hi2
        simp -implicitDefEqProofs [List.lookup]
        repeat' (first
          | refine aw_seq ?_
          | (refine aw_run [4, 5] ?_; simp -implicitDefEqProofs [List.lookup])
          | (refine aw_ymix [4, 5] draws (by decide +kernel) ?_; simp -implicitDefEqProofs [List.lookup])
          | (refine aw_yrun draws (by kernel_rfl) ?_; simp -implicitDefEqProofs [List.lookup])
          | (refine awl_skip' [4, 5] rfl ?_; simp -implicitDefEqProofs [List.lookup])
          | (refine aw_cond rfl (fun h => ?_) (fun h => ?_) <;> try (with_reducible first | exact ff_tt h | exact tt_ff h))
          | (refine aw_skip ?_; simp -implicitDefEqProofs [List.lookup])
          | refine aw_block ?_
          | (refine aw_exit ?_; simp -implicitDefEqProofs [List.lookup])
          | refine aw_ret (ret_of (.inr rfl) (by simp [Tryd.results49]; rfl) (Fin.of ?_)))
        have hnf : NoFault l := by rwa [List.take_of_length_le (Nat.le_refl _)] at hnf
        have hfd : l.find? isFault = none := List.find?_eq_none.2 (fun v hv => by simp [hnf v hv])
        simp [tupOf, bestV, hfd, vl]
  | false =>
    refine apure_of Tryd.func49 Tryd.ntmps49 rfl ?_
    simp only [List.length_cons, List.length_nil, List.cons_append, List.nil_append, List.replicate]
    refine aw_seq (aw_run [4, 5] ?_)
    simp -implicitDefEqProofs
    refine aw_seq (aw_run [4, 5] ?_)
    simp -implicitDefEqProofs
    refine aw_seq (aw_seq (aw_run [4, 5] ?_))
    simp -implicitDefEqProofs
    refine aw_block (aw_loopW [0, 1, 4, 5, 6] (fun n fr σ => ∃ i m : Nat, i + n = l.length ∧ 2 ≤ m ∧ NoFault (l.take i) ∧ σ = mkSt [(0, [vi 0, vi 0]), (1, [vi (bstF (ahG false) (l.take i)).1, vi (bstF (ahG false) (l.take i)).2])] [] m ∧ fr = frm 60 [(0, .vsl (l.map vl)), (1, vb false), (4, .ptr 0 0), (5, .ptr 1 0), (6, vi (i : Nat))]) l.length ?_ ?_)
    · refine ⟨mkSt [(0, [vi 0, vi 0]), (1, [vi 0, vi 0])] [] 2, le_mkSt (by simp [σ0]) (by simp) (by simp [σ0]), 0, 2, by omega, by omega, by simp [NoFault], ?_, by simp⟩
      simp [bstF]
    · rintro n fr σ ⟨i, m, hi, hm, hnf, rfl, rfl⟩
      simp
      refine aw_seq (aw_seq (aw_run [4, 5] ?_))
      simp -implicitDefEqProofs [List.lookup]
      refine aw_cond rfl (fun h => aw_skip ?_) (fun h => aw_exit ?_)
      · have hlt : i < l.length := by simp at h; omega
        obtain ⟨x, hx⟩ : ∃ x, l[i]? = some x := ⟨l[i], by simp [hlt]⟩
        have hnx : IntKind.i64.wrap ((i : Int) + 1) = ((i + 1 : Nat) : Int) := by rw [wrap_id (by omega) (by omega)]; simp
        have he : l.take (i + 1) = l.take i ++ [x] := by rw [List.take_add_one, hx]; rfl
        simp -implicitDefEqProofs [List.lookup]
        by_cases hxf : x.2 = 0
        · have hnf2 : NoFault (l.take (i + 1)) := by
            intro v hv
            rw [he, List.mem_append] at hv
            rcases hv with hv | hv
            · exact hnf v hv
            · obtain rfl : v = x := by simpa using hv
              simp [isFault, hxf]
          by_cases hi0 : i = 0
          · subst hi0
            repeat' (first
              | refine aw_seq ?_
              | (refine aw_run [4, 5] ?_; simp -implicitDefEqProofs [List.lookup, hx, hxf, vl])
              | (refine aw_ymix [4, 5] draws (by decide +kernel) ?_; simp -implicitDefEqProofs [List.lookup, hx, hxf, vl])
              | (refine aw_yrun draws (by kernel_rfl) ?_; simp -implicitDefEqProofs [List.lookup, hx, hxf, vl])
              | (refine awl_skip' [4, 5] rfl ?_; simp -implicitDefEqProofs [List.lookup, hx, hxf, vl])
              | (refine aw_cond rfl (fun h => ?_) (fun h => ?_) <;> try (with_reducible first | exact ff_tt h | exact tt_ff h))
              | (refine aw_skip ?_; simp -implicitDefEqProofs [List.lookup, hx, hxf, vl])
              | refine aw_block ?_
              | (refine aw_exit ?_; simp -implicitDefEqProofs [List.lookup, hx, hxf, vl])
              | refine aw_ret (ret_of (.inr rfl) (by simp [Tryd.results49]; rfl) (Fin.of ?_)))
            have hb0 : bstF (ahG false) (l.take (0 + 1)) = x := by rw [he]; rfl
            exact ⟨n - 1, by omega, mkSt [(0, [vi 0, vi 0]), (1, [vi (bstF (ahG false) (l.take (0 + 1))).1, vi (bstF (ahG false) (l.take (0 + 1))).2])] [] m, le_mkSt (by rw [hb0]; simp [List.lookup, hxf]) (by simp) (by simp), 0 + 1, by omega, m, by omega, hnf2, rfl, by simpa using hnx⟩
          · have hne : l.take i ≠ [] := by
              intro e
              have := congrArg List.length e
              rw [List.length_take, List.length_nil] at this
              omega
            have hbs : bstF (ahG false) (l.take (i + 1)) = bstS (ahG false) (bstF (ahG false) (l.take i)) x := by rw [he, bstF_snoc, if_neg hne]
            have hi1 : ¬ (i : Int) = 0 := by omega
            by_cases ha : x.1 < (bstF (ahG false) (l.take i)).1
            · have ha' : ahG false x.1 (bstF (ahG false) (l.take i)).1 = true := by simp [ahG, ha]
              repeat' (first
                | refine aw_seq ?_
                | (refine aw_run [4, 5] ?_; simp -implicitDefEqProofs [List.lookup, hx, hxf, hi0, hi1, vl, ha])
                | (refine aw_ymix [4, 5] draws (by decide +kernel) ?_; simp -implicitDefEqProofs [List.lookup, hx, hxf, hi0, hi1, vl, ha])
                | (refine aw_yrun draws (by kernel_rfl) ?_; simp -implicitDefEqProofs [List.lookup, hx, hxf, hi0, hi1, vl, ha])
                | (refine awl_skip' [4, 5] rfl ?_; simp -implicitDefEqProofs [List.lookup, hx, hxf, hi0, hi1, vl, ha])
                | (refine aw_cond rfl (fun h => ?_) (fun h => ?_) <;> try (with_reducible first | exact ff_tt h | exact tt_ff h))
                | (refine aw_skip ?_; simp -implicitDefEqProofs [List.lookup, hx, hxf, hi0, hi1, vl, ha])
                | refine aw_block ?_
                | (refine aw_exit ?_; simp -implicitDefEqProofs [List.lookup, hx, hxf, hi0, hi1, vl, ha])
                | refine aw_ret (ret_of (.inr rfl) (by simp [Tryd.results49]; rfl) (Fin.of ?_)))
              have hb0 : bstF (ahG false) (l.take (i + 1)) = x := by rw [hbs, bstS, if_pos ha']
              exact ⟨n - 1, by omega, mkSt [(0, [vi 0, vi 0]), (1, [vi (bstF (ahG false) (l.take (i + 1))).1, vi (bstF (ahG false) (l.take (i + 1))).2])] [] m, le_mkSt (by rw [hb0]; simp [List.lookup, hxf]) (by simp) (by simp), i + 1, by omega, m, by omega, hnf2, rfl, by simp [hnx]⟩
            · have ha' : ahG false x.1 (bstF (ahG false) (l.take i)).1 = false := by simp [ahG, ha]
              repeat' (first
                | refine aw_seq ?_
                | (refine aw_run [4, 5] ?_; simp -implicitDefEqProofs [List.lookup, hx, hxf, hi0, hi1, vl, ha])
                | (refine aw_ymix [4, 5] draws (by decide +kernel) ?_; simp -implicitDefEqProofs [List.lookup, hx, hxf, hi0, hi1, vl, ha])
                | (refine aw_yrun draws (by kernel_rfl) ?_; simp -implicitDefEqProofs [List.lookup, hx, hxf, hi0, hi1, vl, ha])
                | (refine awl_skip' [4, 5] rfl ?_; simp -implicitDefEqProofs [List.lookup, hx, hxf, hi0, hi1, vl, ha])
                | (refine aw_cond rfl (fun h => ?_) (fun h => ?_) <;> try (with_reducible first | exact ff_tt h | exact tt_ff h))
                | (refine aw_skip ?_; simp -implicitDefEqProofs [List.lookup, hx, hxf, hi0, hi1, vl, ha])
                | refine aw_block ?_
                | (refine aw_exit ?_; simp -implicitDefEqProofs [List.lookup, hx, hxf, hi0, hi1, vl, ha])
                | refine aw_ret (ret_of (.inr rfl) (by simp [Tryd.results49]; rfl) (Fin.of ?_)))
              have hb0 : bstF (ahG false) (l.take (i + 1)) = bstF (ahG false) (l.take i) := by rw [hbs, bstS, if_neg (by simp [ha'])]
              exact ⟨n - 1, by omega, mkSt [(0, [vi 0, vi 0]), (1, [vi (bstF (ahG false) (l.take (i + 1))).1, vi (bstF (ahG false) (l.take (i + 1))).2])] [] m, le_mkSt (by rw [hb0]; simp [List.lookup]) (by simp) (by simp), i + 1, by omega, m, by omega, hnf2, rfl, by simp [hnx]⟩
        · repeat' (first
            | refine aw_seq ?_
            | (refine aw_run [4, 5] ?_; simp -implicitDefEqProofs [List.lookup, hx, hxf, vl])
            | (refine aw_ymix [4, 5] draws (by decide +kernel) ?_; simp -implicitDefEqProofs [List.lookup, hx, hxf, vl])
            | (refine aw_yrun draws (by kernel_rfl) ?_; simp -implicitDefEqProofs [List.lookup, hx, hxf, vl])
            | (refine awl_skip' [4, 5] rfl ?_; simp -implicitDefEqProofs [List.lookup, hx, hxf, vl])
            | (refine aw_cond rfl (fun h => ?_) (fun h => ?_) <;> try (with_reducible first | exact ff_tt h | exact tt_ff h))
            | (refine aw_skip ?_; simp -implicitDefEqProofs [List.lookup, hx, hxf, vl])
            | refine aw_block ?_
            | (refine aw_exit ?_; simp -implicitDefEqProofs [List.lookup, hx, hxf, vl])
            | refine aw_ret (ret_of (.inr rfl) (by simp [Tryd.results49]; rfl) (Fin.of ?_)))
          have hfd : l.find? isFault = some x := by
            have e : l = l.take i ++ x :: l.drop (i + 1) := by
              have h1 := (List.take_append_drop i l).symm
              rw [List.drop_eq_getElem_cons hlt] at h1
              have h2 : l[i] = x := (List.getElem?_eq_some_iff.1 hx).2
              rwa [h2] at h1
            rw [e, List.find?_append, List.find?_eq_none.2 (fun v hv => by simp [hnf v hv])]
            simp [isFault, hxf]
          simp [tupOf, bestV, hfd, vl]
      · have hi2 : i = l.length := by simp at h; omega
        subst hi2
        simp -implicitDefEqProofs [List.lookup]
        repeat' (first
          | refine aw_seq ?_
          | (refine aw_run [4, 5] ?_; simp -implicitDefEqProofs [List.lookup])
          | (refine aw_ymix [4, 5] draws (by decide +kernel) ?_; simp -implicitDefEqProofs [List.lookup])
          | (refine aw_yrun draws (by kernel_rfl) ?_; simp -implicitDefEqProofs [List.lookup])
          | (refine awl_skip' [4, 5] rfl ?_; simp -implicitDefEqProofs [List.lookup])
          | (refine aw_cond rfl (fun h => ?_) (fun h => ?_) <;> try (with_reducible first | exact ff_tt h | exact tt_ff h))
          | (refine aw_skip ?_; simp -implicitDefEqProofs [List.lookup])
          | refine aw_block ?_
          | (refine aw_exit ?_; simp -implicitDefEqProofs [List.lookup])
          | refine aw_ret (ret_of (.inr rfl) (by simp [Tryd.results49]; rfl) (Fin.of ?_)))
        have hnf : NoFault l := by rwa [List.take_of_length_le (Nat.le_refl _)] at hnf
        have hfd : l.find? isFault = none := List.find?_eq_none.2 (fun v hv => by simp [hnf v hv])
        simp [tupOf, bestV, hfd, vl]
end Go.AL
