/- Parts of the proof of ShapeBack: the logic, contracts, plain laws. -/
import Derived.Test.YtadahjmamgidnaaZShapeBack26
/-! Contracts: shape.moved, Shift. -/
namespace Go.AL
open Go.Proofs
set_option linter.unusedSimpArgs false
set_option linter.unusedVariables false
def MovedS (x y : Int) (t : Tree) : Prop := t.sh → tszT t ≤ 1000000000 → APure Try.prog 42 [t.av, place x y] (movedT x y t).av
set_option maxHeartbeats 8000000 in
set_option maxRecDepth 100000 in
theorem smoved_ok (x y : Int) (hx : In64 x) (hy : In64 y) : ∀ t, MovedS x y t := by
  refine Tree.byKids fun k n a b c d w ks ih => ?_
  intro hsh hsz
  have hrd : APure Try.prog 45 [(Tree.mk k n a b c d w ks).av] (vb (decide (k = 1) || decide (k = 6))) := reads_ok _
  rw [Tree.sh, shs_all] at hsh
  obtain ⟨hlk, hsh⟩ := hsh
  have hl := avs_len ks
  rw [tszT] at hsz
  have hlz := len_le_tszs ks
  rw [Tree.av] at hrd
  rw [Tree.av, movedT]
  by_cases h1 : k = 1 ∨ k = 6
  · rw [if_pos h1]
    have hx1 : APure Try.prog 70 [place a b, place x y] (.tup [place (z (moveQ a b x y) (a + x)) (z (moveQ a b x y) (b + y)), vb (moveQ a b x y)]) := move_ok a b x y hx hy
    have hx2 : APure Try.prog 70 [place c d, place x y] (.tup [place (z (moveQ c d x y) (c + x)) (z (moveQ c d x y) (d + y)), vb (moveQ c d x y)]) := move_ok c d x y hx hy
    by_cases hq : moveQ a b x y = true ∧ moveQ c d x y = true
    · rw [if_pos hq, Tree.av]
      rw [hq.1] at hx1
      rw [hq.2] at hx2
      simp only [z_true] at hx1 hx2
      rcases h1 with h1 | h1
      · subst h1
        simp only [decide_true, Bool.true_or] at hrd
        refine apure_of Try.func42 Try.ntmps42 rfl ?_
        simp only [List.length_cons, List.length_nil, List.cons_append, List.nil_append, List.replicate]
        repeat' (first
          | refine aw_seq ?_
          | ((first | refine aw_run [4, 5, 6, 8, 11] ?_ | refine aw_ymix [4, 5, 6, 8, 11] draws (by decide +kernel) ?_); try simp -implicitDefEqProofs (maxSteps := 1000000))
          | ((first | refine aw_zrun [4, 5, 6, 8, 11] [] draws (by decide +kernel) (by decide +kernel) ?_ | refine zl_skip (by simp) rfl ?_ | refine zl_pure_guard (by simp) rfl rfl rfl (by first | assumption | kernel_rfl) rfl (fun hc => by first | exact hrd | exact hx1 | exact hx2) (by simp) (by simp) (by simp) ?_ | refine zl_pure (by simp) rfl rfl rfl (by first | assumption | kernel_rfl) rfl (by first | exact hrd | exact hx1 | exact hx2) (by simp) (by simp) ?_); try simp -implicitDefEqProofs (maxSteps := 1000000); repeat first | refine zcurL (by decide +kernel) ?_ | refine zcurH (by decide +kernel) ?_ | refine zcurL' (by decide +kernel) ?_ | refine zcurH' (by decide +kernel) ?_)
          | ((first | refine aw_yrun draws (by kernel_rfl) ?_ | refine awl_skip' [4, 5, 6, 8, 11] rfl ?_ | refine yl_skip rfl ?_ | refine awl_pure_guard [4, 5, 6, 8, 11] rfl rfl rfl (by first | assumption | kernel_rfl) rfl (fun hc => by first | exact hrd | exact hx1 | exact hx2) (by simp) (by simp) (by simp) ?_ | refine yl_pureG rfl rfl rfl (by first | assumption | kernel_rfl) rfl (fun hc => by first | exact hrd | exact hx1 | exact hx2) (by simp) (by simp) (by simp) ?_ | refine awl_pure' [4, 5, 6, 8, 11] rfl rfl rfl (by first | assumption | kernel_rfl) rfl (by first | exact hrd | exact hx1 | exact hx2) (by simp) (by simp) ?_ | refine yl_pure rfl rfl rfl (by first | assumption | kernel_rfl) rfl (by first | exact hrd | exact hx1 | exact hx2) (by simp) (by simp) ?_ | refine aw_skip ?_ | refine aw_exit ?_); try simp -implicitDefEqProofs (maxSteps := 1000000))
          | (refine aw_cond rfl (fun h => ?_) (fun h => ?_) <;> try (with_reducible first | exact ff_tt h | exact tt_ff h))
          | refine aw_block ?_
          | refine aw_ret (ret_of (.inr rfl) (by simp [Try.results42]; rfl) (Fin.close (Fin.of ?_)))
          | refine ret_of (.inl rfl) (by simp [Try.results42]; rfl) (Fin.close (Fin.of ?_)))
        refine aw_openBx (b := 1) (i := 7) (cs := [vi 1, vi n, vi (a + x), vi (b + y), vi (c + x), vi (d + y), vs w, .p (.slice none 0 0)]) (by simp) rfl ?_
        simp -implicitDefEqProofs
        refine aw_loopW [3, 4, 5, 44, 45, 46] (fun q fr σ => ∃ i M id : Nat, i + q = ks.length ∧ 2 ≤ id ∧ id < M ∧ σ = mkSt [(0, [vi 0, vi 0, vi 0, vi 0, vi 0, vi 0, vs ⟨#[]⟩, .p (.slice none 0 0)]), (1, [vi 1, vi n, vi (a + x), vi (b + y), vi (c + x), vi (d + y), vs w, .hsl id 0 i])] [(id, avs (moveds x y (ks.take i)))] M ∧
          fr = frm 60 [(3, .vel [place x y] 0 0), (4, .ptr 0 0), (5, .ptr 1 0), (44, .vsl (avs ks)), (45, vi ks.length), (46, vi (i : Nat))]) ks.length ?_ ?_
        · exact ⟨mkSt [(0, [vi 0, vi 0, vi 0, vi 0, vi 0, vi 0, vs ⟨#[]⟩, .p (.slice none 0 0)]), (1, [vi 1, vi n, vi (a + x), vi (b + y), vi (c + x), vi (d + y), vs w, .hsl 4 0 0])] [(4, avs [])] (4 + 1), le_mkSt (by simp) (by simp [avs]) (by simp), 0, 4 + 1, 4, by omega, by omega, by omega, by simp [moveds], by simp [hl]⟩
        · rintro q fr σ ⟨i, M, id, hi, hid, hM, rfl, rfl⟩
          simp -implicitDefEqProofs
          have i0 : ¬ 0 = id := by omega
          have i1 : ¬ 1 = id := by omega
          have m0 : ¬ 0 = M := by omega
          have m1 : ¬ 1 = M := by omega
          have m2 : ¬ id = M := by omega
          have m3 : ¬ M = 1 := by omega
          have m4 : ¬ M = 0 := by omega
          have m5 : ¬ M = id := by omega
          have hml : (avs (moveds x y (ks.take i))).length = i := by rw [avs_len, moveds_map, List.length_map, List.length_take]; omega
          have hml' : (moveds x y (ks.take i)).length = i := by rw [moveds_map, List.length_map, List.length_take]; omega
          by_cases hlt : i < ks.length
          · have hlti : (i : Int) < ks.length := by omega
            obtain ⟨t, ht⟩ : ∃ t, ks[i] = t := ⟨_, rfl⟩
            have hmem : t ∈ ks := ht ▸ List.getElem_mem hlt
            have hts := tszs_mem hmem
            have hr := ih t hmem (hsh t hmem) (by omega)
            have hg := avs_get hlt
            rw [ht] at hg
            have hla : i < (avs ks).length := by omega
            have wi : IntKind.i64.wrap ((i : Int) + 1) = (i : Int) + 1 := wrap_id (by omega) (by omega)
            have hmv : moveds x y (ks.take (i + 1)) = moveds x y (ks.take i) ++ [movedT x y t] := by
              rw [moveds_map, moveds_map, List.take_add_one, List.getElem?_eq_getElem hlt, ht]; simp
            generalize movedT x y t = u at *
            obtain ⟨tk, tn, ta, tb, tc, td, tw, tks⟩ := t
            obtain ⟨uk, un, ua, ub, uc, ud, uw, uks⟩ := u
            rw [Tree.av] at hr hg
            rw [Tree.av] at hr
            repeat' (first
              | refine aw_seq ?_
              | ((first | refine aw_run [4, 5, 6, 8, 11] ?_ | refine aw_ymix [4, 5, 6, 8, 11] draws (by decide +kernel) ?_); try simp -implicitDefEqProofs (maxSteps := 1000000) [List.lookup, hl, hlti, hla, hg, wi, i0, i1, m0, m1, m2, m3, m4, m5])
              | ((first | refine aw_zrun [4, 5, 6, 8, 11] [] draws (by decide +kernel) (by decide +kernel) ?_ | refine zl_skip (by simp) rfl ?_ | refine zl_pure_guard (by simp) rfl rfl rfl (by first | assumption | kernel_rfl) rfl (fun hc => by first | exact hr) (by simp) (by simp) (by simp) ?_ | refine zl_pure (by simp) rfl rfl rfl (by first | assumption | kernel_rfl) rfl (by first | exact hr) (by simp) (by simp) ?_); try simp -implicitDefEqProofs (maxSteps := 1000000) [List.lookup, hl, hlti, hla, hg, wi, i0, i1, m0, m1, m2, m3, m4, m5]; repeat first | refine zcurL (by decide +kernel) ?_ | refine zcurH (by decide +kernel) ?_ | refine zcurL' (by decide +kernel) ?_ | refine zcurH' (by decide +kernel) ?_)
              | ((first | refine aw_yrun draws (by kernel_rfl) ?_ | refine awl_skip' [4, 5, 6, 8, 11] rfl ?_ | refine yl_skip rfl ?_ | refine awl_pure_guard [4, 5, 6, 8, 11] rfl rfl rfl (by first | assumption | kernel_rfl) rfl (fun hc => by first | exact hr) (by simp) (by simp) (by simp) ?_ | refine yl_pureG rfl rfl rfl (by first | assumption | kernel_rfl) rfl (fun hc => by first | exact hr) (by simp) (by simp) (by simp) ?_ | refine awl_pure' [4, 5, 6, 8, 11] rfl rfl rfl (by first | assumption | kernel_rfl) rfl (by first | exact hr) (by simp) (by simp) ?_ | refine yl_pure rfl rfl rfl (by first | assumption | kernel_rfl) rfl (by first | exact hr) (by simp) (by simp) ?_ | refine aw_skip ?_ | refine aw_exit ?_); try simp -implicitDefEqProofs (maxSteps := 1000000) [List.lookup, hl, hlti, hla, hg, wi, i0, i1, m0, m1, m2, m3, m4, m5])
              | (refine aw_cond rfl (fun h => ?_) (fun h => ?_) <;> try (with_reducible first | exact ff_tt h | exact tt_ff h))
              | refine aw_block ?_
              | refine aw_ret (ret_of (.inr rfl) (by simp [Try.results42]; rfl) (Fin.of ?_))
              | refine ret_of (.inl rfl) (by simp [Try.results42]; rfl) (Fin.of ?_))
            refine zl_append (by simp) rfl rfl rfl (xs := avs (moveds x y (ks.take i))) (by simp) (by simp [hml]) rfl (by simp) te27 tet27 tz29 rfl (fun y hy => (avs_ok _ y hy).1) (by simp) (by simp; omega) (by simp; omega) ?_
            simp -implicitDefEqProofs [List.lookup, i0, i1, m0, m1, m2, m3, m4, m5]
            repeat first | refine zcurL (by decide +kernel) ?_ | refine zcurH (by decide +kernel) ?_ | refine zcurL' (by decide +kernel) ?_ | refine zcurH' (by decide +kernel) ?_
            repeat' (first
              | refine aw_seq ?_
              | ((first | refine aw_run [4, 5, 6, 8, 11] ?_ | refine aw_ymix [4, 5, 6, 8, 11] draws (by decide +kernel) ?_); try simp -implicitDefEqProofs (maxSteps := 1000000) [List.lookup, hl, wi, i0, i1, m0, m1, m2, m3, m4, m5])
              | ((first | refine aw_zrun [4, 5, 6, 8, 11] [] draws (by decide +kernel) (by decide +kernel) ?_ | refine zl_skip (by simp) rfl ?_); try simp -implicitDefEqProofs (maxSteps := 1000000) [List.lookup, hl, wi, i0, i1, m0, m1, m2, m3, m4, m5]; repeat first | refine zcurL (by decide +kernel) ?_ | refine zcurH (by decide +kernel) ?_ | refine zcurL' (by decide +kernel) ?_ | refine zcurH' (by decide +kernel) ?_)
              | ((first | refine aw_yrun draws (by kernel_rfl) ?_ | refine awl_skip' [4, 5, 6, 8, 11] rfl ?_ | refine yl_skip rfl ?_ | refine aw_skip ?_ | refine aw_exit ?_); try simp -implicitDefEqProofs (maxSteps := 1000000) [List.lookup, hl, wi, i0, i1, m0, m1, m2, m3, m4, m5])
              | (refine aw_cond rfl (fun h => ?_) (fun h => ?_) <;> try (with_reducible first | exact ff_tt h | exact tt_ff h))
              | refine aw_block ?_
              | refine aw_ret (ret_of (.inr rfl) (by simp [Try.results42]; rfl) (Fin.of ?_))
              | refine ret_of (.inl rfl) (by simp [Try.results42]; rfl) (Fin.of ?_))
            refine ⟨q - 1, by omega, mkSt [(0, [vi 0, vi 0, vi 0, vi 0, vi 0, vi 0, vs ⟨#[]⟩, .p (.slice none 0 0)]), (1, [vi 1, vi n, vi (a + x), vi (b + y), vi (c + x), vi (d + y), vs w, .hsl (M + 1) 0 (i + 1)])] [(M + 1, avs (moveds x y (ks.take (i + 1))))] (M + 2), le_mkSt ?_ ?_ (by simp), i + 1, by omega, M + 2, M + 1, by omega, by omega, rfl, by omega⟩
            · simp [List.lookup, i0, i1, m0, m1, m2, m3, m4, m5]
            · simp [hmv, avs_map, Tree.av, List.take_of_length_le, hml']
          · have hlti : ¬ (i : Int) < ks.length := by omega
            have htk : ks.take i = ks := List.take_of_length_le (by omega)
            repeat' (first
              | refine aw_seq ?_
              | ((first | refine aw_run [4, 5, 6, 8, 11] ?_ | refine aw_ymix [4, 5, 6, 8, 11] draws (by decide +kernel) ?_); try simp -implicitDefEqProofs (maxSteps := 1000000) [List.lookup, hl, hlti, i0, i1])
              | ((first | refine aw_zrun [4, 5, 6, 8, 11] [] draws (by decide +kernel) (by decide +kernel) ?_ | refine zl_skip (by simp) rfl ?_); try simp -implicitDefEqProofs (maxSteps := 1000000) [List.lookup, hl, hlti, i0, i1]; repeat first | refine zcurL (by decide +kernel) ?_ | refine zcurH (by decide +kernel) ?_ | refine zcurL' (by decide +kernel) ?_ | refine zcurH' (by decide +kernel) ?_)
              | ((first | refine aw_yrun draws (by kernel_rfl) ?_ | refine awl_skip' [4, 5, 6, 8, 11] rfl ?_ | refine yl_skip rfl ?_ | refine aw_skip ?_ | refine aw_exit ?_); try simp -implicitDefEqProofs (maxSteps := 1000000) [List.lookup, hl, hlti, i0, i1])
              | (refine aw_cond rfl (fun h => ?_) (fun h => ?_) <;> try (with_reducible first | exact ff_tt h | exact tt_ff h))
              | refine aw_block ?_
              | refine aw_ret (ret_of (.inr rfl) (by simp [Try.results42]; rfl) (Fin.close (Fin.of ?_)))
              | refine ret_of (.inl rfl) (by simp [Try.results42]; rfl) (Fin.close (Fin.of ?_)))
            rw [htk] at hml
            simp [tupOf, List.lookup, htk, List.take_of_length_le, hml]
      · subst h1
        simp only [decide_true, Bool.or_true] at hrd
        refine apure_of Try.func42 Try.ntmps42 rfl ?_
        simp only [List.length_cons, List.length_nil, List.cons_append, List.nil_append, List.replicate]
        repeat' (first
          | refine aw_seq ?_
          | ((first | refine aw_run [4, 5, 6, 8, 11] ?_ | refine aw_ymix [4, 5, 6, 8, 11] draws (by decide +kernel) ?_); try simp -implicitDefEqProofs (maxSteps := 1000000))
          | ((first | refine aw_zrun [4, 5, 6, 8, 11] [] draws (by decide +kernel) (by decide +kernel) ?_ | refine zl_skip (by simp) rfl ?_ | refine zl_pure_guard (by simp) rfl rfl rfl (by first | assumption | kernel_rfl) rfl (fun hc => by first | exact hrd | exact hx1 | exact hx2) (by simp) (by simp) (by simp) ?_ | refine zl_pure (by simp) rfl rfl rfl (by first | assumption | kernel_rfl) rfl (by first | exact hrd | exact hx1 | exact hx2) (by simp) (by simp) ?_); try simp -implicitDefEqProofs (maxSteps := 1000000); repeat first | refine zcurL (by decide +kernel) ?_ | refine zcurH (by decide +kernel) ?_ | refine zcurL' (by decide +kernel) ?_ | refine zcurH' (by decide +kernel) ?_)
          | ((first | refine aw_yrun draws (by kernel_rfl) ?_ | refine awl_skip' [4, 5, 6, 8, 11] rfl ?_ | refine yl_skip rfl ?_ | refine awl_pure_guard [4, 5, 6, 8, 11] rfl rfl rfl (by first | assumption | kernel_rfl) rfl (fun hc => by first | exact hrd | exact hx1 | exact hx2) (by simp) (by simp) (by simp) ?_ | refine yl_pureG rfl rfl rfl (by first | assumption | kernel_rfl) rfl (fun hc => by first | exact hrd | exact hx1 | exact hx2) (by simp) (by simp) (by simp) ?_ | refine awl_pure' [4, 5, 6, 8, 11] rfl rfl rfl (by first | assumption | kernel_rfl) rfl (by first | exact hrd | exact hx1 | exact hx2) (by simp) (by simp) ?_ | refine yl_pure rfl rfl rfl (by first | assumption | kernel_rfl) rfl (by first | exact hrd | exact hx1 | exact hx2) (by simp) (by simp) ?_ | refine aw_skip ?_ | refine aw_exit ?_); try simp -implicitDefEqProofs (maxSteps := 1000000))
          | (refine aw_cond rfl (fun h => ?_) (fun h => ?_) <;> try (with_reducible first | exact ff_tt h | exact tt_ff h))
          | refine aw_block ?_
          | refine aw_ret (ret_of (.inr rfl) (by simp [Try.results42]; rfl) (Fin.close (Fin.of ?_)))
          | refine ret_of (.inl rfl) (by simp [Try.results42]; rfl) (Fin.close (Fin.of ?_)))
        refine aw_openBx (b := 1) (i := 7) (cs := [vi 6, vi n, vi (a + x), vi (b + y), vi (c + x), vi (d + y), vs w, .p (.slice none 0 0)]) (by simp) rfl ?_
        simp -implicitDefEqProofs
        refine aw_loopW [3, 4, 5, 44, 45, 46] (fun q fr σ => ∃ i M id : Nat, i + q = ks.length ∧ 2 ≤ id ∧ id < M ∧ σ = mkSt [(0, [vi 0, vi 0, vi 0, vi 0, vi 0, vi 0, vs ⟨#[]⟩, .p (.slice none 0 0)]), (1, [vi 6, vi n, vi (a + x), vi (b + y), vi (c + x), vi (d + y), vs w, .hsl id 0 i])] [(id, avs (moveds x y (ks.take i)))] M ∧
          fr = frm 60 [(3, .vel [place x y] 0 0), (4, .ptr 0 0), (5, .ptr 1 0), (44, .vsl (avs ks)), (45, vi ks.length), (46, vi (i : Nat))]) ks.length ?_ ?_
        · exact ⟨mkSt [(0, [vi 0, vi 0, vi 0, vi 0, vi 0, vi 0, vs ⟨#[]⟩, .p (.slice none 0 0)]), (1, [vi 6, vi n, vi (a + x), vi (b + y), vi (c + x), vi (d + y), vs w, .hsl 4 0 0])] [(4, avs [])] (4 + 1), le_mkSt (by simp) (by simp [avs]) (by simp), 0, 4 + 1, 4, by omega, by omega, by omega, by simp [moveds], by simp [hl]⟩
        · rintro q fr σ ⟨i, M, id, hi, hid, hM, rfl, rfl⟩
          simp -implicitDefEqProofs
          have i0 : ¬ 0 = id := by omega
          have i1 : ¬ 1 = id := by omega
          have m0 : ¬ 0 = M := by omega
          have m1 : ¬ 1 = M := by omega
          have m2 : ¬ id = M := by omega
          have m3 : ¬ M = 1 := by omega
          have m4 : ¬ M = 0 := by omega
          have m5 : ¬ M = id := by omega
          have hml : (avs (moveds x y (ks.take i))).length = i := by rw [avs_len, moveds_map, List.length_map, List.length_take]; omega
          have hml' : (moveds x y (ks.take i)).length = i := by rw [moveds_map, List.length_map, List.length_take]; omega
          by_cases hlt : i < ks.length
          · have hlti : (i : Int) < ks.length := by omega
            obtain ⟨t, ht⟩ : ∃ t, ks[i] = t := ⟨_, rfl⟩
            have hmem : t ∈ ks := ht ▸ List.getElem_mem hlt
            have hts := tszs_mem hmem
            have hr := ih t hmem (hsh t hmem) (by omega)
            have hg := avs_get hlt
            rw [ht] at hg
            have hla : i < (avs ks).length := by omega
            have wi : IntKind.i64.wrap ((i : Int) + 1) = (i : Int) + 1 := wrap_id (by omega) (by omega)
            have hmv : moveds x y (ks.take (i + 1)) = moveds x y (ks.take i) ++ [movedT x y t] := by
              rw [moveds_map, moveds_map, List.take_add_one, List.getElem?_eq_getElem hlt, ht]; simp
            generalize movedT x y t = u at *
            obtain ⟨tk, tn, ta, tb, tc, td, tw, tks⟩ := t
            obtain ⟨uk, un, ua, ub, uc, ud, uw, uks⟩ := u
            rw [Tree.av] at hr hg
            rw [Tree.av] at hr
            repeat' (first
              | refine aw_seq ?_
              | ((first | refine aw_run [4, 5, 6, 8, 11] ?_ | refine aw_ymix [4, 5, 6, 8, 11] draws (by decide +kernel) ?_); try simp -implicitDefEqProofs (maxSteps := 1000000) [List.lookup, hl, hlti, hla, hg, wi, i0, i1, m0, m1, m2, m3, m4, m5])
              | ((first | refine aw_zrun [4, 5, 6, 8, 11] [] draws (by decide +kernel) (by decide +kernel) ?_ | refine zl_skip (by simp) rfl ?_ | refine zl_pure_guard (by simp) rfl rfl rfl (by first | assumption | kernel_rfl) rfl (fun hc => by first | exact hr) (by simp) (by simp) (by simp) ?_ | refine zl_pure (by simp) rfl rfl rfl (by first | assumption | kernel_rfl) rfl (by first | exact hr) (by simp) (by simp) ?_); try simp -implicitDefEqProofs (maxSteps := 1000000) [List.lookup, hl, hlti, hla, hg, wi, i0, i1, m0, m1, m2, m3, m4, m5]; repeat first | refine zcurL (by decide +kernel) ?_ | refine zcurH (by decide +kernel) ?_ | refine zcurL' (by decide +kernel) ?_ | refine zcurH' (by decide +kernel) ?_)
              | ((first | refine aw_yrun draws (by kernel_rfl) ?_ | refine awl_skip' [4, 5, 6, 8, 11] rfl ?_ | refine yl_skip rfl ?_ | refine awl_pure_guard [4, 5, 6, 8, 11] rfl rfl rfl (by first | assumption | kernel_rfl) rfl (fun hc => by first | exact hr) (by simp) (by simp) (by simp) ?_ | refine yl_pureG rfl rfl rfl (by first | assumption | kernel_rfl) rfl (fun hc => by first | exact hr) (by simp) (by simp) (by simp) ?_ | refine awl_pure' [4, 5, 6, 8, 11] rfl rfl rfl (by first | assumption | kernel_rfl) rfl (by first | exact hr) (by simp) (by simp) ?_ | refine yl_pure rfl rfl rfl (by first | assumption | kernel_rfl) rfl (by first | exact hr) (by simp) (by simp) ?_ | refine aw_skip ?_ | refine aw_exit ?_); try simp -implicitDefEqProofs (maxSteps := 1000000) [List.lookup, hl, hlti, hla, hg, wi, i0, i1, m0, m1, m2, m3, m4, m5])
              | (refine aw_cond rfl (fun h => ?_) (fun h => ?_) <;> try (with_reducible first | exact ff_tt h | exact tt_ff h))
              | refine aw_block ?_
              | refine aw_ret (ret_of (.inr rfl) (by simp [Try.results42]; rfl) (Fin.of ?_))
              | refine ret_of (.inl rfl) (by simp [Try.results42]; rfl) (Fin.of ?_))
            refine zl_append (by simp) rfl rfl rfl (xs := avs (moveds x y (ks.take i))) (by simp) (by simp [hml]) rfl (by simp) te27 tet27 tz29 rfl (fun y hy => (avs_ok _ y hy).1) (by simp) (by simp; omega) (by simp; omega) ?_
            simp -implicitDefEqProofs [List.lookup, i0, i1, m0, m1, m2, m3, m4, m5]
            repeat first | refine zcurL (by decide +kernel) ?_ | refine zcurH (by decide +kernel) ?_ | refine zcurL' (by decide +kernel) ?_ | refine zcurH' (by decide +kernel) ?_
            repeat' (first
              | refine aw_seq ?_
              | ((first | refine aw_run [4, 5, 6, 8, 11] ?_ | refine aw_ymix [4, 5, 6, 8, 11] draws (by decide +kernel) ?_); try simp -implicitDefEqProofs (maxSteps := 1000000) [List.lookup, hl, wi, i0, i1, m0, m1, m2, m3, m4, m5])
              | ((first | refine aw_zrun [4, 5, 6, 8, 11] [] draws (by decide +kernel) (by decide +kernel) ?_ | refine zl_skip (by simp) rfl ?_); try simp -implicitDefEqProofs (maxSteps := 1000000) [List.lookup, hl, wi, i0, i1, m0, m1, m2, m3, m4, m5]; repeat first | refine zcurL (by decide +kernel) ?_ | refine zcurH (by decide +kernel) ?_ | refine zcurL' (by decide +kernel) ?_ | refine zcurH' (by decide +kernel) ?_)
              | ((first | refine aw_yrun draws (by kernel_rfl) ?_ | refine awl_skip' [4, 5, 6, 8, 11] rfl ?_ | refine yl_skip rfl ?_ | refine aw_skip ?_ | refine aw_exit ?_); try simp -implicitDefEqProofs (maxSteps := 1000000) [List.lookup, hl, wi, i0, i1, m0, m1, m2, m3, m4, m5])
              | (refine aw_cond rfl (fun h => ?_) (fun h => ?_) <;> try (with_reducible first | exact ff_tt h | exact tt_ff h))
              | refine aw_block ?_
              | refine aw_ret (ret_of (.inr rfl) (by simp [Try.results42]; rfl) (Fin.of ?_))
              | refine ret_of (.inl rfl) (by simp [Try.results42]; rfl) (Fin.of ?_))
            refine ⟨q - 1, by omega, mkSt [(0, [vi 0, vi 0, vi 0, vi 0, vi 0, vi 0, vs ⟨#[]⟩, .p (.slice none 0 0)]), (1, [vi 6, vi n, vi (a + x), vi (b + y), vi (c + x), vi (d + y), vs w, .hsl (M + 1) 0 (i + 1)])] [(M + 1, avs (moveds x y (ks.take (i + 1))))] (M + 2), le_mkSt ?_ ?_ (by simp), i + 1, by omega, M + 2, M + 1, by omega, by omega, rfl, by omega⟩
            · simp [List.lookup, i0, i1, m0, m1, m2, m3, m4, m5]
            · simp [hmv, avs_map, Tree.av, List.take_of_length_le, hml']
          · have hlti : ¬ (i : Int) < ks.length := by omega
            have htk : ks.take i = ks := List.take_of_length_le (by omega)
            repeat' (first
              | refine aw_seq ?_
              | ((first | refine aw_run [4, 5, 6, 8, 11] ?_ | refine aw_ymix [4, 5, 6, 8, 11] draws (by decide +kernel) ?_); try simp -implicitDefEqProofs (maxSteps := 1000000) [List.lookup, hl, hlti, i0, i1])
              | ((first | refine aw_zrun [4, 5, 6, 8, 11] [] draws (by decide +kernel) (by decide +kernel) ?_ | refine zl_skip (by simp) rfl ?_); try simp -implicitDefEqProofs (maxSteps := 1000000) [List.lookup, hl, hlti, i0, i1]; repeat first | refine zcurL (by decide +kernel) ?_ | refine zcurH (by decide +kernel) ?_ | refine zcurL' (by decide +kernel) ?_ | refine zcurH' (by decide +kernel) ?_)
              | ((first | refine aw_yrun draws (by kernel_rfl) ?_ | refine awl_skip' [4, 5, 6, 8, 11] rfl ?_ | refine yl_skip rfl ?_ | refine aw_skip ?_ | refine aw_exit ?_); try simp -implicitDefEqProofs (maxSteps := 1000000) [List.lookup, hl, hlti, i0, i1])
              | (refine aw_cond rfl (fun h => ?_) (fun h => ?_) <;> try (with_reducible first | exact ff_tt h | exact tt_ff h))
              | refine aw_block ?_
              | refine aw_ret (ret_of (.inr rfl) (by simp [Try.results42]; rfl) (Fin.close (Fin.of ?_)))
              | refine ret_of (.inl rfl) (by simp [Try.results42]; rfl) (Fin.close (Fin.of ?_)))
            rw [htk] at hml
            simp [tupOf, List.lookup, htk, List.take_of_length_le, hml]
    · rw [if_neg hq]
      have hrd : APure Try.prog 45 [.agg [vi k, vi n, vi a, vi b, vi c, vi d, vs w, .vsl (avs ks)]] (vb true) := by
        have e : (decide (k = 1) || decide (k = 6)) = true := by rcases h1 with h | h <;> simp [h]
        rw [e] at hrd; exact hrd
      generalize moveQ a b x y = p1 at *
      generalize moveQ c d x y = p2 at *
      cases p1 with
      | false =>
        refine apure_of Try.func42 Try.ntmps42 rfl ?_
        simp only [List.length_cons, List.length_nil, List.cons_append, List.nil_append, List.replicate]
        repeat' (first
          | refine aw_seq ?_
          | ((first | refine aw_run [4, 5, 6, 8, 11] ?_ | refine aw_ymix [4, 5, 6, 8, 11] draws (by decide +kernel) ?_); try simp -implicitDefEqProofs (maxSteps := 1000000))
          | ((first | refine aw_zrun [4, 5, 6, 8, 11] [] draws (by decide +kernel) (by decide +kernel) ?_ | refine zl_skip (by simp) rfl ?_ | refine zl_pure_guard (by simp) rfl rfl rfl (by first | assumption | kernel_rfl) rfl (fun hc => by first | exact hrd | exact hx1 | exact hx2) (by simp) (by simp) (by simp) ?_ | refine zl_pure (by simp) rfl rfl rfl (by first | assumption | kernel_rfl) rfl (by first | exact hrd | exact hx1 | exact hx2) (by simp) (by simp) ?_); try simp -implicitDefEqProofs (maxSteps := 1000000); repeat first | refine zcurL (by decide +kernel) ?_ | refine zcurH (by decide +kernel) ?_ | refine zcurL' (by decide +kernel) ?_ | refine zcurH' (by decide +kernel) ?_)
          | ((first | refine aw_yrun draws (by kernel_rfl) ?_ | refine awl_skip' [4, 5, 6, 8, 11] rfl ?_ | refine yl_skip rfl ?_ | refine awl_pure_guard [4, 5, 6, 8, 11] rfl rfl rfl (by first | assumption | kernel_rfl) rfl (fun hc => by first | exact hrd | exact hx1 | exact hx2) (by simp) (by simp) (by simp) ?_ | refine yl_pureG rfl rfl rfl (by first | assumption | kernel_rfl) rfl (fun hc => by first | exact hrd | exact hx1 | exact hx2) (by simp) (by simp) (by simp) ?_ | refine awl_pure' [4, 5, 6, 8, 11] rfl rfl rfl (by first | assumption | kernel_rfl) rfl (by first | exact hrd | exact hx1 | exact hx2) (by simp) (by simp) ?_ | refine yl_pure rfl rfl rfl (by first | assumption | kernel_rfl) rfl (by first | exact hrd | exact hx1 | exact hx2) (by simp) (by simp) ?_ | refine aw_skip ?_ | refine aw_exit ?_); try simp -implicitDefEqProofs (maxSteps := 1000000))
          | (refine aw_cond rfl (fun h => ?_) (fun h => ?_) <;> try (with_reducible first | exact ff_tt h | exact tt_ff h))
          | refine aw_block ?_
          | refine aw_ret (ret_of (.inr rfl) (by simp [Try.results42]; rfl) (Fin.close (Fin.of ?_)))
          | refine ret_of (.inl rfl) (by simp [Try.results42]; rfl) (Fin.close (Fin.of ?_)))
        all_goals first | (simp [tupOf, badT, Tree.av, avs]; done) | (simp at *; done) | trace_state
      | true =>
        cases p2 with
        | true => exact absurd ⟨rfl, rfl⟩ hq
        | false =>
          refine apure_of Try.func42 Try.ntmps42 rfl ?_
          simp only [List.length_cons, List.length_nil, List.cons_append, List.nil_append, List.replicate]
          repeat' (first
            | refine aw_seq ?_
            | ((first | refine aw_run [4, 5, 6, 8, 11] ?_ | refine aw_ymix [4, 5, 6, 8, 11] draws (by decide +kernel) ?_); try simp -implicitDefEqProofs (maxSteps := 1000000))
            | ((first | refine aw_zrun [4, 5, 6, 8, 11] [] draws (by decide +kernel) (by decide +kernel) ?_ | refine zl_skip (by simp) rfl ?_ | refine zl_pure_guard (by simp) rfl rfl rfl (by first | assumption | kernel_rfl) rfl (fun hc => by first | exact hrd | exact hx1 | exact hx2) (by simp) (by simp) (by simp) ?_ | refine zl_pure (by simp) rfl rfl rfl (by first | assumption | kernel_rfl) rfl (by first | exact hrd | exact hx1 | exact hx2) (by simp) (by simp) ?_); try simp -implicitDefEqProofs (maxSteps := 1000000); repeat first | refine zcurL (by decide +kernel) ?_ | refine zcurH (by decide +kernel) ?_ | refine zcurL' (by decide +kernel) ?_ | refine zcurH' (by decide +kernel) ?_)
            | ((first | refine aw_yrun draws (by kernel_rfl) ?_ | refine awl_skip' [4, 5, 6, 8, 11] rfl ?_ | refine yl_skip rfl ?_ | refine awl_pure_guard [4, 5, 6, 8, 11] rfl rfl rfl (by first | assumption | kernel_rfl) rfl (fun hc => by first | exact hrd | exact hx1 | exact hx2) (by simp) (by simp) (by simp) ?_ | refine yl_pureG rfl rfl rfl (by first | assumption | kernel_rfl) rfl (fun hc => by first | exact hrd | exact hx1 | exact hx2) (by simp) (by simp) (by simp) ?_ | refine awl_pure' [4, 5, 6, 8, 11] rfl rfl rfl (by first | assumption | kernel_rfl) rfl (by first | exact hrd | exact hx1 | exact hx2) (by simp) (by simp) ?_ | refine yl_pure rfl rfl rfl (by first | assumption | kernel_rfl) rfl (by first | exact hrd | exact hx1 | exact hx2) (by simp) (by simp) ?_ | refine aw_skip ?_ | refine aw_exit ?_); try simp -implicitDefEqProofs (maxSteps := 1000000))
            | (refine aw_cond rfl (fun h => ?_) (fun h => ?_) <;> try (with_reducible first | exact ff_tt h | exact tt_ff h))
            | refine aw_block ?_
            | refine aw_ret (ret_of (.inr rfl) (by simp [Try.results42]; rfl) (Fin.close (Fin.of ?_)))
            | refine ret_of (.inl rfl) (by simp [Try.results42]; rfl) (Fin.close (Fin.of ?_)))
          all_goals first | (simp [tupOf, badT, Tree.av, avs]; done) | (simp at *; done) | trace_state
  · rw [if_neg h1, Tree.av]
    have e : (decide (k = 1) || decide (k = 6)) = false := by simpa using h1
    rw [e] at hrd
    refine apure_of Try.func42 Try.ntmps42 rfl ?_
    simp only [List.length_cons, List.length_nil, List.cons_append, List.nil_append, List.replicate]
    repeat' (first
      | refine aw_seq ?_
      | ((first | refine aw_run [4, 5, 6, 8, 11] ?_ | refine aw_ymix [4, 5, 6, 8, 11] draws (by decide +kernel) ?_); try simp -implicitDefEqProofs (maxSteps := 1000000))
      | ((first | refine aw_zrun [4, 5, 6, 8, 11] [] draws (by decide +kernel) (by decide +kernel) ?_ | refine zl_skip (by simp) rfl ?_ | refine zl_pure_guard (by simp) rfl rfl rfl (by first | assumption | kernel_rfl) rfl (fun hc => by first | exact hrd) (by simp) (by simp) (by simp) ?_ | refine zl_pure (by simp) rfl rfl rfl (by first | assumption | kernel_rfl) rfl (by first | exact hrd) (by simp) (by simp) ?_); try simp -implicitDefEqProofs (maxSteps := 1000000); repeat first | refine zcurL (by decide +kernel) ?_ | refine zcurH (by decide +kernel) ?_ | refine zcurL' (by decide +kernel) ?_ | refine zcurH' (by decide +kernel) ?_)
      | ((first | refine aw_yrun draws (by kernel_rfl) ?_ | refine awl_skip' [4, 5, 6, 8, 11] rfl ?_ | refine yl_skip rfl ?_ | refine awl_pure_guard [4, 5, 6, 8, 11] rfl rfl rfl (by first | assumption | kernel_rfl) rfl (fun hc => by first | exact hrd) (by simp) (by simp) (by simp) ?_ | refine yl_pureG rfl rfl rfl (by first | assumption | kernel_rfl) rfl (fun hc => by first | exact hrd) (by simp) (by simp) (by simp) ?_ | refine awl_pure' [4, 5, 6, 8, 11] rfl rfl rfl (by first | assumption | kernel_rfl) rfl (by first | exact hrd) (by simp) (by simp) ?_ | refine yl_pure rfl rfl rfl (by first | assumption | kernel_rfl) rfl (by first | exact hrd) (by simp) (by simp) ?_ | refine aw_skip ?_ | refine aw_exit ?_); try simp -implicitDefEqProofs (maxSteps := 1000000))
      | (refine aw_cond rfl (fun h => ?_) (fun h => ?_) <;> try (with_reducible first | exact ff_tt h | exact tt_ff h))
      | refine aw_block ?_
      | refine aw_ret (ret_of (.inr rfl) (by simp [Try.results42]; rfl) (Fin.close (Fin.of ?_)))
      | refine ret_of (.inl rfl) (by simp [Try.results42]; rfl) (Fin.close (Fin.of ?_)))
    refine aw_openBx (b := 1) (i := 7) (cs := [vi k, vi n, vi a, vi b, vi c, vi d, vs w, .p (.slice none 0 0)]) (by simp) rfl ?_
    simp -implicitDefEqProofs
    refine aw_loopW [3, 4, 5, 44, 45, 46] (fun q fr σ => ∃ i M id : Nat, i + q = ks.length ∧ 2 ≤ id ∧ id < M ∧ σ = mkSt [(0, [vi 0, vi 0, vi 0, vi 0, vi 0, vi 0, vs ⟨#[]⟩, .p (.slice none 0 0)]), (1, [vi k, vi n, vi a, vi b, vi c, vi d, vs w, .hsl id 0 i])] [(id, avs (moveds x y (ks.take i)))] M ∧
      fr = frm 60 [(3, .vel [place x y] 0 0), (4, .ptr 0 0), (5, .ptr 1 0), (44, .vsl (avs ks)), (45, vi ks.length), (46, vi (i : Nat))]) ks.length ?_ ?_
    · exact ⟨mkSt [(0, [vi 0, vi 0, vi 0, vi 0, vi 0, vi 0, vs ⟨#[]⟩, .p (.slice none 0 0)]), (1, [vi k, vi n, vi a, vi b, vi c, vi d, vs w, .hsl 2 0 0])] [(2, avs [])] (2 + 1), le_mkSt (by simp) (by simp [avs]) (by simp), 0, 2 + 1, 2, by omega, by omega, by omega, by simp [moveds], by simp [hl]⟩
    · rintro q fr σ ⟨i, M, id, hi, hid, hM, rfl, rfl⟩
      simp -implicitDefEqProofs
      have i0 : ¬ 0 = id := by omega
      have i1 : ¬ 1 = id := by omega
      have m0 : ¬ 0 = M := by omega
      have m1 : ¬ 1 = M := by omega
      have m2 : ¬ id = M := by omega
      have m3 : ¬ M = 1 := by omega
      have m4 : ¬ M = 0 := by omega
      have m5 : ¬ M = id := by omega
      have hml : (avs (moveds x y (ks.take i))).length = i := by rw [avs_len, moveds_map, List.length_map, List.length_take]; omega
      have hml' : (moveds x y (ks.take i)).length = i := by rw [moveds_map, List.length_map, List.length_take]; omega
      by_cases hlt : i < ks.length
      · have hlti : (i : Int) < ks.length := by omega
        obtain ⟨t, ht⟩ : ∃ t, ks[i] = t := ⟨_, rfl⟩
        have hmem : t ∈ ks := ht ▸ List.getElem_mem hlt
        have hts := tszs_mem hmem
        have hr := ih t hmem (hsh t hmem) (by omega)
        have hg := avs_get hlt
        rw [ht] at hg
        have hla : i < (avs ks).length := by omega
        have wi : IntKind.i64.wrap ((i : Int) + 1) = (i : Int) + 1 := wrap_id (by omega) (by omega)
        have hmv : moveds x y (ks.take (i + 1)) = moveds x y (ks.take i) ++ [movedT x y t] := by
          rw [moveds_map, moveds_map, List.take_add_one, List.getElem?_eq_getElem hlt, ht]; simp
        generalize movedT x y t = u at *
        obtain ⟨tk, tn, ta, tb, tc, td, tw, tks⟩ := t
        obtain ⟨uk, un, ua, ub, uc, ud, uw, uks⟩ := u
        rw [Tree.av] at hr hg
        rw [Tree.av] at hr
        repeat' (first
          | refine aw_seq ?_
          | ((first | refine aw_run [4, 5, 6, 8, 11] ?_ | refine aw_ymix [4, 5, 6, 8, 11] draws (by decide +kernel) ?_); try simp -implicitDefEqProofs (maxSteps := 1000000) [List.lookup, hl, hlti, hla, hg, wi, i0, i1, m0, m1, m2, m3, m4, m5])
          | ((first | refine aw_zrun [4, 5, 6, 8, 11] [] draws (by decide +kernel) (by decide +kernel) ?_ | refine zl_skip (by simp) rfl ?_ | refine zl_pure_guard (by simp) rfl rfl rfl (by first | assumption | kernel_rfl) rfl (fun hc => by first | exact hr) (by simp) (by simp) (by simp) ?_ | refine zl_pure (by simp) rfl rfl rfl (by first | assumption | kernel_rfl) rfl (by first | exact hr) (by simp) (by simp) ?_); try simp -implicitDefEqProofs (maxSteps := 1000000) [List.lookup, hl, hlti, hla, hg, wi, i0, i1, m0, m1, m2, m3, m4, m5]; repeat first | refine zcurL (by decide +kernel) ?_ | refine zcurH (by decide +kernel) ?_ | refine zcurL' (by decide +kernel) ?_ | refine zcurH' (by decide +kernel) ?_)
          | ((first | refine aw_yrun draws (by kernel_rfl) ?_ | refine awl_skip' [4, 5, 6, 8, 11] rfl ?_ | refine yl_skip rfl ?_ | refine awl_pure_guard [4, 5, 6, 8, 11] rfl rfl rfl (by first | assumption | kernel_rfl) rfl (fun hc => by first | exact hr) (by simp) (by simp) (by simp) ?_ | refine yl_pureG rfl rfl rfl (by first | assumption | kernel_rfl) rfl (fun hc => by first | exact hr) (by simp) (by simp) (by simp) ?_ | refine awl_pure' [4, 5, 6, 8, 11] rfl rfl rfl (by first | assumption | kernel_rfl) rfl (by first | exact hr) (by simp) (by simp) ?_ | refine yl_pure rfl rfl rfl (by first | assumption | kernel_rfl) rfl (by first | exact hr) (by simp) (by simp) ?_ | refine aw_skip ?_ | refine aw_exit ?_); try simp -implicitDefEqProofs (maxSteps := 1000000) [List.lookup, hl, hlti, hla, hg, wi, i0, i1, m0, m1, m2, m3, m4, m5])
          | (refine aw_cond rfl (fun h => ?_) (fun h => ?_) <;> try (with_reducible first | exact ff_tt h | exact tt_ff h))
          | refine aw_block ?_
          | refine aw_ret (ret_of (.inr rfl) (by simp [Try.results42]; rfl) (Fin.of ?_))
          | refine ret_of (.inl rfl) (by simp [Try.results42]; rfl) (Fin.of ?_))
        refine zl_append (by simp) rfl rfl rfl (xs := avs (moveds x y (ks.take i))) (by simp) (by simp [hml]) rfl (by simp) te27 tet27 tz29 rfl (fun y hy => (avs_ok _ y hy).1) (by simp) (by simp; omega) (by simp; omega) ?_
        simp -implicitDefEqProofs [List.lookup, i0, i1, m0, m1, m2, m3, m4, m5]
        repeat first | refine zcurL (by decide +kernel) ?_ | refine zcurH (by decide +kernel) ?_ | refine zcurL' (by decide +kernel) ?_ | refine zcurH' (by decide +kernel) ?_
        repeat' (first
          | refine aw_seq ?_
          | ((first | refine aw_run [4, 5, 6, 8, 11] ?_ | refine aw_ymix [4, 5, 6, 8, 11] draws (by decide +kernel) ?_); try simp -implicitDefEqProofs (maxSteps := 1000000) [List.lookup, hl, wi, i0, i1, m0, m1, m2, m3, m4, m5])
          | ((first | refine aw_zrun [4, 5, 6, 8, 11] [] draws (by decide +kernel) (by decide +kernel) ?_ | refine zl_skip (by simp) rfl ?_); try simp -implicitDefEqProofs (maxSteps := 1000000) [List.lookup, hl, wi, i0, i1, m0, m1, m2, m3, m4, m5]; repeat first | refine zcurL (by decide +kernel) ?_ | refine zcurH (by decide +kernel) ?_ | refine zcurL' (by decide +kernel) ?_ | refine zcurH' (by decide +kernel) ?_)
          | ((first | refine aw_yrun draws (by kernel_rfl) ?_ | refine awl_skip' [4, 5, 6, 8, 11] rfl ?_ | refine yl_skip rfl ?_ | refine aw_skip ?_ | refine aw_exit ?_); try simp -implicitDefEqProofs (maxSteps := 1000000) [List.lookup, hl, wi, i0, i1, m0, m1, m2, m3, m4, m5])
          | (refine aw_cond rfl (fun h => ?_) (fun h => ?_) <;> try (with_reducible first | exact ff_tt h | exact tt_ff h))
          | refine aw_block ?_
          | refine aw_ret (ret_of (.inr rfl) (by simp [Try.results42]; rfl) (Fin.of ?_))
          | refine ret_of (.inl rfl) (by simp [Try.results42]; rfl) (Fin.of ?_))
        refine ⟨q - 1, by omega, mkSt [(0, [vi 0, vi 0, vi 0, vi 0, vi 0, vi 0, vs ⟨#[]⟩, .p (.slice none 0 0)]), (1, [vi k, vi n, vi a, vi b, vi c, vi d, vs w, .hsl (M + 1) 0 (i + 1)])] [(M + 1, avs (moveds x y (ks.take (i + 1))))] (M + 2), le_mkSt ?_ ?_ (by simp), i + 1, by omega, M + 2, M + 1, by omega, by omega, rfl, by omega⟩
        · simp [List.lookup, i0, i1, m0, m1, m2, m3, m4, m5]
        · simp [hmv, avs_map, Tree.av, List.take_of_length_le, hml']
      · have hlti : ¬ (i : Int) < ks.length := by omega
        have htk : ks.take i = ks := List.take_of_length_le (by omega)
        repeat' (first
          | refine aw_seq ?_
          | ((first | refine aw_run [4, 5, 6, 8, 11] ?_ | refine aw_ymix [4, 5, 6, 8, 11] draws (by decide +kernel) ?_); try simp -implicitDefEqProofs (maxSteps := 1000000) [List.lookup, hl, hlti, i0, i1])
          | ((first | refine aw_zrun [4, 5, 6, 8, 11] [] draws (by decide +kernel) (by decide +kernel) ?_ | refine zl_skip (by simp) rfl ?_); try simp -implicitDefEqProofs (maxSteps := 1000000) [List.lookup, hl, hlti, i0, i1]; repeat first | refine zcurL (by decide +kernel) ?_ | refine zcurH (by decide +kernel) ?_ | refine zcurL' (by decide +kernel) ?_ | refine zcurH' (by decide +kernel) ?_)
          | ((first | refine aw_yrun draws (by kernel_rfl) ?_ | refine awl_skip' [4, 5, 6, 8, 11] rfl ?_ | refine yl_skip rfl ?_ | refine aw_skip ?_ | refine aw_exit ?_); try simp -implicitDefEqProofs (maxSteps := 1000000) [List.lookup, hl, hlti, i0, i1])
          | (refine aw_cond rfl (fun h => ?_) (fun h => ?_) <;> try (with_reducible first | exact ff_tt h | exact tt_ff h))
          | refine aw_block ?_
          | refine aw_ret (ret_of (.inr rfl) (by simp [Try.results42]; rfl) (Fin.close (Fin.of ?_)))
          | refine ret_of (.inl rfl) (by simp [Try.results42]; rfl) (Fin.close (Fin.of ?_)))
        rw [htk] at hml
        simp [tupOf, List.lookup, htk, List.take_of_length_le, hml]
set_option maxHeartbeats 8000000 in
set_option maxRecDepth 100000 in
theorem sShift_ok (t : Tree) (x y : Int) (hx : In64 x) (hy : In64 y) (h : t.sh) (hs : tszT t ≤ 1000000000) (rb : Bool) (hR : APure Try.prog 41 [t.av] (vb rb)) :
    APure Try.prog 10 [t.av, place x y] (.tup [(if rb = true then movedT x y t else zeroT).av, vi (if rb = true then 0 else 1)]) := by
  have hu := smoved_ok x y hx hy t h hs
  generalize movedT x y t = u at *
  obtain ⟨k, n, a, b, c, d, w, ks⟩ := t
  obtain ⟨uk, un, ua, ub, uc, ud, uw, uks⟩ := u
  cases rb with
  | true =>
    rw [Tree.av] at hR hu
    rw [Tree.av] at hu
    rw [Tree.av, if_pos rfl, if_pos rfl, Tree.av]
    refine apure_of Try.func10 Try.ntmps10 rfl ?_
    simp only [List.length_cons, List.length_nil, List.cons_append, List.nil_append, List.replicate]
    repeat' (first
      | refine aw_seq ?_
      | (refine aw_run [4] ?_; try simp -implicitDefEqProofs (maxSteps := 1000000))
      | ((first | refine awl_skip' [4] rfl ?_ | refine awl_pure_guard [4] rfl rfl rfl (by first | assumption | kernel_rfl) rfl (fun hc => by first | exact hR | exact hu) (by simp) (by simp) (by simp) ?_ | refine awl_pure' [4] rfl rfl rfl (by first | assumption | kernel_rfl) rfl (by first | exact hR | exact hu) (by simp) (by simp) ?_ | refine aw_skip ?_ | refine aw_exit ?_); try simp -implicitDefEqProofs (maxSteps := 1000000))
      | (refine aw_cond rfl (fun h => ?_) (fun h => ?_) <;> try (with_reducible first | exact ff_tt h | exact tt_ff h))
      | refine aw_block ?_
      | refine aw_ret (ret_of (.inr rfl) (by simp [Try.results10]; rfl) (Fin.close (Fin.of ?_)))
      | refine ret_of (.inl rfl) (by simp [Try.results10]; rfl) (Fin.close (Fin.of ?_)))
    all_goals first | (simp [tupOf]; done) | trace_state
  | false =>
    rw [Tree.av] at hR hu
    rw [Tree.av, if_neg (by decide), if_neg (by decide)]
    refine apure_of Try.func10 Try.ntmps10 rfl ?_
    simp only [List.length_cons, List.length_nil, List.cons_append, List.nil_append, List.replicate]
    repeat' (first
      | refine aw_seq ?_
      | (refine aw_run [4] ?_; try simp -implicitDefEqProofs (maxSteps := 1000000))
      | ((first | refine awl_skip' [4] rfl ?_ | refine awl_pure_guard [4] rfl rfl rfl (by first | assumption | kernel_rfl) rfl (fun hc => by first | exact hR | exact hu) (by simp) (by simp) (by simp) ?_ | refine awl_pure' [4] rfl rfl rfl (by first | assumption | kernel_rfl) rfl (by first | exact hR | exact hu) (by simp) (by simp) ?_ | refine aw_skip ?_ | refine aw_exit ?_); try simp -implicitDefEqProofs (maxSteps := 1000000))
      | (refine aw_cond rfl (fun h => ?_) (fun h => ?_) <;> try (with_reducible first | exact ff_tt h | exact tt_ff h))
      | refine aw_block ?_
      | refine aw_ret (ret_of (.inr rfl) (by simp [Try.results10]; rfl) (Fin.close (Fin.of ?_)))
      | refine ret_of (.inl rfl) (by simp [Try.results10]; rfl) (Fin.close (Fin.of ?_)))
    all_goals first | (simp [tupOf, zeroT, Tree.av, avs]; done) | trace_state
end Go.AL
