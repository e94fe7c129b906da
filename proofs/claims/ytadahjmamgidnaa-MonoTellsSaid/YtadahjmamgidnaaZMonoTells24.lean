/- Parts of the proof of MonoTells: the logic, contracts, plain laws. -/
import Derived.Test.YtadahjmamgidnaaZMonoTells23
import Derived.Test.YtadahjmamgidnaaZMonoTells13
/-! Contracts: gridironref06.moved, Shift. -/
namespace Go.AL
open Go.Proofs
set_option linter.unusedSimpArgs false
set_option linter.unusedVariables false
mutual
def movedT (x y : Int) : Tree → Tree
  | .mk k n a b c d w ks => if k = 1 ∨ k = 6 then (if moveQ a b x y = true ∧ moveQ c d x y = true then .mk k n (a + x) (b + y) (c + x) (d + y) w (moveds x y ks) else badT) else .mk k n a b c d w (moveds x y ks)
def moveds (x y : Int) : List Tree → List Tree
  | [] => []
  | t :: ts => movedT x y t :: moveds x y ts
end
theorem moveds_map (x y : Int) : ∀ l, moveds x y l = l.map (movedT x y)
  | [] => rfl
  | t :: ts => by rw [moveds, moveds_map x y ts]; rfl
def MovedP (x y : Int) (t : Tree) : Prop := t.sh → tszT t ≤ 1000000000 → APure Try.prog 43 [t.av, place x y] (movedT x y t).av
theorem len_le_tszs : ∀ l : List Tree, l.length ≤ tszs l
  | [] => by simp
  | t :: ts => by have := len_le_tszs ts; rw [tszs, List.length_cons]; obtain ⟨k, n, a, b, c, d, w, ks⟩ := t; rw [tszT]; omega
set_option maxHeartbeats 8000000 in
set_option maxRecDepth 100000 in
theorem rmoved_ok (x y : Int) : ∀ t, MovedP x y t := by
  refine Tree.byKids fun k n a b c d w ks ih => ?_
  intro hsh hsz
  rw [Tree.sh, shs_all] at hsh
  obtain ⟨hlk, hsh⟩ := hsh
  have hl := avs_len ks
  rw [tszT] at hsz
  have hlz := len_le_tszs ks
  rw [Tree.av, movedT]
  by_cases h1 : k = 1 ∨ k = 6
  · rw [if_pos h1]
    have hx1 := rmove_ok a b x y
    have hx2 := rmove_ok c d x y
    by_cases hq : moveQ a b x y = true ∧ moveQ c d x y = true
    · rw [if_pos hq, Tree.av]
      rw [hq.1] at hx1
      rw [hq.2] at hx2
      simp only [z_true] at hx1 hx2
      rcases h1 with h1 | h1
      · subst h1
        refine apure_of Try.func43 Try.ntmps43 rfl ?_
        simp only [List.length_cons, List.length_nil, List.cons_append, List.nil_append, List.replicate]
        repeat' (first
          | refine aw_seq ?_
          | ((first | refine aw_run [4, 5, 6, 8] ?_ | refine aw_ymix [4, 5, 6, 8] draws (by decide +kernel) ?_); try simp -implicitDefEqProofs (maxSteps := 1000000))
          | ((first | refine aw_zrun [4, 5, 6, 8] [] draws (by decide +kernel) (by decide +kernel) ?_ | refine zl_skip (by simp) rfl ?_ | refine zl_pure_guard (by simp) rfl rfl rfl (by first | assumption | kernel_rfl) rfl (fun hc => by first | exact hx1 | exact hx2) (by simp) (by simp) (by simp) ?_ | refine zl_pure (by simp) rfl rfl rfl (by first | assumption | kernel_rfl) rfl (by first | exact hx1 | exact hx2) (by simp) (by simp) ?_); try simp -implicitDefEqProofs (maxSteps := 1000000); repeat first | refine zcurL (by decide +kernel) ?_ | refine zcurH (by decide +kernel) ?_ | refine zcurL' (by decide +kernel) ?_ | refine zcurH' (by decide +kernel) ?_)
          | ((first | refine aw_yrun draws (by kernel_rfl) ?_ | refine awl_skip' [4, 5, 6, 8] rfl ?_ | refine yl_skip rfl ?_ | refine awl_pure_guard [4, 5, 6, 8] rfl rfl rfl (by first | assumption | kernel_rfl) rfl (fun hc => by first | exact hx1 | exact hx2) (by simp) (by simp) (by simp) ?_ | refine yl_pureG rfl rfl rfl (by first | assumption | kernel_rfl) rfl (fun hc => by first | exact hx1 | exact hx2) (by simp) (by simp) (by simp) ?_ | refine awl_pure' [4, 5, 6, 8] rfl rfl rfl (by first | assumption | kernel_rfl) rfl (by first | exact hx1 | exact hx2) (by simp) (by simp) ?_ | refine yl_pure rfl rfl rfl (by first | assumption | kernel_rfl) rfl (by first | exact hx1 | exact hx2) (by simp) (by simp) ?_ | refine aw_skip ?_ | refine aw_exit ?_); try simp -implicitDefEqProofs (maxSteps := 1000000))
          | (refine aw_cond rfl (fun h => ?_) (fun h => ?_) <;> try (with_reducible first | exact ff_tt h | exact tt_ff h))
          | refine aw_block ?_
          | refine aw_ret (ret_of (.inr rfl) (by simp [Try.results43]; rfl) (Fin.close (Fin.of ?_)))
          | refine ret_of (.inl rfl) (by simp [Try.results43]; rfl) (Fin.close (Fin.of ?_)))
        refine aw_openBx (b := 1) (i := 7) (cs := [vi 1, vi n, vi (a + x), vi (b + y), vi (c + x), vi (d + y), vs w, .p (.slice none 0 0)]) (by simp) rfl ?_
        simp -implicitDefEqProofs
        refine aw_loopW [2, 3, 4, 5, 10] (fun q fr σ => ∃ i M id : Nat, i + q = ks.length ∧ 2 ≤ id ∧ id < M ∧ σ = mkSt [(0, [vi 0, vi 0, vi 0, vi 0, vi 0, vi 0, vs ⟨#[]⟩, .p (.slice none 0 0)]), (1, [vi 1, vi n, vi (a + x), vi (b + y), vi (c + x), vi (d + y), vs w, .hsl id 0 i])] [(id, avs (moveds x y (ks.take i)))] M ∧
          fr = frm 75 [(2, .vel [.agg [vi 1, vi n, vi a, vi b, vi c, vi d, vs w, .vsl (avs ks)]] 0 0), (3, .vel [place x y] 0 0), (4, .ptr 0 0), (5, .ptr 1 0), (10, vi (i : Nat))]) ks.length ?_ ?_
        · exact ⟨mkSt [(0, [vi 0, vi 0, vi 0, vi 0, vi 0, vi 0, vs ⟨#[]⟩, .p (.slice none 0 0)]), (1, [vi 1, vi n, vi (a + x), vi (b + y), vi (c + x), vi (d + y), vs w, .hsl 4 0 0])] [(4, avs [])] (4 + 1), le_mkSt (by simp) (by simp [avs]) (by simp), 0, 4 + 1, 4, by omega, by omega, by omega, by simp [moveds], by simp⟩
        · rintro q fr σ ⟨i, M, id, hi, hid, hM, rfl, rfl⟩
          simp -implicitDefEqProofs
          have i0 : ¬ 0 = id := by omega
          have i1 : ¬ 1 = id := by omega
          have m0 : ¬ 0 = M := by omega
          have m1 : ¬ 1 = M := by omega
          have m2 : ¬ id = M := by omega
          have hml : (avs (moveds x y (ks.take i))).length = i := by rw [avs_len, moveds_map, List.length_map, List.length_take]; omega
          have hml' : (moveds x y (ks.take i)).length = i := by rw [moveds_map, List.length_map, List.length_take]; omega
          by_cases hlt : i < ks.length
          · have hlti : (i : Int) < ks.length := by omega
            obtain ⟨t, ht⟩ : ∃ t, ks[i] = t := ⟨_, rfl⟩
            have hmem : t ∈ ks := ht ▸ List.getElem_mem hlt
            have hts := tszs_mem hmem
            have hr := ih t hmem (hsh t hmem) (by omega)
            have hg := avs_get hlt
            rw [ht] at hg
            have hla : i < (avs ks).length := by omega
            have wi : IntKind.i64.wrap ((i : Int) + 1) = (i : Int) + 1 := wrap_id (by omega) (by omega)
            have hmv : moveds x y (ks.take (i + 1)) = moveds x y (ks.take i) ++ [movedT x y t] := by
              rw [moveds_map, moveds_map, List.take_add_one, List.getElem?_eq_getElem hlt, ht]; simp
            generalize movedT x y t = u at *
            obtain ⟨tk, tn, ta, tb, tc, td, tw, tks⟩ := t
            obtain ⟨uk, un, ua, ub, uc, ud, uw, uks⟩ := u
            rw [Tree.av] at hr hg
            rw [Tree.av] at hr
            repeat' (first
              | refine aw_seq ?_
              | ((first | refine aw_run [4, 5, 6, 8] ?_ | refine aw_ymix [4, 5, 6, 8] draws (by decide +kernel) ?_); try simp -implicitDefEqProofs (maxSteps := 1000000) [List.lookup, hl, hlti, hla, hg, wi, i0, i1, m0, m1, m2])
              | ((first | refine aw_zrun [4, 5, 6, 8] [] draws (by decide +kernel) (by decide +kernel) ?_ | refine zl_skip (by simp) rfl ?_ | refine zl_pure_guard (by simp) rfl rfl rfl (by first | assumption | kernel_rfl) rfl (fun hc => by first | exact hr) (by simp) (by simp) (by simp) ?_ | refine zl_pure (by simp) rfl rfl rfl (by first | assumption | kernel_rfl) rfl (by first | exact hr) (by simp) (by simp) ?_); try simp -implicitDefEqProofs (maxSteps := 1000000) [List.lookup, hl, hlti, hla, hg, wi, i0, i1, m0, m1, m2]; repeat first | refine zcurL (by decide +kernel) ?_ | refine zcurH (by decide +kernel) ?_ | refine zcurL' (by decide +kernel) ?_ | refine zcurH' (by decide +kernel) ?_)
              | ((first | refine aw_yrun draws (by kernel_rfl) ?_ | refine awl_skip' [4, 5, 6, 8] rfl ?_ | refine yl_skip rfl ?_ | refine awl_pure_guard [4, 5, 6, 8] rfl rfl rfl (by first | assumption | kernel_rfl) rfl (fun hc => by first | exact hr) (by simp) (by simp) (by simp) ?_ | refine yl_pureG rfl rfl rfl (by first | assumption | kernel_rfl) rfl (fun hc => by first | exact hr) (by simp) (by simp) (by simp) ?_ | refine awl_pure' [4, 5, 6, 8] rfl rfl rfl (by first | assumption | kernel_rfl) rfl (by first | exact hr) (by simp) (by simp) ?_ | refine yl_pure rfl rfl rfl (by first | assumption | kernel_rfl) rfl (by first | exact hr) (by simp) (by simp) ?_ | refine aw_skip ?_ | refine aw_exit ?_); try simp -implicitDefEqProofs (maxSteps := 1000000) [List.lookup, hl, hlti, hla, hg, wi, i0, i1, m0, m1, m2])
              | (refine aw_cond rfl (fun h => ?_) (fun h => ?_) <;> try (with_reducible first | exact ff_tt h | exact tt_ff h))
              | refine aw_block ?_
              | refine aw_ret (ret_of (.inr rfl) (by simp [Try.results43]; rfl) (Fin.of ?_))
              | refine ret_of (.inl rfl) (by simp [Try.results43]; rfl) (Fin.of ?_))
            refine zl_append (by simp) rfl rfl rfl (xs := avs (moveds x y (ks.take i))) (by simp) (by simp [hml]) rfl (by simp) te27 tet27 tz29 rfl (fun y hy => (avs_ok _ y hy).1) (by simp) (by simp; omega) (by simp; omega) ?_
            simp -implicitDefEqProofs [List.lookup, i0, i1, m0, m1, m2]
            repeat first | refine zcurL (by decide +kernel) ?_ | refine zcurH (by decide +kernel) ?_ | refine zcurL' (by decide +kernel) ?_ | refine zcurH' (by decide +kernel) ?_
            repeat' (first
              | refine aw_seq ?_
              | ((first | refine aw_run [4, 5, 6, 8] ?_ | refine aw_ymix [4, 5, 6, 8] draws (by decide +kernel) ?_); try simp -implicitDefEqProofs (maxSteps := 1000000) [List.lookup, hl, wi, i0, i1, m0, m1, m2])
              | ((first | refine aw_zrun [4, 5, 6, 8] [] draws (by decide +kernel) (by decide +kernel) ?_ | refine zl_skip (by simp) rfl ?_); try simp -implicitDefEqProofs (maxSteps := 1000000) [List.lookup, hl, wi, i0, i1, m0, m1, m2]; repeat first | refine zcurL (by decide +kernel) ?_ | refine zcurH (by decide +kernel) ?_ | refine zcurL' (by decide +kernel) ?_ | refine zcurH' (by decide +kernel) ?_)
              | ((first | refine aw_yrun draws (by kernel_rfl) ?_ | refine awl_skip' [4, 5, 6, 8] rfl ?_ | refine yl_skip rfl ?_ | refine aw_skip ?_ | refine aw_exit ?_); try simp -implicitDefEqProofs (maxSteps := 1000000) [List.lookup, hl, wi, i0, i1, m0, m1, m2])
              | (refine aw_cond rfl (fun h => ?_) (fun h => ?_) <;> try (with_reducible first | exact ff_tt h | exact tt_ff h))
              | refine aw_block ?_
              | refine aw_ret (ret_of (.inr rfl) (by simp [Try.results43]; rfl) (Fin.of ?_))
              | refine ret_of (.inl rfl) (by simp [Try.results43]; rfl) (Fin.of ?_))
            refine ⟨q - 1, by omega, mkSt [(0, [vi 0, vi 0, vi 0, vi 0, vi 0, vi 0, vs ⟨#[]⟩, .p (.slice none 0 0)]), (1, [vi 1, vi n, vi (a + x), vi (b + y), vi (c + x), vi (d + y), vs w, .hsl M 0 (i + 1)])] [(M, avs (moveds x y (ks.take (i + 1))))] (M + 1), le_mkSt ?_ ?_ (by simp), i + 1, by omega, M + 1, M, by omega, by omega, rfl, by omega⟩
            · simp [List.lookup, i0, i1, m0, m1, m2]
            · simp [hmv, avs_map, Tree.av, List.take_of_length_le, hml']
          · have hlti : ¬ (i : Int) < ks.length := by omega
            have htk : ks.take i = ks := List.take_of_length_le (by omega)
            repeat' (first
              | refine aw_seq ?_
              | ((first | refine aw_run [4, 5, 6, 8] ?_ | refine aw_ymix [4, 5, 6, 8] draws (by decide +kernel) ?_); try simp -implicitDefEqProofs (maxSteps := 1000000) [List.lookup, hl, hlti, i0, i1])
              | ((first | refine aw_zrun [4, 5, 6, 8] [] draws (by decide +kernel) (by decide +kernel) ?_ | refine zl_skip (by simp) rfl ?_); try simp -implicitDefEqProofs (maxSteps := 1000000) [List.lookup, hl, hlti, i0, i1]; repeat first | refine zcurL (by decide +kernel) ?_ | refine zcurH (by decide +kernel) ?_ | refine zcurL' (by decide +kernel) ?_ | refine zcurH' (by decide +kernel) ?_)
              | ((first | refine aw_yrun draws (by kernel_rfl) ?_ | refine awl_skip' [4, 5, 6, 8] rfl ?_ | refine yl_skip rfl ?_ | refine aw_skip ?_ | refine aw_exit ?_); try simp -implicitDefEqProofs (maxSteps := 1000000) [List.lookup, hl, hlti, i0, i1])
              | (refine aw_cond rfl (fun h => ?_) (fun h => ?_) <;> try (with_reducible first | exact ff_tt h | exact tt_ff h))
              | refine aw_block ?_
              | refine aw_ret (ret_of (.inr rfl) (by simp [Try.results43]; rfl) (Fin.close (Fin.of ?_)))
              | refine ret_of (.inl rfl) (by simp [Try.results43]; rfl) (Fin.close (Fin.of ?_)))
            rw [htk] at hml
            simp [tupOf, List.lookup, htk, List.take_of_length_le, hml]
      · subst h1
        refine apure_of Try.func43 Try.ntmps43 rfl ?_
        simp only [List.length_cons, List.length_nil, List.cons_append, List.nil_append, List.replicate]
        repeat' (first
          | refine aw_seq ?_
          | ((first | refine aw_run [4, 5, 6, 8] ?_ | refine aw_ymix [4, 5, 6, 8] draws (by decide +kernel) ?_); try simp -implicitDefEqProofs (maxSteps := 1000000))
          | ((first | refine aw_zrun [4, 5, 6, 8] [] draws (by decide +kernel) (by decide +kernel) ?_ | refine zl_skip (by simp) rfl ?_ | refine zl_pure_guard (by simp) rfl rfl rfl (by first | assumption | kernel_rfl) rfl (fun hc => by first | exact hx1 | exact hx2) (by simp) (by simp) (by simp) ?_ | refine zl_pure (by simp) rfl rfl rfl (by first | assumption | kernel_rfl) rfl (by first | exact hx1 | exact hx2) (by simp) (by simp) ?_); try simp -implicitDefEqProofs (maxSteps := 1000000); repeat first | refine zcurL (by decide +kernel) ?_ | refine zcurH (by decide +kernel) ?_ | refine zcurL' (by decide +kernel) ?_ | refine zcurH' (by decide +kernel) ?_)
          | ((first | refine aw_yrun draws (by kernel_rfl) ?_ | refine awl_skip' [4, 5, 6, 8] rfl ?_ | refine yl_skip rfl ?_ | refine awl_pure_guard [4, 5, 6, 8] rfl rfl rfl (by first | assumption | kernel_rfl) rfl (fun hc => by first | exact hx1 | exact hx2) (by simp) (by simp) (by simp) ?_ | refine yl_pureG rfl rfl rfl (by first | assumption | kernel_rfl) rfl (fun hc => by first | exact hx1 | exact hx2) (by simp) (by simp) (by simp) ?_ | refine awl_pure' [4, 5, 6, 8] rfl rfl rfl (by first | assumption | kernel_rfl) rfl (by first | exact hx1 | exact hx2) (by simp) (by simp) ?_ | refine yl_pure rfl rfl rfl (by first | assumption | kernel_rfl) rfl (by first | exact hx1 | exact hx2) (by simp) (by simp) ?_ | refine aw_skip ?_ | refine aw_exit ?_); try simp -implicitDefEqProofs (maxSteps := 1000000))
          | (refine aw_cond rfl (fun h => ?_) (fun h => ?_) <;> try (with_reducible first | exact ff_tt h | exact tt_ff h))
          | refine aw_block ?_
          | refine aw_ret (ret_of (.inr rfl) (by simp [Try.results43]; rfl) (Fin.close (Fin.of ?_)))
          | refine ret_of (.inl rfl) (by simp [Try.results43]; rfl) (Fin.close (Fin.of ?_)))
        refine aw_openBx (b := 1) (i := 7) (cs := [vi 6, vi n, vi (a + x), vi (b + y), vi (c + x), vi (d + y), vs w, .p (.slice none 0 0)]) (by simp) rfl ?_
        simp -implicitDefEqProofs
        refine aw_loopW [2, 3, 4, 5, 10] (fun q fr σ => ∃ i M id : Nat, i + q = ks.length ∧ 2 ≤ id ∧ id < M ∧ σ = mkSt [(0, [vi 0, vi 0, vi 0, vi 0, vi 0, vi 0, vs ⟨#[]⟩, .p (.slice none 0 0)]), (1, [vi 6, vi n, vi (a + x), vi (b + y), vi (c + x), vi (d + y), vs w, .hsl id 0 i])] [(id, avs (moveds x y (ks.take i)))] M ∧
          fr = frm 75 [(2, .vel [.agg [vi 6, vi n, vi a, vi b, vi c, vi d, vs w, .vsl (avs ks)]] 0 0), (3, .vel [place x y] 0 0), (4, .ptr 0 0), (5, .ptr 1 0), (10, vi (i : Nat))]) ks.length ?_ ?_
        · exact ⟨mkSt [(0, [vi 0, vi 0, vi 0, vi 0, vi 0, vi 0, vs ⟨#[]⟩, .p (.slice none 0 0)]), (1, [vi 6, vi n, vi (a + x), vi (b + y), vi (c + x), vi (d + y), vs w, .hsl 4 0 0])] [(4, avs [])] (4 + 1), le_mkSt (by simp) (by simp [avs]) (by simp), 0, 4 + 1, 4, by omega, by omega, by omega, by simp [moveds], by simp⟩
        · rintro q fr σ ⟨i, M, id, hi, hid, hM, rfl, rfl⟩
          simp -implicitDefEqProofs
          have i0 : ¬ 0 = id := by omega
          have i1 : ¬ 1 = id := by omega
          have m0 : ¬ 0 = M := by omega
          have m1 : ¬ 1 = M := by omega
          have m2 : ¬ id = M := by omega
          have hml : (avs (moveds x y (ks.take i))).length = i := by rw [avs_len, moveds_map, List.length_map, List.length_take]; omega
          have hml' : (moveds x y (ks.take i)).length = i := by rw [moveds_map, List.length_map, List.length_take]; omega
          by_cases hlt : i < ks.length
          · have hlti : (i : Int) < ks.length := by omega
            obtain ⟨t, ht⟩ : ∃ t, ks[i] = t := ⟨_, rfl⟩
            have hmem : t ∈ ks := ht ▸ List.getElem_mem hlt
            have hts := tszs_mem hmem
            have hr := ih t hmem (hsh t hmem) (by omega)
            have hg := avs_get hlt
            rw [ht] at hg
            have hla : i < (avs ks).length := by omega
            have wi : IntKind.i64.wrap ((i : Int) + 1) = (i : Int) + 1 := wrap_id (by omega) (by omega)
            have hmv : moveds x y (ks.take (i + 1)) = moveds x y (ks.take i) ++ [movedT x y t] := by
              rw [moveds_map, moveds_map, List.take_add_one, List.getElem?_eq_getElem hlt, ht]; simp
            generalize movedT x y t = u at *
            obtain ⟨tk, tn, ta, tb, tc, td, tw, tks⟩ := t
            obtain ⟨uk, un, ua, ub, uc, ud, uw, uks⟩ := u
            rw [Tree.av] at hr hg
            rw [Tree.av] at hr
            repeat' (first
              | refine aw_seq ?_
              | ((first | refine aw_run [4, 5, 6, 8] ?_ | refine aw_ymix [4, 5, 6, 8] draws (by decide +kernel) ?_); try simp -implicitDefEqProofs (maxSteps := 1000000) [List.lookup, hl, hlti, hla, hg, wi, i0, i1, m0, m1, m2])
              | ((first | refine aw_zrun [4, 5, 6, 8] [] draws (by decide +kernel) (by decide +kernel) ?_ | refine zl_skip (by simp) rfl ?_ | refine zl_pure_guard (by simp) rfl rfl rfl (by first | assumption | kernel_rfl) rfl (fun hc => by first | exact hr) (by simp) (by simp) (by simp) ?_ | refine zl_pure (by simp) rfl rfl rfl (by first | assumption | kernel_rfl) rfl (by first | exact hr) (by simp) (by simp) ?_); try simp -implicitDefEqProofs (maxSteps := 1000000) [List.lookup, hl, hlti, hla, hg, wi, i0, i1, m0, m1, m2]; repeat first | refine zcurL (by decide +kernel) ?_ | refine zcurH (by decide +kernel) ?_ | refine zcurL' (by decide +kernel) ?_ | refine zcurH' (by decide +kernel) ?_)
              | ((first | refine aw_yrun draws (by kernel_rfl) ?_ | refine awl_skip' [4, 5, 6, 8] rfl ?_ | refine yl_skip rfl ?_ | refine awl_pure_guard [4, 5, 6, 8] rfl rfl rfl (by first | assumption | kernel_rfl) rfl (fun hc => by first | exact hr) (by simp) (by simp) (by simp) ?_ | refine yl_pureG rfl rfl rfl (by first | assumption | kernel_rfl) rfl (fun hc => by first | exact hr) (by simp) (by simp) (by simp) ?_ | refine awl_pure' [4, 5, 6, 8] rfl rfl rfl (by first | assumption | kernel_rfl) rfl (by first | exact hr) (by simp) (by simp) ?_ | refine yl_pure rfl rfl rfl (by first | assumption | kernel_rfl) rfl (by first | exact hr) (by simp) (by simp) ?_ | refine aw_skip ?_ | refine aw_exit ?_); try simp -implicitDefEqProofs (maxSteps := 1000000) [List.lookup, hl, hlti, hla, hg, wi, i0, i1, m0, m1, m2])
              | (refine aw_cond rfl (fun h => ?_) (fun h => ?_) <;> try (with_reducible first | exact ff_tt h | exact tt_ff h))
              | refine aw_block ?_
              | refine aw_ret (ret_of (.inr rfl) (by simp [Try.results43]; rfl) (Fin.of ?_))
              | refine ret_of (.inl rfl) (by simp [Try.results43]; rfl) (Fin.of ?_))
            refine zl_append (by simp) rfl rfl rfl (xs := avs (moveds x y (ks.take i))) (by simp) (by simp [hml]) rfl (by simp) te27 tet27 tz29 rfl (fun y hy => (avs_ok _ y hy).1) (by simp) (by simp; omega) (by simp; omega) ?_
            simp -implicitDefEqProofs [List.lookup, i0, i1, m0, m1, m2]
            repeat first | refine zcurL (by decide +kernel) ?_ | refine zcurH (by decide +kernel) ?_ | refine zcurL' (by decide +kernel) ?_ | refine zcurH' (by decide +kernel) ?_
            repeat' (first
              | refine aw_seq ?_
              | ((first | refine aw_run [4, 5, 6, 8] ?_ | refine aw_ymix [4, 5, 6, 8] draws (by decide +kernel) ?_); try simp -implicitDefEqProofs (maxSteps := 1000000) [List.lookup, hl, wi, i0, i1, m0, m1, m2])
              | ((first | refine aw_zrun [4, 5, 6, 8] [] draws (by decide +kernel) (by decide +kernel) ?_ | refine zl_skip (by simp) rfl ?_); try simp -implicitDefEqProofs (maxSteps := 1000000) [List.lookup, hl, wi, i0, i1, m0, m1, m2]; repeat first | refine zcurL (by decide +kernel) ?_ | refine zcurH (by decide +kernel) ?_ | refine zcurL' (by decide +kernel) ?_ | refine zcurH' (by decide +kernel) ?_)
              | ((first | refine aw_yrun draws (by kernel_rfl) ?_ | refine awl_skip' [4, 5, 6, 8] rfl ?_ | refine yl_skip rfl ?_ | refine aw_skip ?_ | refine aw_exit ?_); try simp -implicitDefEqProofs (maxSteps := 1000000) [List.lookup, hl, wi, i0, i1, m0, m1, m2])
              | (refine aw_cond rfl (fun h => ?_) (fun h => ?_) <;> try (with_reducible first | exact ff_tt h | exact tt_ff h))
              | refine aw_block ?_
              | refine aw_ret (ret_of (.inr rfl) (by simp [Try.results43]; rfl) (Fin.of ?_))
              | refine ret_of (.inl rfl) (by simp [Try.results43]; rfl) (Fin.of ?_))
            refine ⟨q - 1, by omega, mkSt [(0, [vi 0, vi 0, vi 0, vi 0, vi 0, vi 0, vs ⟨#[]⟩, .p (.slice none 0 0)]), (1, [vi 6, vi n, vi (a + x), vi (b + y), vi (c + x), vi (d + y), vs w, .hsl M 0 (i + 1)])] [(M, avs (moveds x y (ks.take (i + 1))))] (M + 1), le_mkSt ?_ ?_ (by simp), i + 1, by omega, M + 1, M, by omega, by omega, rfl, by omega⟩
            · simp [List.lookup, i0, i1, m0, m1, m2]
            · simp [hmv, avs_map, Tree.av, List.take_of_length_le, hml']
          · have hlti : ¬ (i : Int) < ks.length := by omega
            have htk : ks.take i = ks := List.take_of_length_le (by omega)
            repeat' (first
              | refine aw_seq ?_
              | ((first | refine aw_run [4, 5, 6, 8] ?_ | refine aw_ymix [4, 5, 6, 8] draws (by decide +kernel) ?_); try simp -implicitDefEqProofs (maxSteps := 1000000) [List.lookup, hl, hlti, i0, i1])
              | ((first | refine aw_zrun [4, 5, 6, 8] [] draws (by decide +kernel) (by decide +kernel) ?_ | refine zl_skip (by simp) rfl ?_); try simp -implicitDefEqProofs (maxSteps := 1000000) [List.lookup, hl, hlti, i0, i1]; repeat first | refine zcurL (by decide +kernel) ?_ | refine zcurH (by decide +kernel) ?_ | refine zcurL' (by decide +kernel) ?_ | refine zcurH' (by decide +kernel) ?_)
              | ((first | refine aw_yrun draws (by kernel_rfl) ?_ | refine awl_skip' [4, 5, 6, 8] rfl ?_ | refine yl_skip rfl ?_ | refine aw_skip ?_ | refine aw_exit ?_); try simp -implicitDefEqProofs (maxSteps := 1000000) [List.lookup, hl, hlti, i0, i1])
              | (refine aw_cond rfl (fun h => ?_) (fun h => ?_) <;> try (with_reducible first | exact ff_tt h | exact tt_ff h))
              | refine aw_block ?_
              | refine aw_ret (ret_of (.inr rfl) (by simp [Try.results43]; rfl) (Fin.close (Fin.of ?_)))
              | refine ret_of (.inl rfl) (by simp [Try.results43]; rfl) (Fin.close (Fin.of ?_)))
            rw [htk] at hml
            simp [tupOf, List.lookup, htk, List.take_of_length_le, hml]
    · rw [if_neg hq]
      generalize moveQ a b x y = p1 at *
      generalize moveQ c d x y = p2 at *
      rcases h1 with h1 | h1
      · subst h1
        cases p1 with
        | false =>
          refine apure_of Try.func43 Try.ntmps43 rfl ?_
          simp only [List.length_cons, List.length_nil, List.cons_append, List.nil_append, List.replicate]
          repeat' (first
            | refine aw_seq ?_
            | ((first | refine aw_run [4, 5, 6, 8] ?_ | refine aw_ymix [4, 5, 6, 8] draws (by decide +kernel) ?_); try simp -implicitDefEqProofs (maxSteps := 1000000))
            | ((first | refine aw_zrun [4, 5, 6, 8] [] draws (by decide +kernel) (by decide +kernel) ?_ | refine zl_skip (by simp) rfl ?_ | refine zl_pure_guard (by simp) rfl rfl rfl (by first | assumption | kernel_rfl) rfl (fun hc => by first | exact hx1 | exact hx2) (by simp) (by simp) (by simp) ?_ | refine zl_pure (by simp) rfl rfl rfl (by first | assumption | kernel_rfl) rfl (by first | exact hx1 | exact hx2) (by simp) (by simp) ?_); try simp -implicitDefEqProofs (maxSteps := 1000000); repeat first | refine zcurL (by decide +kernel) ?_ | refine zcurH (by decide +kernel) ?_ | refine zcurL' (by decide +kernel) ?_ | refine zcurH' (by decide +kernel) ?_)
            | ((first | refine aw_yrun draws (by kernel_rfl) ?_ | refine awl_skip' [4, 5, 6, 8] rfl ?_ | refine yl_skip rfl ?_ | refine awl_pure_guard [4, 5, 6, 8] rfl rfl rfl (by first | assumption | kernel_rfl) rfl (fun hc => by first | exact hx1 | exact hx2) (by simp) (by simp) (by simp) ?_ | refine yl_pureG rfl rfl rfl (by first | assumption | kernel_rfl) rfl (fun hc => by first | exact hx1 | exact hx2) (by simp) (by simp) (by simp) ?_ | refine awl_pure' [4, 5, 6, 8] rfl rfl rfl (by first | assumption | kernel_rfl) rfl (by first | exact hx1 | exact hx2) (by simp) (by simp) ?_ | refine yl_pure rfl rfl rfl (by first | assumption | kernel_rfl) rfl (by first | exact hx1 | exact hx2) (by simp) (by simp) ?_ | refine aw_skip ?_ | refine aw_exit ?_); try simp -implicitDefEqProofs (maxSteps := 1000000))
            | (refine aw_cond rfl (fun h => ?_) (fun h => ?_) <;> try (with_reducible first | exact ff_tt h | exact tt_ff h))
            | refine aw_block ?_
            | refine aw_ret (ret_of (.inr rfl) (by simp [Try.results43]; rfl) (Fin.close (Fin.of ?_)))
            | refine ret_of (.inl rfl) (by simp [Try.results43]; rfl) (Fin.close (Fin.of ?_)))
          all_goals first | (simp [tupOf, badT, Tree.av, avs]; done) | (simp at *; done) | trace_state
        | true =>
          cases p2 with
          | true => exact absurd ⟨rfl, rfl⟩ hq
          | false =>
            refine apure_of Try.func43 Try.ntmps43 rfl ?_
            simp only [List.length_cons, List.length_nil, List.cons_append, List.nil_append, List.replicate]
            repeat' (first
              | refine aw_seq ?_
              | ((first | refine aw_run [4, 5, 6, 8] ?_ | refine aw_ymix [4, 5, 6, 8] draws (by decide +kernel) ?_); try simp -implicitDefEqProofs (maxSteps := 1000000))
              | ((first | refine aw_zrun [4, 5, 6, 8] [] draws (by decide +kernel) (by decide +kernel) ?_ | refine zl_skip (by simp) rfl ?_ | refine zl_pure_guard (by simp) rfl rfl rfl (by first | assumption | kernel_rfl) rfl (fun hc => by first | exact hx1 | exact hx2) (by simp) (by simp) (by simp) ?_ | refine zl_pure (by simp) rfl rfl rfl (by first | assumption | kernel_rfl) rfl (by first | exact hx1 | exact hx2) (by simp) (by simp) ?_); try simp -implicitDefEqProofs (maxSteps := 1000000); repeat first | refine zcurL (by decide +kernel) ?_ | refine zcurH (by decide +kernel) ?_ | refine zcurL' (by decide +kernel) ?_ | refine zcurH' (by decide +kernel) ?_)
              | ((first | refine aw_yrun draws (by kernel_rfl) ?_ | refine awl_skip' [4, 5, 6, 8] rfl ?_ | refine yl_skip rfl ?_ | refine awl_pure_guard [4, 5, 6, 8] rfl rfl rfl (by first | assumption | kernel_rfl) rfl (fun hc => by first | exact hx1 | exact hx2) (by simp) (by simp) (by simp) ?_ | refine yl_pureG rfl rfl rfl (by first | assumption | kernel_rfl) rfl (fun hc => by first | exact hx1 | exact hx2) (by simp) (by simp) (by simp) ?_ | refine awl_pure' [4, 5, 6, 8] rfl rfl rfl (by first | assumption | kernel_rfl) rfl (by first | exact hx1 | exact hx2) (by simp) (by simp) ?_ | refine yl_pure rfl rfl rfl (by first | assumption | kernel_rfl) rfl (by first | exact hx1 | exact hx2) (by simp) (by simp) ?_ | refine aw_skip ?_ | refine aw_exit ?_); try simp -implicitDefEqProofs (maxSteps := 1000000))
              | (refine aw_cond rfl (fun h => ?_) (fun h => ?_) <;> try (with_reducible first | exact ff_tt h | exact tt_ff h))
              | refine aw_block ?_
              | refine aw_ret (ret_of (.inr rfl) (by simp [Try.results43]; rfl) (Fin.close (Fin.of ?_)))
              | refine ret_of (.inl rfl) (by simp [Try.results43]; rfl) (Fin.close (Fin.of ?_)))
            all_goals first | (simp [tupOf, badT, Tree.av, avs]; done) | (simp at *; done) | trace_state
      · subst h1
        cases p1 with
        | false =>
          refine apure_of Try.func43 Try.ntmps43 rfl ?_
          simp only [List.length_cons, List.length_nil, List.cons_append, List.nil_append, List.replicate]
          repeat' (first
            | refine aw_seq ?_
            | ((first | refine aw_run [4, 5, 6, 8] ?_ | refine aw_ymix [4, 5, 6, 8] draws (by decide +kernel) ?_); try simp -implicitDefEqProofs (maxSteps := 1000000))
            | ((first | refine aw_zrun [4, 5, 6, 8] [] draws (by decide +kernel) (by decide +kernel) ?_ | refine zl_skip (by simp) rfl ?_ | refine zl_pure_guard (by simp) rfl rfl rfl (by first | assumption | kernel_rfl) rfl (fun hc => by first | exact hx1 | exact hx2) (by simp) (by simp) (by simp) ?_ | refine zl_pure (by simp) rfl rfl rfl (by first | assumption | kernel_rfl) rfl (by first | exact hx1 | exact hx2) (by simp) (by simp) ?_); try simp -implicitDefEqProofs (maxSteps := 1000000); repeat first | refine zcurL (by decide +kernel) ?_ | refine zcurH (by decide +kernel) ?_ | refine zcurL' (by decide +kernel) ?_ | refine zcurH' (by decide +kernel) ?_)
            | ((first | refine aw_yrun draws (by kernel_rfl) ?_ | refine awl_skip' [4, 5, 6, 8] rfl ?_ | refine yl_skip rfl ?_ | refine awl_pure_guard [4, 5, 6, 8] rfl rfl rfl (by first | assumption | kernel_rfl) rfl (fun hc => by first | exact hx1 | exact hx2) (by simp) (by simp) (by simp) ?_ | refine yl_pureG rfl rfl rfl (by first | assumption | kernel_rfl) rfl (fun hc => by first | exact hx1 | exact hx2) (by simp) (by simp) (by simp) ?_ | refine awl_pure' [4, 5, 6, 8] rfl rfl rfl (by first | assumption | kernel_rfl) rfl (by first | exact hx1 | exact hx2) (by simp) (by simp) ?_ | refine yl_pure rfl rfl rfl (by first | assumption | kernel_rfl) rfl (by first | exact hx1 | exact hx2) (by simp) (by simp) ?_ | refine aw_skip ?_ | refine aw_exit ?_); try simp -implicitDefEqProofs (maxSteps := 1000000))
            | (refine aw_cond rfl (fun h => ?_) (fun h => ?_) <;> try (with_reducible first | exact ff_tt h | exact tt_ff h))
            | refine aw_block ?_
            | refine aw_ret (ret_of (.inr rfl) (by simp [Try.results43]; rfl) (Fin.close (Fin.of ?_)))
            | refine ret_of (.inl rfl) (by simp [Try.results43]; rfl) (Fin.close (Fin.of ?_)))
          all_goals first | (simp [tupOf, badT, Tree.av, avs]; done) | (simp at *; done) | trace_state
        | true =>
          cases p2 with
          | true => exact absurd ⟨rfl, rfl⟩ hq
          | false =>
            refine apure_of Try.func43 Try.ntmps43 rfl ?_
            simp only [List.length_cons, List.length_nil, List.cons_append, List.nil_append, List.replicate]
            repeat' (first
              | refine aw_seq ?_
              | ((first | refine aw_run [4, 5, 6, 8] ?_ | refine aw_ymix [4, 5, 6, 8] draws (by decide +kernel) ?_); try simp -implicitDefEqProofs (maxSteps := 1000000))
              | ((first | refine aw_zrun [4, 5, 6, 8] [] draws (by decide +kernel) (by decide +kernel) ?_ | refine zl_skip (by simp) rfl ?_ | refine zl_pure_guard (by simp) rfl rfl rfl (by first | assumption | kernel_rfl) rfl (fun hc => by first | exact hx1 | exact hx2) (by simp) (by simp) (by simp) ?_ | refine zl_pure (by simp) rfl rfl rfl (by first | assumption | kernel_rfl) rfl (by first | exact hx1 | exact hx2) (by simp) (by simp) ?_); try simp -implicitDefEqProofs (maxSteps := 1000000); repeat first | refine zcurL (by decide +kernel) ?_ | refine zcurH (by decide +kernel) ?_ | refine zcurL' (by decide +kernel) ?_ | refine zcurH' (by decide +kernel) ?_)
              | ((first | refine aw_yrun draws (by kernel_rfl) ?_ | refine awl_skip' [4, 5, 6, 8] rfl ?_ | refine yl_skip rfl ?_ | refine awl_pure_guard [4, 5, 6, 8] rfl rfl rfl (by first | assumption | kernel_rfl) rfl (fun hc => by first | exact hx1 | exact hx2) (by simp) (by simp) (by simp) ?_ | refine yl_pureG rfl rfl rfl (by first | assumption | kernel_rfl) rfl (fun hc => by first | exact hx1 | exact hx2) (by simp) (by simp) (by simp) ?_ | refine awl_pure' [4, 5, 6, 8] rfl rfl rfl (by first | assumption | kernel_rfl) rfl (by first | exact hx1 | exact hx2) (by simp) (by simp) ?_ | refine yl_pure rfl rfl rfl (by first | assumption | kernel_rfl) rfl (by first | exact hx1 | exact hx2) (by simp) (by simp) ?_ | refine aw_skip ?_ | refine aw_exit ?_); try simp -implicitDefEqProofs (maxSteps := 1000000))
              | (refine aw_cond rfl (fun h => ?_) (fun h => ?_) <;> try (with_reducible first | exact ff_tt h | exact tt_ff h))
              | refine aw_block ?_
              | refine aw_ret (ret_of (.inr rfl) (by simp [Try.results43]; rfl) (Fin.close (Fin.of ?_)))
              | refine ret_of (.inl rfl) (by simp [Try.results43]; rfl) (Fin.close (Fin.of ?_)))
            all_goals first | (simp [tupOf, badT, Tree.av, avs]; done) | (simp at *; done) | trace_state
  · rw [if_neg h1, Tree.av]
    have k1 : ¬ k = 1 := fun h => h1 (.inl h)
    have k6 : ¬ k = 6 := fun h => h1 (.inr h)
    refine apure_of Try.func43 Try.ntmps43 rfl ?_
    simp only [List.length_cons, List.length_nil, List.cons_append, List.nil_append, List.replicate]
    repeat' (first
      | refine aw_seq ?_
      | ((first | refine aw_run [4, 5, 6, 8] ?_ | refine aw_ymix [4, 5, 6, 8] draws (by decide +kernel) ?_); try simp -implicitDefEqProofs (maxSteps := 1000000) [k1, k6])
      | ((first | refine aw_zrun [4, 5, 6, 8] [] draws (by decide +kernel) (by decide +kernel) ?_ | refine zl_skip (by simp) rfl ?_); try simp -implicitDefEqProofs (maxSteps := 1000000) [k1, k6]; repeat first | refine zcurL (by decide +kernel) ?_ | refine zcurH (by decide +kernel) ?_ | refine zcurL' (by decide +kernel) ?_ | refine zcurH' (by decide +kernel) ?_)
      | ((first | refine aw_yrun draws (by kernel_rfl) ?_ | refine awl_skip' [4, 5, 6, 8] rfl ?_ | refine yl_skip rfl ?_ | refine aw_skip ?_ | refine aw_exit ?_); try simp -implicitDefEqProofs (maxSteps := 1000000) [k1, k6])
      | (refine aw_cond rfl (fun h => ?_) (fun h => ?_) <;> try (with_reducible first | exact ff_tt h | exact tt_ff h))
      | refine aw_block ?_
      | refine aw_ret (ret_of (.inr rfl) (by simp [Try.results43]; rfl) (Fin.close (Fin.of ?_)))
      | refine ret_of (.inl rfl) (by simp [Try.results43]; rfl) (Fin.close (Fin.of ?_)))
    refine aw_openBx (b := 1) (i := 7) (cs := [vi k, vi n, vi a, vi b, vi c, vi d, vs w, .p (.slice none 0 0)]) (by simp) rfl ?_
    simp -implicitDefEqProofs
    refine aw_loopW [2, 3, 4, 5, 10] (fun q fr σ => ∃ i M id : Nat, i + q = ks.length ∧ 2 ≤ id ∧ id < M ∧ σ = mkSt [(0, [vi 0, vi 0, vi 0, vi 0, vi 0, vi 0, vs ⟨#[]⟩, .p (.slice none 0 0)]), (1, [vi k, vi n, vi a, vi b, vi c, vi d, vs w, .hsl id 0 i])] [(id, avs (moveds x y (ks.take i)))] M ∧
      fr = frm 75 [(2, .vel [.agg [vi k, vi n, vi a, vi b, vi c, vi d, vs w, .vsl (avs ks)]] 0 0), (3, .vel [place x y] 0 0), (4, .ptr 0 0), (5, .ptr 1 0), (10, vi (i : Nat))]) ks.length ?_ ?_
    · exact ⟨mkSt [(0, [vi 0, vi 0, vi 0, vi 0, vi 0, vi 0, vs ⟨#[]⟩, .p (.slice none 0 0)]), (1, [vi k, vi n, vi a, vi b, vi c, vi d, vs w, .hsl 2 0 0])] [(2, avs [])] (2 + 1), le_mkSt (by simp) (by simp [avs]) (by simp), 0, 2 + 1, 2, by omega, by omega, by omega, by simp [moveds], by simp⟩
    · rintro q fr σ ⟨i, M, id, hi, hid, hM, rfl, rfl⟩
      simp -implicitDefEqProofs
      have i0 : ¬ 0 = id := by omega
      have i1 : ¬ 1 = id := by omega
      have m0 : ¬ 0 = M := by omega
      have m1 : ¬ 1 = M := by omega
      have m2 : ¬ id = M := by omega
      have hml : (avs (moveds x y (ks.take i))).length = i := by rw [avs_len, moveds_map, List.length_map, List.length_take]; omega
      have hml' : (moveds x y (ks.take i)).length = i := by rw [moveds_map, List.length_map, List.length_take]; omega
      by_cases hlt : i < ks.length
      · have hlti : (i : Int) < ks.length := by omega
        obtain ⟨t, ht⟩ : ∃ t, ks[i] = t := ⟨_, rfl⟩
        have hmem : t ∈ ks := ht ▸ List.getElem_mem hlt
        have hts := tszs_mem hmem
        have hr := ih t hmem (hsh t hmem) (by omega)
        have hg := avs_get hlt
        rw [ht] at hg
        have hla : i < (avs ks).length := by omega
        have wi : IntKind.i64.wrap ((i : Int) + 1) = (i : Int) + 1 := wrap_id (by omega) (by omega)
        have hmv : moveds x y (ks.take (i + 1)) = moveds x y (ks.take i) ++ [movedT x y t] := by
          rw [moveds_map, moveds_map, List.take_add_one, List.getElem?_eq_getElem hlt, ht]; simp
        generalize movedT x y t = u at *
        obtain ⟨tk, tn, ta, tb, tc, td, tw, tks⟩ := t
        obtain ⟨uk, un, ua, ub, uc, ud, uw, uks⟩ := u
        rw [Tree.av] at hr hg
        rw [Tree.av] at hr
        repeat' (first
          | refine aw_seq ?_
          | ((first | refine aw_run [4, 5, 6, 8] ?_ | refine aw_ymix [4, 5, 6, 8] draws (by decide +kernel) ?_); try simp -implicitDefEqProofs (maxSteps := 1000000) [List.lookup, hl, hlti, hla, hg, wi, i0, i1, m0, m1, m2])
          | ((first | refine aw_zrun [4, 5, 6, 8] [] draws (by decide +kernel) (by decide +kernel) ?_ | refine zl_skip (by simp) rfl ?_ | refine zl_pure_guard (by simp) rfl rfl rfl (by first | assumption | kernel_rfl) rfl (fun hc => by first | exact hr) (by simp) (by simp) (by simp) ?_ | refine zl_pure (by simp) rfl rfl rfl (by first | assumption | kernel_rfl) rfl (by first | exact hr) (by simp) (by simp) ?_); try simp -implicitDefEqProofs (maxSteps := 1000000) [List.lookup, hl, hlti, hla, hg, wi, i0, i1, m0, m1, m2]; repeat first | refine zcurL (by decide +kernel) ?_ | refine zcurH (by decide +kernel) ?_ | refine zcurL' (by decide +kernel) ?_ | refine zcurH' (by decide +kernel) ?_)
          | ((first | refine aw_yrun draws (by kernel_rfl) ?_ | refine awl_skip' [4, 5, 6, 8] rfl ?_ | refine yl_skip rfl ?_ | refine awl_pure_guard [4, 5, 6, 8] rfl rfl rfl (by first | assumption | kernel_rfl) rfl (fun hc => by first | exact hr) (by simp) (by simp) (by simp) ?_ | refine yl_pureG rfl rfl rfl (by first | assumption | kernel_rfl) rfl (fun hc => by first | exact hr) (by simp) (by simp) (by simp) ?_ | refine awl_pure' [4, 5, 6, 8] rfl rfl rfl (by first | assumption | kernel_rfl) rfl (by first | exact hr) (by simp) (by simp) ?_ | refine yl_pure rfl rfl rfl (by first | assumption | kernel_rfl) rfl (by first | exact hr) (by simp) (by simp) ?_ | refine aw_skip ?_ | refine aw_exit ?_); try simp -implicitDefEqProofs (maxSteps := 1000000) [List.lookup, hl, hlti, hla, hg, wi, i0, i1, m0, m1, m2])
          | (refine aw_cond rfl (fun h => ?_) (fun h => ?_) <;> try (with_reducible first | exact ff_tt h | exact tt_ff h))
          | refine aw_block ?_
          | refine aw_ret (ret_of (.inr rfl) (by simp [Try.results43]; rfl) (Fin.of ?_))
          | refine ret_of (.inl rfl) (by simp [Try.results43]; rfl) (Fin.of ?_))
        refine zl_append (by simp) rfl rfl rfl (xs := avs (moveds x y (ks.take i))) (by simp) (by simp [hml]) rfl (by simp) te27 tet27 tz29 rfl (fun y hy => (avs_ok _ y hy).1) (by simp) (by simp; omega) (by simp; omega) ?_
        simp -implicitDefEqProofs [List.lookup, i0, i1, m0, m1, m2]
        repeat first | refine zcurL (by decide +kernel) ?_ | refine zcurH (by decide +kernel) ?_ | refine zcurL' (by decide +kernel) ?_ | refine zcurH' (by decide +kernel) ?_
        repeat' (first
          | refine aw_seq ?_
          | ((first | refine aw_run [4, 5, 6, 8] ?_ | refine aw_ymix [4, 5, 6, 8] draws (by decide +kernel) ?_); try simp -implicitDefEqProofs (maxSteps := 1000000) [List.lookup, hl, wi, i0, i1, m0, m1, m2])
          | ((first | refine aw_zrun [4, 5, 6, 8] [] draws (by decide +kernel) (by decide +kernel) ?_ | refine zl_skip (by simp) rfl ?_); try simp -implicitDefEqProofs (maxSteps := 1000000) [List.lookup, hl, wi, i0, i1, m0, m1, m2]; repeat first | refine zcurL (by decide +kernel) ?_ | refine zcurH (by decide +kernel) ?_ | refine zcurL' (by decide +kernel) ?_ | refine zcurH' (by decide +kernel) ?_)
          | ((first | refine aw_yrun draws (by kernel_rfl) ?_ | refine awl_skip' [4, 5, 6, 8] rfl ?_ | refine yl_skip rfl ?_ | refine aw_skip ?_ | refine aw_exit ?_); try simp -implicitDefEqProofs (maxSteps := 1000000) [List.lookup, hl, wi, i0, i1, m0, m1, m2])
          | (refine aw_cond rfl (fun h => ?_) (fun h => ?_) <;> try (with_reducible first | exact ff_tt h | exact tt_ff h))
          | refine aw_block ?_
          | refine aw_ret (ret_of (.inr rfl) (by simp [Try.results43]; rfl) (Fin.of ?_))
          | refine ret_of (.inl rfl) (by simp [Try.results43]; rfl) (Fin.of ?_))
        refine ⟨q - 1, by omega, mkSt [(0, [vi 0, vi 0, vi 0, vi 0, vi 0, vi 0, vs ⟨#[]⟩, .p (.slice none 0 0)]), (1, [vi k, vi n, vi a, vi b, vi c, vi d, vs w, .hsl M 0 (i + 1)])] [(M, avs (moveds x y (ks.take (i + 1))))] (M + 1), le_mkSt ?_ ?_ (by simp), i + 1, by omega, M + 1, M, by omega, by omega, rfl, by omega⟩
        · simp [List.lookup, i0, i1, m0, m1, m2]
        · simp [hmv, avs_map, Tree.av, List.take_of_length_le, hml']
      · have hlti : ¬ (i : Int) < ks.length := by omega
        have htk : ks.take i = ks := List.take_of_length_le (by omega)
        repeat' (first
          | refine aw_seq ?_
          | ((first | refine aw_run [4, 5, 6, 8] ?_ | refine aw_ymix [4, 5, 6, 8] draws (by decide +kernel) ?_); try simp -implicitDefEqProofs (maxSteps := 1000000) [List.lookup, hl, hlti, i0, i1])
          | ((first | refine aw_zrun [4, 5, 6, 8] [] draws (by decide +kernel) (by decide +kernel) ?_ | refine zl_skip (by simp) rfl ?_); try simp -implicitDefEqProofs (maxSteps := 1000000) [List.lookup, hl, hlti, i0, i1]; repeat first | refine zcurL (by decide +kernel) ?_ | refine zcurH (by decide +kernel) ?_ | refine zcurL' (by decide +kernel) ?_ | refine zcurH' (by decide +kernel) ?_)
          | ((first | refine aw_yrun draws (by kernel_rfl) ?_ | refine awl_skip' [4, 5, 6, 8] rfl ?_ | refine yl_skip rfl ?_ | refine aw_skip ?_ | refine aw_exit ?_); try simp -implicitDefEqProofs (maxSteps := 1000000) [List.lookup, hl, hlti, i0, i1])
          | (refine aw_cond rfl (fun h => ?_) (fun h => ?_) <;> try (with_reducible first | exact ff_tt h | exact tt_ff h))
          | refine aw_block ?_
          | refine aw_ret (ret_of (.inr rfl) (by simp [Try.results43]; rfl) (Fin.close (Fin.of ?_)))
          | refine ret_of (.inl rfl) (by simp [Try.results43]; rfl) (Fin.close (Fin.of ?_)))
        rw [htk] at hml
        simp [tupOf, List.lookup, htk, List.take_of_length_le, hml]
end Go.AL
/-! Contracts: gridironref06.Shift; shape.reads. -/
namespace Go.AL
open Go.Proofs
set_option linter.unusedSimpArgs false
set_option linter.unusedVariables false
set_option maxHeartbeats 8000000 in
set_option maxRecDepth 100000 in
theorem rShift_ok (t : Tree) (x y : Int) (h : t.sh) (hs : tszT t ≤ 1000000000) : APure Try.prog 11 [t.av, place x y] (.tup [(if rightB t = true then movedT x y t else zeroT).av, vi (if rightB t = true then 0 else 1)]) := by
  have hu := rmoved_ok x y t h hs
  have hr := rright5_ok t h (by have := deep_le_size t; omega)
  generalize rightB t = rb at *
  generalize movedT x y t = u at *
  obtain ⟨k, n, a, b, c, d, w, ks⟩ := t
  obtain ⟨uk, un, ua, ub, uc, ud, uw, uks⟩ := u
  cases rb with
  | true =>
    rw [Tree.av] at hr hu
    rw [Tree.av] at hu
    rw [Tree.av, if_pos rfl, if_pos rfl, Tree.av]
    refine apure_of Try.func11 Try.ntmps11 rfl ?_
    simp only [List.length_cons, List.length_nil, List.cons_append, List.nil_append, List.replicate]
    repeat' (first
      | refine aw_seq ?_
      | (refine aw_run [4] ?_; try simp -implicitDefEqProofs (maxSteps := 1000000))
      | ((first | refine awl_skip' [4] rfl ?_ | refine awl_pure_guard [4] rfl rfl rfl (by first | assumption | kernel_rfl) rfl (fun hc => by first | exact hr | exact hu) (by simp) (by simp) (by simp) ?_ | refine awl_pure' [4] rfl rfl rfl (by first | assumption | kernel_rfl) rfl (by first | exact hr | exact hu) (by simp) (by simp) ?_ | refine aw_skip ?_ | refine aw_exit ?_); try simp -implicitDefEqProofs (maxSteps := 1000000))
      | (refine aw_cond rfl (fun h => ?_) (fun h => ?_) <;> try (with_reducible first | exact ff_tt h | exact tt_ff h))
      | refine aw_block ?_
      | refine aw_ret (ret_of (.inr rfl) (by simp [Try.results11]; rfl) (Fin.close (Fin.of ?_)))
      | refine ret_of (.inl rfl) (by simp [Try.results11]; rfl) (Fin.close (Fin.of ?_)))
    all_goals first | (simp [tupOf]; done) | trace_state
  | false =>
    rw [Tree.av] at hr hu
    rw [Tree.av, if_neg (by decide), if_neg (by decide)]
    refine apure_of Try.func11 Try.ntmps11 rfl ?_
    simp only [List.length_cons, List.length_nil, List.cons_append, List.nil_append, List.replicate]
    repeat' (first
      | refine aw_seq ?_
      | (refine aw_run [4] ?_; try simp -implicitDefEqProofs (maxSteps := 1000000))
      | ((first | refine awl_skip' [4] rfl ?_ | refine awl_pure_guard [4] rfl rfl rfl (by first | assumption | kernel_rfl) rfl (fun hc => by first | exact hr | exact hu) (by simp) (by simp) (by simp) ?_ | refine awl_pure' [4] rfl rfl rfl (by first | assumption | kernel_rfl) rfl (by first | exact hr | exact hu) (by simp) (by simp) ?_ | refine aw_skip ?_ | refine aw_exit ?_); try simp -implicitDefEqProofs (maxSteps := 1000000))
      | (refine aw_cond rfl (fun h => ?_) (fun h => ?_) <;> try (with_reducible first | exact ff_tt h | exact tt_ff h))
      | refine aw_block ?_
      | refine aw_ret (ret_of (.inr rfl) (by simp [Try.results11]; rfl) (Fin.close (Fin.of ?_)))
      | refine ret_of (.inl rfl) (by simp [Try.results11]; rfl) (Fin.close (Fin.of ?_)))
    all_goals first | (simp [tupOf, zeroT, Tree.av, avs]; done) | trace_state
set_option maxHeartbeats 8000000 in
set_option maxRecDepth 100000 in
theorem reads_ok (t : Tree) : APure Try.prog 45 [t.av] (vb (decide (t.kind = 1) || decide (t.kind = 6))) := by
  obtain ⟨k, n, a, b, c, d, w, ks⟩ := t
  rw [Tree.av]
  simp only [Tree.kind]
  refine apure_of Try.func45 Try.ntmps45 rfl ?_
  simp only [List.length_cons, List.length_nil, List.cons_append, List.nil_append, List.replicate]
  repeat' (first
    | refine aw_seq ?_
    | (refine aw_run [] ?_; try simp -implicitDefEqProofs (maxSteps := 1000000))
    | ((first | refine awl_skip' [] rfl ?_ | refine aw_skip ?_ | refine aw_exit ?_); try simp -implicitDefEqProofs (maxSteps := 1000000))
    | (refine aw_cond rfl (fun h => ?_) (fun h => ?_) <;> try (with_reducible first | exact ff_tt h | exact tt_ff h))
    | refine aw_block ?_
    | refine aw_ret (ret_of (.inr rfl) (by simp [Try.results45]; rfl) (Fin.of ?_))
    | refine ret_of (.inl rfl) (by simp [Try.results45]; rfl) (Fin.of ?_))
  all_goals first | rfl | (simp [tupOf]; done) | trace_state
end Go.AL
/-! Contracts: syntax.bare, fits. -/
namespace Go.AL
open Go.Proofs
set_option linter.unusedSimpArgs false
set_option linter.unusedVariables false
def bareT : Tree → Tree
  | .mk k n a b c d w ks => .mk k (if k = 0 then n else 0) (if k = 1 ∨ k = 6 then a else 0) (if k = 1 ∨ k = 6 then b else 0) (if k = 1 ∨ k = 6 then c else 0) (if k = 1 ∨ k = 6 then d else 0) (if k = 4 ∨ k = 5 then w else ⟨#[]⟩) ks
set_option maxHeartbeats 8000000 in
set_option maxRecDepth 100000 in
theorem bare_ok (t : Tree) : APure Try.prog 134 [t.av] (bareT t).av := by
  obtain ⟨k, n, a, b, c, d, w, ks⟩ := t
  rw [bareT, Tree.av, Tree.av]
  by_cases h0 : k = 0
  · subst h0
    refine apure_of Try.func134 Try.ntmps134 rfl ?_
    simp only [List.length_cons, List.length_nil, List.cons_append, List.nil_append, List.replicate]
    repeat' (first
      | refine aw_seq ?_
      | (refine aw_run [2, 3] ?_; try simp -implicitDefEqProofs (maxSteps := 1000000) [List.lookup])
      | ((first | refine awl_skip' [2, 3] rfl ?_ | refine aw_skip ?_ | refine aw_exit ?_); try simp -implicitDefEqProofs (maxSteps := 1000000) [List.lookup])
      | (refine aw_cond rfl (fun h => ?_) (fun h => ?_) <;> try (with_reducible first | exact ff_tt h | exact tt_ff h))
      | refine aw_block ?_
      | refine aw_ret (ret_of (.inr rfl) (by simp [Try.results134]; rfl) (Fin.close (Fin.of ?_)))
      | refine ret_of (.inl rfl) (by simp [Try.results134]; rfl) (Fin.close (Fin.of ?_)))
    all_goals first | (simp [tupOf, List.lookup]; done) | (simp at *; done) | trace_state
  by_cases h1 : k = 1
  · subst h1
    refine apure_of Try.func134 Try.ntmps134 rfl ?_
    simp only [List.length_cons, List.length_nil, List.cons_append, List.nil_append, List.replicate]
    repeat' (first
      | refine aw_seq ?_
      | (refine aw_run [2, 3] ?_; try simp -implicitDefEqProofs (maxSteps := 1000000) [List.lookup])
      | ((first | refine awl_skip' [2, 3] rfl ?_ | refine aw_skip ?_ | refine aw_exit ?_); try simp -implicitDefEqProofs (maxSteps := 1000000) [List.lookup])
      | (refine aw_cond rfl (fun h => ?_) (fun h => ?_) <;> try (with_reducible first | exact ff_tt h | exact tt_ff h))
      | refine aw_block ?_
      | refine aw_ret (ret_of (.inr rfl) (by simp [Try.results134]; rfl) (Fin.close (Fin.of ?_)))
      | refine ret_of (.inl rfl) (by simp [Try.results134]; rfl) (Fin.close (Fin.of ?_)))
    all_goals first | (simp [tupOf, List.lookup]; done) | (simp at *; done) | trace_state
  by_cases h6 : k = 6
  · subst h6
    refine apure_of Try.func134 Try.ntmps134 rfl ?_
    simp only [List.length_cons, List.length_nil, List.cons_append, List.nil_append, List.replicate]
    repeat' (first
      | refine aw_seq ?_
      | (refine aw_run [2, 3] ?_; try simp -implicitDefEqProofs (maxSteps := 1000000) [List.lookup])
      | ((first | refine awl_skip' [2, 3] rfl ?_ | refine aw_skip ?_ | refine aw_exit ?_); try simp -implicitDefEqProofs (maxSteps := 1000000) [List.lookup])
      | (refine aw_cond rfl (fun h => ?_) (fun h => ?_) <;> try (with_reducible first | exact ff_tt h | exact tt_ff h))
      | refine aw_block ?_
      | refine aw_ret (ret_of (.inr rfl) (by simp [Try.results134]; rfl) (Fin.close (Fin.of ?_)))
      | refine ret_of (.inl rfl) (by simp [Try.results134]; rfl) (Fin.close (Fin.of ?_)))
    all_goals first | (simp [tupOf, List.lookup]; done) | (simp at *; done) | trace_state
  by_cases h4 : k = 4
  · subst h4
    refine apure_of Try.func134 Try.ntmps134 rfl ?_
    simp only [List.length_cons, List.length_nil, List.cons_append, List.nil_append, List.replicate]
    repeat' (first
      | refine aw_seq ?_
      | (refine aw_run [2, 3] ?_; try simp -implicitDefEqProofs (maxSteps := 1000000) [List.lookup])
      | ((first | refine awl_skip' [2, 3] rfl ?_ | refine aw_skip ?_ | refine aw_exit ?_); try simp -implicitDefEqProofs (maxSteps := 1000000) [List.lookup])
      | (refine aw_cond rfl (fun h => ?_) (fun h => ?_) <;> try (with_reducible first | exact ff_tt h | exact tt_ff h))
      | refine aw_block ?_
      | refine aw_ret (ret_of (.inr rfl) (by simp [Try.results134]; rfl) (Fin.close (Fin.of ?_)))
      | refine ret_of (.inl rfl) (by simp [Try.results134]; rfl) (Fin.close (Fin.of ?_)))
    all_goals first | (simp [tupOf, List.lookup]; done) | (simp at *; done) | trace_state
  by_cases h5 : k = 5
  · subst h5
    refine apure_of Try.func134 Try.ntmps134 rfl ?_
    simp only [List.length_cons, List.length_nil, List.cons_append, List.nil_append, List.replicate]
    repeat' (first
      | refine aw_seq ?_
      | (refine aw_run [2, 3] ?_; try simp -implicitDefEqProofs (maxSteps := 1000000) [List.lookup])
      | ((first | refine awl_skip' [2, 3] rfl ?_ | refine aw_skip ?_ | refine aw_exit ?_); try simp -implicitDefEqProofs (maxSteps := 1000000) [List.lookup])
      | (refine aw_cond rfl (fun h => ?_) (fun h => ?_) <;> try (with_reducible first | exact ff_tt h | exact tt_ff h))
      | refine aw_block ?_
      | refine aw_ret (ret_of (.inr rfl) (by simp [Try.results134]; rfl) (Fin.close (Fin.of ?_)))
      | refine ret_of (.inl rfl) (by simp [Try.results134]; rfl) (Fin.close (Fin.of ?_)))
    all_goals first | (simp [tupOf, List.lookup]; done) | (simp at *; done) | trace_state
  refine apure_of Try.func134 Try.ntmps134 rfl ?_
  simp only [List.length_cons, List.length_nil, List.cons_append, List.nil_append, List.replicate]
  repeat' (first
    | refine aw_seq ?_
    | (refine aw_run [2, 3] ?_; try simp -implicitDefEqProofs (maxSteps := 1000000) [h0, h1, h6, h4, h5])
    | ((first | refine awl_skip' [2, 3] rfl ?_ | refine aw_skip ?_ | refine aw_exit ?_); try simp -implicitDefEqProofs (maxSteps := 1000000) [h0, h1, h6, h4, h5])
    | (refine aw_cond rfl (fun h => ?_) (fun h => ?_) <;> try (with_reducible first | exact ff_tt h | exact tt_ff h))
    | refine aw_block ?_
    | refine aw_ret (ret_of (.inr rfl) (by simp [Try.results134]; rfl) (Fin.close (Fin.of ?_)))
    | refine ret_of (.inl rfl) (by simp [Try.results134]; rfl) (Fin.close (Fin.of ?_)))
  all_goals first | (simp [tupOf, h0, h1, h6, h4, h5]; done) | (simp at *; done) | trace_state
def fitsK (t u : Tree) : Bool := match t with
  | .mk k _ _ _ _ _ w _ => if k = 5 ∧ w = bCOUNT then decide (u.kind = 6) || decide (u.kind = 2) else if k = 5 ∧ w ≠ bIF then true else !decide (u.kind = 6)
set_option maxHeartbeats 8000000 in
set_option maxRecDepth 100000 in
theorem fits_ok (t u : Tree) : APure Try.prog 101 [t.av, u.av] (vb (fitsK t u)) := by
  obtain ⟨k, n, a, b, c, d, w, ks⟩ := t
  obtain ⟨uk, un, ua, ub, uc, ud, uw, uks⟩ := u
  rw [fitsK, Tree.av, Tree.av]
  simp only [Tree.kind]
  by_cases h5 : k = 5
  · subst h5
    by_cases hc : w = bCOUNT
    · subst hc
      rw [if_pos ⟨rfl, rfl⟩]
      refine apure_of Try.func101 Try.ntmps101 rfl ?_
      simp only [List.length_cons, List.length_nil, List.cons_append, List.nil_append, List.replicate]
      repeat' (first
        | refine aw_seq ?_
        | (refine aw_run [] ?_; try simp -implicitDefEqProofs (maxSteps := 1000000) [List.lookup])
        | ((first | refine awl_skip' [] rfl ?_ | refine aw_skip ?_ | refine aw_exit ?_); try simp -implicitDefEqProofs (maxSteps := 1000000) [List.lookup])
        | (refine aw_cond rfl (fun h => ?_) (fun h => ?_) <;> try (with_reducible first | exact ff_tt h | exact tt_ff h))
        | refine aw_block ?_
        | refine aw_ret (ret_of (.inr rfl) (by simp [Try.results101]; rfl) (Fin.of ?_))
        | refine ret_of (.inl rfl) (by simp [Try.results101]; rfl) (Fin.of ?_))
      all_goals first | rfl | (simp [tupOf, List.lookup]; done) | (simp at *; done) | trace_state
    · rw [if_neg (fun h => hc h.2)]
      by_cases hi : w = bIF
      · subst hi
        rw [if_neg (fun h => h.2 rfl)]
        refine apure_of Try.func101 Try.ntmps101 rfl ?_
        simp only [List.length_cons, List.length_nil, List.cons_append, List.nil_append, List.replicate]
        repeat' (first
          | refine aw_seq ?_
          | (refine aw_run [] ?_; try simp -implicitDefEqProofs (maxSteps := 1000000) [List.lookup])
          | ((first | refine awl_skip' [] rfl ?_ | refine aw_skip ?_ | refine aw_exit ?_); try simp -implicitDefEqProofs (maxSteps := 1000000) [List.lookup])
          | (refine aw_cond rfl (fun h => ?_) (fun h => ?_) <;> try (with_reducible first | exact ff_tt h | exact tt_ff h))
          | refine aw_block ?_
          | refine aw_ret (ret_of (.inr rfl) (by simp [Try.results101]; rfl) (Fin.of ?_))
          | refine ret_of (.inl rfl) (by simp [Try.results101]; rfl) (Fin.of ?_))
        all_goals first | rfl | (simp [tupOf, List.lookup]; done) | (simp at *; done) | trace_state
      · rw [if_pos ⟨rfl, hi⟩]
        refine apure_of Try.func101 Try.ntmps101 rfl ?_
        simp only [List.length_cons, List.length_nil, List.cons_append, List.nil_append, List.replicate]
        repeat' (first
          | refine aw_seq ?_
          | (refine aw_run [] ?_; try simp -implicitDefEqProofs (maxSteps := 1000000) [hc, hi])
          | ((first | refine awl_skip' [] rfl ?_ | refine aw_skip ?_ | refine aw_exit ?_); try simp -implicitDefEqProofs (maxSteps := 1000000) [hc, hi])
          | (refine aw_cond rfl (fun h => ?_) (fun h => ?_) <;> try (with_reducible first | exact ff_tt h | exact tt_ff h))
          | refine aw_block ?_
          | refine aw_ret (ret_of (.inr rfl) (by simp [Try.results101]; rfl) (Fin.of ?_))
          | refine ret_of (.inl rfl) (by simp [Try.results101]; rfl) (Fin.of ?_))
        all_goals first | rfl | (simp [tupOf, hc, hi]; done) | (simp at *; done) | trace_state
  · rw [if_neg (fun h => h5 h.1), if_neg (fun h => h5 h.1)]
    refine apure_of Try.func101 Try.ntmps101 rfl ?_
    simp only [List.length_cons, List.length_nil, List.cons_append, List.nil_append, List.replicate]
    repeat' (first
      | refine aw_seq ?_
      | (refine aw_run [] ?_; try simp -implicitDefEqProofs (maxSteps := 1000000) [h5])
      | ((first | refine awl_skip' [] rfl ?_ | refine aw_skip ?_ | refine aw_exit ?_); try simp -implicitDefEqProofs (maxSteps := 1000000) [h5])
      | (refine aw_cond rfl (fun h => ?_) (fun h => ?_) <;> try (with_reducible first | exact ff_tt h | exact tt_ff h))
      | refine aw_block ?_
      | refine aw_ret (ret_of (.inr rfl) (by simp [Try.results101]; rfl) (Fin.of ?_))
      | refine ret_of (.inl rfl) (by simp [Try.results101]; rfl) (Fin.of ?_))
    all_goals first | rfl | (simp [tupOf, h5]; done) | (simp at *; done) | trace_state
end Go.AL
