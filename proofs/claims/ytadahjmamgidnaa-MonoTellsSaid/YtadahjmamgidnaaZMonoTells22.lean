/- Parts of the proof of MonoTells: the logic, contracts, plain laws. -/
import Derived.Test.YtadahjmamgidnaaZMonoTells21
/-! Contracts: gridironref05.only, Same; gridironref06.uses, count. -/
namespace Go.AL
open Go.Proofs
set_option linter.unusedSimpArgs false
set_option linter.unusedVariables false
def onlyB (t : Tree) (m : Int) : Bool := match t with
  | .mk k n a b c d w ks => (decide (k = 0) || decide (n = 0)) && (decide (k = 1) || decide (k = 6) || (decide (a = 0) && decide (b = 0) && decide (c = 0) && decide (d = 0))) && (decide (k = 4) || decide (k = 5) || decide (w = ⟨#[]⟩)) && decide ((ks.length : Int) = m)
set_option maxHeartbeats 8000000 in
set_option maxRecDepth 100000 in
theorem only_ok (t : Tree) (m : Int) : APure Try.prog 78 [t.av, vi m] (vb (onlyB t m)) := by
  obtain ⟨k, n, a, b, c, d, w, ks⟩ := t
  have hl := avs_len ks
  rw [Tree.av, onlyB]
  refine apure_of Try.func78 Try.ntmps78 rfl ?_
  simp only [List.length_cons, List.length_nil, List.cons_append, List.nil_append, List.replicate]
  repeat' (first
    | refine aw_seq ?_
    | (refine aw_run [] ?_; try simp -implicitDefEqProofs (maxSteps := 1000000) [hl])
    | ((first | refine awl_skip' [] rfl ?_ | refine aw_skip ?_ | refine aw_exit ?_); try simp -implicitDefEqProofs (maxSteps := 1000000) [hl])
    | (refine aw_cond rfl (fun h => ?_) (fun h => ?_) <;> try (with_reducible first | exact ff_tt h | exact tt_ff h))
    | refine aw_block ?_
    | refine aw_ret (ret_of (.inr rfl) (by simp [Try.results78]; rfl) (Fin.of ?_))
    | refine ret_of (.inl rfl) (by simp [Try.results78]; rfl) (Fin.of ?_))
  simp [tupOf, Bool.and_assoc]
mutual
def usesB (x y : Int) : Tree → Bool
  | .mk k _ a b c d _ ks => if k = 1 ∨ k = 6 then hasP a b c d x y else usesBs x y ks
def usesBs (x y : Int) : List Tree → Bool
  | [] => false
  | t :: ts => usesB x y t || usesBs x y ts
end
theorem usesBs_any (x y : Int) : ∀ l : List Tree, usesBs x y l = l.any (usesB x y)
  | [] => rfl
  | t :: ts => by rw [usesBs, usesBs_any x y ts]; rfl
theorem any_take {p : Tree → Bool} {l : List Tree} {i : Nat} (h : i < l.length) (h1 : (l.take i).any p = false) (h2 : p l[i] = false) : (l.take (i + 1)).any p = false := by
  rw [List.take_add_one, List.getElem?_eq_getElem h, List.any_append, h1]; simp [h2]
theorem any_yes {p : Tree → Bool} {l : List Tree} {t : Tree} (h : t ∈ l) (h2 : p t = true) : l.any p = true := List.any_eq_true.2 ⟨t, h, h2⟩
def UsesP (x y : Int) (t : Tree) : Prop := t.sh → APure Try.prog 50 [t.av, place x y] (vb (usesB x y t))
set_option maxHeartbeats 8000000 in
set_option maxRecDepth 100000 in
theorem ruses_ok (x y : Int) : ∀ t, UsesP x y t := by
  refine Tree.byKids fun k n a b c d w ks ih => ?_
  intro hsh
  rw [Tree.sh, shs_all] at hsh
  obtain ⟨hlk, hsh⟩ := hsh
  have hl := avs_len ks
  rw [Tree.av, usesB]
  have hh := rhas_ok a b c d x y
  by_cases h1 : k = 1
  · simp only [h1, true_or, if_true]
    refine apure_of Try.func50 Try.ntmps50 rfl ?_
    simp only [List.length_cons, List.length_nil, List.cons_append, List.nil_append, List.replicate]
    repeat' (first
      | refine aw_seq ?_
      | ((first | refine aw_run [] ?_ | refine aw_ymix [] draws (by decide +kernel) ?_); try simp -implicitDefEqProofs (maxSteps := 1000000))
      | ((first | refine aw_zrun [] [] draws (by decide +kernel) (by decide +kernel) ?_ | refine zl_skip (by simp) rfl ?_ | refine zl_pure_guard (by simp) rfl rfl rfl (by first | assumption | kernel_rfl) rfl (fun hc => by first | exact hh) (by simp) (by simp) (by simp) ?_ | refine zl_pure (by simp) rfl rfl rfl (by first | assumption | kernel_rfl) rfl (by first | exact hh) (by simp) (by simp) ?_); try simp -implicitDefEqProofs (maxSteps := 1000000); repeat first | refine zcurL (by decide +kernel) ?_ | refine zcurH (by decide +kernel) ?_ | refine zcurL' (by decide +kernel) ?_ | refine zcurH' (by decide +kernel) ?_)
      | ((first | refine aw_yrun draws (by kernel_rfl) ?_ | refine awl_skip' [] rfl ?_ | refine yl_skip rfl ?_ | refine awl_pure_guard [] rfl rfl rfl (by first | assumption | kernel_rfl) rfl (fun hc => by first | exact hh) (by simp) (by simp) (by simp) ?_ | refine yl_pureG rfl rfl rfl (by first | assumption | kernel_rfl) rfl (fun hc => by first | exact hh) (by simp) (by simp) (by simp) ?_ | refine awl_pure' [] rfl rfl rfl (by first | assumption | kernel_rfl) rfl (by first | exact hh) (by simp) (by simp) ?_ | refine yl_pure rfl rfl rfl (by first | assumption | kernel_rfl) rfl (by first | exact hh) (by simp) (by simp) ?_ | refine aw_skip ?_ | refine aw_exit ?_); try simp -implicitDefEqProofs (maxSteps := 1000000))
      | (refine aw_cond rfl (fun h => ?_) (fun h => ?_) <;> try (with_reducible first | exact ff_tt h | exact tt_ff h))
      | refine aw_block ?_
      | refine aw_ret (ret_of (.inr rfl) (by simp [Try.results50]; rfl) (Fin.of ?_))
      | refine ret_of (.inl rfl) (by simp [Try.results50]; rfl) (Fin.of ?_))
    all_goals first | simp [tupOf] | simp at *
  by_cases h6 : k = 6
  · simp only [h6, or_true, if_true]
    refine apure_of Try.func50 Try.ntmps50 rfl ?_
    simp only [List.length_cons, List.length_nil, List.cons_append, List.nil_append, List.replicate]
    repeat' (first
      | refine aw_seq ?_
      | ((first | refine aw_run [] ?_ | refine aw_ymix [] draws (by decide +kernel) ?_); try simp -implicitDefEqProofs (maxSteps := 1000000))
      | ((first | refine aw_zrun [] [] draws (by decide +kernel) (by decide +kernel) ?_ | refine zl_skip (by simp) rfl ?_ | refine zl_pure_guard (by simp) rfl rfl rfl (by first | assumption | kernel_rfl) rfl (fun hc => by first | exact hh) (by simp) (by simp) (by simp) ?_ | refine zl_pure (by simp) rfl rfl rfl (by first | assumption | kernel_rfl) rfl (by first | exact hh) (by simp) (by simp) ?_); try simp -implicitDefEqProofs (maxSteps := 1000000); repeat first | refine zcurL (by decide +kernel) ?_ | refine zcurH (by decide +kernel) ?_ | refine zcurL' (by decide +kernel) ?_ | refine zcurH' (by decide +kernel) ?_)
      | ((first | refine aw_yrun draws (by kernel_rfl) ?_ | refine awl_skip' [] rfl ?_ | refine yl_skip rfl ?_ | refine awl_pure_guard [] rfl rfl rfl (by first | assumption | kernel_rfl) rfl (fun hc => by first | exact hh) (by simp) (by simp) (by simp) ?_ | refine yl_pureG rfl rfl rfl (by first | assumption | kernel_rfl) rfl (fun hc => by first | exact hh) (by simp) (by simp) (by simp) ?_ | refine awl_pure' [] rfl rfl rfl (by first | assumption | kernel_rfl) rfl (by first | exact hh) (by simp) (by simp) ?_ | refine yl_pure rfl rfl rfl (by first | assumption | kernel_rfl) rfl (by first | exact hh) (by simp) (by simp) ?_ | refine aw_skip ?_ | refine aw_exit ?_); try simp -implicitDefEqProofs (maxSteps := 1000000))
      | (refine aw_cond rfl (fun h => ?_) (fun h => ?_) <;> try (with_reducible first | exact ff_tt h | exact tt_ff h))
      | refine aw_block ?_
      | refine aw_ret (ret_of (.inr rfl) (by simp [Try.results50]; rfl) (Fin.of ?_))
      | refine ret_of (.inl rfl) (by simp [Try.results50]; rfl) (Fin.of ?_))
    all_goals first | simp [tupOf] | simp at *
  rw [if_neg (by omega), usesBs_any]
  refine apure_of Try.func50 Try.ntmps50 rfl ?_
  simp only [List.length_cons, List.length_nil, List.cons_append, List.nil_append, List.replicate]
  repeat' (first
    | refine aw_seq ?_
    | ((first | refine aw_run [] ?_ | refine aw_ymix [] draws (by decide +kernel) ?_); try simp -implicitDefEqProofs (maxSteps := 1000000) [h1, h6])
    | ((first | refine aw_zrun [] [] draws (by decide +kernel) (by decide +kernel) ?_ | refine zl_skip (by simp) rfl ?_); try simp -implicitDefEqProofs (maxSteps := 1000000) [h1, h6]; repeat first | refine zcurL (by decide +kernel) ?_ | refine zcurH (by decide +kernel) ?_ | refine zcurL' (by decide +kernel) ?_ | refine zcurH' (by decide +kernel) ?_)
    | ((first | refine aw_yrun draws (by kernel_rfl) ?_ | refine awl_skip' [] rfl ?_ | refine yl_skip rfl ?_ | refine aw_skip ?_ | refine aw_exit ?_); try simp -implicitDefEqProofs (maxSteps := 1000000) [h1, h6])
    | (refine aw_cond rfl (fun h => ?_) (fun h => ?_) <;> try (with_reducible first | exact ff_tt h | exact tt_ff h))
    | refine aw_block ?_
    | refine aw_ret (ret_of (.inr rfl) (by simp [Try.results50]; rfl) (Fin.of ?_))
    | refine ret_of (.inl rfl) (by simp [Try.results50]; rfl) (Fin.of ?_))
  refine aw_loopW [2, 3, 5] (fun q fr σ => ∃ i M : Nat, i + q = ks.length ∧ (ks.take i).any (usesB x y) = false ∧ σ = mkSt [] [] M ∧ fr = frm 34 [(2, .vel [.agg [vi k, vi n, vi a, vi b, vi c, vi d, vs w, .vsl (avs ks)]] 0 0), (3, .vel [place x y] 0 0), (5, vi (i : Nat))]) ks.length ?_ ?_
  · exact ⟨mkSt [] [] 0, le_mkSt (by simp) (by simp) (by simp [σ0]), 0, 0, by omega, by simp, rfl, by simp⟩
  · rintro q fr σ ⟨i, M, hi, hal, rfl, rfl⟩
    obtain ⟨hal0, hal0e⟩ : ∃ u, u = (ks.take i).any (usesB x y) := ⟨_, rfl⟩
    simp -implicitDefEqProofs
    by_cases hlt : i < ks.length
    · have hlti : (i : Int) < ks.length := by omega
      obtain ⟨t, ht⟩ : ∃ t, ks[i] = t := ⟨_, rfl⟩
      have hmem : t ∈ ks := ht ▸ List.getElem_mem hlt
      have hr := ih t hmem (hsh t hmem)
      have hg := avs_get hlt
      rw [ht] at hg
      have hla : i < (avs ks).length := by omega
      have wi : IntKind.i64.wrap ((i : Int) + 1) = (i : Int) + 1 := wrap_id (by omega) (by omega)
      cases hb : usesB x y t with
      | false =>
        rw [hb] at hr
        have hal' := any_take (p := usesB x y) hlt hal (by rw [ht]; exact hb)
        obtain ⟨tk, tn, ta, tb, tc, td, tw, tks⟩ := t
        rw [Tree.av] at hr hg
        repeat' (first
          | refine aw_seq ?_
          | ((first | refine aw_run [] ?_ | refine aw_ymix [] draws (by decide +kernel) ?_); try simp -implicitDefEqProofs (maxSteps := 1000000) [hl, hlti, hla, hg, wi])
          | ((first | refine aw_zrun [] [] draws (by decide +kernel) (by decide +kernel) ?_ | refine zl_skip (by simp) rfl ?_ | refine zl_pure_guard (by simp) rfl rfl rfl (by first | assumption | kernel_rfl) rfl (fun hc => by first | exact hr) (by simp) (by simp) (by simp) ?_ | refine zl_pure (by simp) rfl rfl rfl (by first | assumption | kernel_rfl) rfl (by first | exact hr) (by simp) (by simp) ?_); try simp -implicitDefEqProofs (maxSteps := 1000000) [hl, hlti, hla, hg, wi]; repeat first | refine zcurL (by decide +kernel) ?_ | refine zcurH (by decide +kernel) ?_ | refine zcurL' (by decide +kernel) ?_ | refine zcurH' (by decide +kernel) ?_)
          | ((first | refine aw_yrun draws (by kernel_rfl) ?_ | refine awl_skip' [] rfl ?_ | refine yl_skip rfl ?_ | refine awl_pure_guard [] rfl rfl rfl (by first | assumption | kernel_rfl) rfl (fun hc => by first | exact hr) (by simp) (by simp) (by simp) ?_ | refine yl_pureG rfl rfl rfl (by first | assumption | kernel_rfl) rfl (fun hc => by first | exact hr) (by simp) (by simp) (by simp) ?_ | refine awl_pure' [] rfl rfl rfl (by first | assumption | kernel_rfl) rfl (by first | exact hr) (by simp) (by simp) ?_ | refine yl_pure rfl rfl rfl (by first | assumption | kernel_rfl) rfl (by first | exact hr) (by simp) (by simp) ?_ | refine aw_skip ?_ | refine aw_exit ?_); try simp -implicitDefEqProofs (maxSteps := 1000000) [hl, hlti, hla, hg, wi])
          | (refine aw_cond rfl (fun h => ?_) (fun h => ?_) <;> try (with_reducible first | exact ff_tt h | exact tt_ff h))
          | refine aw_block ?_
          | refine aw_ret (ret_of (.inr rfl) (by simp [Try.results50]; rfl) (Fin.of ?_))
          | refine ret_of (.inl rfl) (by simp [Try.results50]; rfl) (Fin.of ?_))
        refine ⟨q - 1, by omega, mkSt [] [] M, le_mkSt (by simp) (by simp) (by simp), i + 1, by omega, by simpa using hal', ⟨M, rfl⟩, by omega⟩
      | true =>
        rw [hb] at hr
        have hno := any_yes (p := usesB x y) hmem hb
        obtain ⟨tk, tn, ta, tb, tc, td, tw, tks⟩ := t
        rw [Tree.av] at hr hg
        rw [hno]
        repeat' (first
          | refine aw_seq ?_
          | ((first | refine aw_run [] ?_ | refine aw_ymix [] draws (by decide +kernel) ?_); try simp -implicitDefEqProofs (maxSteps := 1000000) [hl, hlti, hla, hg, wi])
          | ((first | refine aw_zrun [] [] draws (by decide +kernel) (by decide +kernel) ?_ | refine zl_skip (by simp) rfl ?_ | refine zl_pure_guard (by simp) rfl rfl rfl (by first | assumption | kernel_rfl) rfl (fun hc => by first | exact hr) (by simp) (by simp) (by simp) ?_ | refine zl_pure (by simp) rfl rfl rfl (by first | assumption | kernel_rfl) rfl (by first | exact hr) (by simp) (by simp) ?_); try simp -implicitDefEqProofs (maxSteps := 1000000) [hl, hlti, hla, hg, wi]; repeat first | refine zcurL (by decide +kernel) ?_ | refine zcurH (by decide +kernel) ?_ | refine zcurL' (by decide +kernel) ?_ | refine zcurH' (by decide +kernel) ?_)
          | ((first | refine aw_yrun draws (by kernel_rfl) ?_ | refine awl_skip' [] rfl ?_ | refine yl_skip rfl ?_ | refine awl_pure_guard [] rfl rfl rfl (by first | assumption | kernel_rfl) rfl (fun hc => by first | exact hr) (by simp) (by simp) (by simp) ?_ | refine yl_pureG rfl rfl rfl (by first | assumption | kernel_rfl) rfl (fun hc => by first | exact hr) (by simp) (by simp) (by simp) ?_ | refine awl_pure' [] rfl rfl rfl (by first | assumption | kernel_rfl) rfl (by first | exact hr) (by simp) (by simp) ?_ | refine yl_pure rfl rfl rfl (by first | assumption | kernel_rfl) rfl (by first | exact hr) (by simp) (by simp) ?_ | refine aw_skip ?_ | refine aw_exit ?_); try simp -implicitDefEqProofs (maxSteps := 1000000) [hl, hlti, hla, hg, wi])
          | (refine aw_cond rfl (fun h => ?_) (fun h => ?_) <;> try (with_reducible first | exact ff_tt h | exact tt_ff h))
          | refine aw_block ?_
          | refine aw_ret (ret_of (.inr rfl) (by simp [Try.results50]; rfl) (Fin.of ?_))
          | refine ret_of (.inl rfl) (by simp [Try.results50]; rfl) (Fin.of ?_))
        simp [tupOf]
    · have hlti : ¬ (i : Int) < ks.length := by omega
      rw [List.take_of_length_le (by omega)] at hal
      rw [hal]
      repeat' (first
        | refine aw_seq ?_
        | ((first | refine aw_run [] ?_ | refine aw_ymix [] draws (by decide +kernel) ?_); try simp -implicitDefEqProofs (maxSteps := 1000000) [hl, hlti])
        | ((first | refine aw_zrun [] [] draws (by decide +kernel) (by decide +kernel) ?_ | refine zl_skip (by simp) rfl ?_); try simp -implicitDefEqProofs (maxSteps := 1000000) [hl, hlti]; repeat first | refine zcurL (by decide +kernel) ?_ | refine zcurH (by decide +kernel) ?_ | refine zcurL' (by decide +kernel) ?_ | refine zcurH' (by decide +kernel) ?_)
        | ((first | refine aw_yrun draws (by kernel_rfl) ?_ | refine awl_skip' [] rfl ?_ | refine yl_skip rfl ?_ | refine aw_skip ?_ | refine aw_exit ?_); try simp -implicitDefEqProofs (maxSteps := 1000000) [hl, hlti])
        | (refine aw_cond rfl (fun h => ?_) (fun h => ?_) <;> try (with_reducible first | exact ff_tt h | exact tt_ff h))
        | refine aw_block ?_
        | refine aw_ret (ret_of (.inr rfl) (by simp [Try.results50]; rfl) (Fin.of ?_))
        | refine ret_of (.inl rfl) (by simp [Try.results50]; rfl) (Fin.of ?_))
      simp [tupOf]
mutual
def cntT (kd : Int) : Tree → Nat
  | .mk k _ _ _ _ _ _ ks => (if kd < 0 ∨ k = kd then 1 else 0) + cnts kd ks
def cnts (kd : Int) : List Tree → Nat
  | [] => 0
  | t :: ts => cntT kd t + cnts kd ts
end
theorem cnts_append (kd : Int) : ∀ (l m : List Tree), cnts kd (l ++ m) = cnts kd l + cnts kd m
  | [], m => by simp [cnts]
  | t :: l, m => by rw [List.cons_append, cnts, cnts, cnts_append kd l m]; omega
theorem cnts_take {kd : Int} {l : List Tree} {i : Nat} (h : i < l.length) : cnts kd (l.take (i + 1)) = cnts kd (l.take i) + cntT kd l[i] := by
  rw [List.take_add_one, List.getElem?_eq_getElem h, cnts_append]; simp [cnts]
mutual
theorem cntT_le (kd : Int) : ∀ t, cntT kd t ≤ tszT t
  | .mk k _ _ _ _ _ _ ks => by have := cnts_le kd ks; rw [cntT, tszT]; split <;> omega
theorem cnts_le (kd : Int) : ∀ l, cnts kd l ≤ tszs l
  | [] => by simp [cnts, tszs]
  | t :: ts => by have := cntT_le kd t; have := cnts_le kd ts; rw [cnts, tszs]; omega
end
theorem tszs_mem : ∀ {l : List Tree} {t : Tree}, t ∈ l → tszT t ≤ tszs l
  | [], _, h => by cases h
  | u :: l, t, h => by
    rw [tszs]
    rcases List.mem_cons.1 h with rfl | h
    · omega
    · have := tszs_mem h; omega
def CntP (kd : Int) (t : Tree) : Prop := t.sh → tszT t ≤ 1000000000 → APure Try.prog 52 [t.av, vi kd] (vi (cntT kd t : Nat))
set_option maxHeartbeats 8000000 in
set_option maxRecDepth 100000 in
theorem rcount_ok (kd : Int) : ∀ t, CntP kd t := by
  refine Tree.byKids fun k n a b c d w ks ih => ?_
  intro hsh hsz
  rw [Tree.sh, shs_all] at hsh
  obtain ⟨hlk, hsh⟩ := hsh
  have hl := avs_len ks
  rw [tszT] at hsz
  rw [Tree.av, cntT]
  obtain ⟨one, hone⟩ : ∃ one : Nat, one = if kd < 0 ∨ k = kd then 1 else 0 := ⟨_, rfl⟩
  rw [← hone]
  have ho : one ≤ 1 := by rw [hone]; split <;> omega
  by_cases h1 : kd < 0
  · simp only [h1, true_or, if_true] at hone
    refine apure_of Try.func52 Try.ntmps52 rfl ?_
    simp only [List.length_cons, List.length_nil, List.cons_append, List.nil_append, List.replicate]
    repeat' (first
      | refine aw_seq ?_
      | (refine aw_run [] ?_; try simp -implicitDefEqProofs (maxSteps := 1000000) [h1])
      | ((first | refine awl_skip' [] rfl ?_ | refine aw_skip ?_ | refine aw_exit ?_); try simp -implicitDefEqProofs (maxSteps := 1000000) [h1])
      | (refine aw_cond rfl (fun h => ?_) (fun h => ?_) <;> try (with_reducible first | exact ff_tt h | exact tt_ff h))
      | refine aw_block ?_
      | refine aw_ret (ret_of (.inr rfl) (by simp [Try.results52]; rfl) (Fin.of ?_))
      | refine ret_of (.inl rfl) (by simp [Try.results52]; rfl) (Fin.of ?_))
    refine aw_loopW [1, 2, 5, 6] (fun q fr σ => ∃ i M : Nat, i + q = ks.length ∧ σ = mkSt [] [] M ∧ fr = frm 32 [(1, vi kd), (2, .vel [.agg [vi k, vi n, vi a, vi b, vi c, vi d, vs w, .vsl (avs ks)]] 0 0), (5, vi (one + cnts kd (ks.take i) : Nat)), (6, vi (i : Nat))]) ks.length ?_ ?_
    · exact ⟨mkSt [] [] 0, le_mkSt (by simp) (by simp) (by simp [σ0]), 0, 0, by omega, rfl, by simp [cnts, hone]⟩
    · rintro q fr σ ⟨i, M, hi, rfl, rfl⟩
      obtain ⟨nn, hnn⟩ : ∃ nn, nn = one + cnts kd (ks.take i) := ⟨_, rfl⟩
      rw [← hnn]
      simp
      have hcl : cnts kd (ks.take i) ≤ tszs (ks.take i) := cnts_le kd _
      have htk := tszs_le_take (l := ks) (i := i)
      by_cases hlt : i < ks.length
      · have hlti : (i : Int) < ks.length := by omega
        obtain ⟨t, ht⟩ : ∃ t, ks[i] = t := ⟨_, rfl⟩
        have hmem : t ∈ ks := ht ▸ List.getElem_mem hlt
        have hts := tszs_mem hmem
        have hr := ih t hmem (hsh t hmem) (by omega)
        have hg := avs_get hlt
        rw [ht] at hg
        have hla : i < (avs ks).length := by omega
        have hct := cnts_take (kd := kd) hlt
        rw [ht] at hct
        have hcm := cntT_le kd t
        have wi : IntKind.i64.wrap ((i : Int) + 1) = (i : Int) + 1 := wrap_id (by omega) (by omega)
        have wn : IntKind.i64.wrap ((nn : Int) + (cntT kd t : Nat)) = (nn : Int) + (cntT kd t : Nat) := wrap_id (by omega) (by omega)
        obtain ⟨tk, tn, ta, tb, tc, td, tw, tks⟩ := t
        rw [Tree.av] at hr hg
        repeat' (first
          | refine aw_seq ?_
          | (refine aw_run [] ?_; try simp -implicitDefEqProofs (maxSteps := 1000000) [hl, hlti, hla, hg, wi, wn])
          | ((first | refine awl_skip' [] rfl ?_ | refine awl_pure_guard [] rfl rfl rfl (by first | assumption | kernel_rfl) rfl (fun hc => by first | exact hr) (by simp) (by simp) (by simp) ?_ | refine awl_pure' [] rfl rfl rfl (by first | assumption | kernel_rfl) rfl (by first | exact hr) (by simp) (by simp) ?_ | refine aw_skip ?_ | refine aw_exit ?_); try simp -implicitDefEqProofs (maxSteps := 1000000) [hl, hlti, hla, hg, wi, wn])
          | (refine aw_cond rfl (fun h => ?_) (fun h => ?_) <;> try (with_reducible first | exact ff_tt h | exact tt_ff h))
          | refine aw_block ?_
          | refine aw_ret (ret_of (.inr rfl) (by simp [Try.results52]; rfl) (Fin.of ?_))
          | refine ret_of (.inl rfl) (by simp [Try.results52]; rfl) (Fin.of ?_))
        refine ⟨q - 1, by omega, mkSt [] [] M, le_mkSt (by simp) (by simp) (by simp), i + 1, by omega, ⟨M, rfl⟩, ?_, by omega⟩
        rw [hct]; omega
      · have hlti : ¬ (i : Int) < ks.length := by omega
        have htk : ks.take i = ks := List.take_of_length_le (by omega)
        rw [htk] at hnn
        have hnni : (nn : Int) = (one : Int) + (cnts kd ks : Nat) := by omega
        repeat' (first
          | refine aw_seq ?_
          | (refine aw_run [] ?_; try simp -implicitDefEqProofs (maxSteps := 1000000) [hl, hlti])
          | ((first | refine awl_skip' [] rfl ?_ | refine aw_skip ?_ | refine aw_exit ?_); try simp -implicitDefEqProofs (maxSteps := 1000000) [hl, hlti])
          | (refine aw_cond rfl (fun h => ?_) (fun h => ?_) <;> try (with_reducible first | exact ff_tt h | exact tt_ff h))
          | refine aw_block ?_
          | refine aw_ret (ret_of (.inr rfl) (by simp [Try.results52]; rfl) (Fin.of ?_))
          | refine ret_of (.inl rfl) (by simp [Try.results52]; rfl) (Fin.of ?_))
        simp [tupOf, hnni]
  · by_cases h2 : k = kd
    · have h2 := h2.symm
      subst h2
      simp only [or_true, if_true] at hone
      refine apure_of Try.func52 Try.ntmps52 rfl ?_
      simp only [List.length_cons, List.length_nil, List.cons_append, List.nil_append, List.replicate]
      repeat' (first
        | refine aw_seq ?_
        | (refine aw_run [] ?_; try simp -implicitDefEqProofs (maxSteps := 1000000) [h1])
        | ((first | refine awl_skip' [] rfl ?_ | refine aw_skip ?_ | refine aw_exit ?_); try simp -implicitDefEqProofs (maxSteps := 1000000) [h1])
        | (refine aw_cond rfl (fun h => ?_) (fun h => ?_) <;> try (with_reducible first | exact ff_tt h | exact tt_ff h))
        | refine aw_block ?_
        | refine aw_ret (ret_of (.inr rfl) (by simp [Try.results52]; rfl) (Fin.of ?_))
        | refine ret_of (.inl rfl) (by simp [Try.results52]; rfl) (Fin.of ?_))
      refine aw_loopW [1, 2, 5, 6] (fun q fr σ => ∃ i M : Nat, i + q = ks.length ∧ σ = mkSt [] [] M ∧ fr = frm 32 [(1, vi kd), (2, .vel [.agg [vi kd, vi n, vi a, vi b, vi c, vi d, vs w, .vsl (avs ks)]] 0 0), (5, vi (one + cnts kd (ks.take i) : Nat)), (6, vi (i : Nat))]) ks.length ?_ ?_
      · exact ⟨mkSt [] [] 0, le_mkSt (by simp) (by simp) (by simp [σ0]), 0, 0, by omega, rfl, by simp [cnts, hone]⟩
      · rintro q fr σ ⟨i, M, hi, rfl, rfl⟩
        obtain ⟨nn, hnn⟩ : ∃ nn, nn = one + cnts kd (ks.take i) := ⟨_, rfl⟩
        rw [← hnn]
        simp
        have hcl : cnts kd (ks.take i) ≤ tszs (ks.take i) := cnts_le kd _
        have htk := tszs_le_take (l := ks) (i := i)
        by_cases hlt : i < ks.length
        · have hlti : (i : Int) < ks.length := by omega
          obtain ⟨t, ht⟩ : ∃ t, ks[i] = t := ⟨_, rfl⟩
          have hmem : t ∈ ks := ht ▸ List.getElem_mem hlt
          have hts := tszs_mem hmem
          have hr := ih t hmem (hsh t hmem) (by omega)
          have hg := avs_get hlt
          rw [ht] at hg
          have hla : i < (avs ks).length := by omega
          have hct := cnts_take (kd := kd) hlt
          rw [ht] at hct
          have hcm := cntT_le kd t
          have wi : IntKind.i64.wrap ((i : Int) + 1) = (i : Int) + 1 := wrap_id (by omega) (by omega)
          have wn : IntKind.i64.wrap ((nn : Int) + (cntT kd t : Nat)) = (nn : Int) + (cntT kd t : Nat) := wrap_id (by omega) (by omega)
          obtain ⟨tk, tn, ta, tb, tc, td, tw, tks⟩ := t
          rw [Tree.av] at hr hg
          repeat' (first
            | refine aw_seq ?_
            | (refine aw_run [] ?_; try simp -implicitDefEqProofs (maxSteps := 1000000) [hl, hlti, hla, hg, wi, wn])
            | ((first | refine awl_skip' [] rfl ?_ | refine awl_pure_guard [] rfl rfl rfl (by first | assumption | kernel_rfl) rfl (fun hc => by first | exact hr) (by simp) (by simp) (by simp) ?_ | refine awl_pure' [] rfl rfl rfl (by first | assumption | kernel_rfl) rfl (by first | exact hr) (by simp) (by simp) ?_ | refine aw_skip ?_ | refine aw_exit ?_); try simp -implicitDefEqProofs (maxSteps := 1000000) [hl, hlti, hla, hg, wi, wn])
            | (refine aw_cond rfl (fun h => ?_) (fun h => ?_) <;> try (with_reducible first | exact ff_tt h | exact tt_ff h))
            | refine aw_block ?_
            | refine aw_ret (ret_of (.inr rfl) (by simp [Try.results52]; rfl) (Fin.of ?_))
            | refine ret_of (.inl rfl) (by simp [Try.results52]; rfl) (Fin.of ?_))
          refine ⟨q - 1, by omega, mkSt [] [] M, le_mkSt (by simp) (by simp) (by simp), i + 1, by omega, ⟨M, rfl⟩, ?_, by omega⟩
          rw [hct]; omega
        · have hlti : ¬ (i : Int) < ks.length := by omega
          have htk : ks.take i = ks := List.take_of_length_le (by omega)
          rw [htk] at hnn
          have hnni : (nn : Int) = (one : Int) + (cnts kd ks : Nat) := by omega
          repeat' (first
            | refine aw_seq ?_
            | (refine aw_run [] ?_; try simp -implicitDefEqProofs (maxSteps := 1000000) [hl, hlti])
            | ((first | refine awl_skip' [] rfl ?_ | refine aw_skip ?_ | refine aw_exit ?_); try simp -implicitDefEqProofs (maxSteps := 1000000) [hl, hlti])
            | (refine aw_cond rfl (fun h => ?_) (fun h => ?_) <;> try (with_reducible first | exact ff_tt h | exact tt_ff h))
            | refine aw_block ?_
            | refine aw_ret (ret_of (.inr rfl) (by simp [Try.results52]; rfl) (Fin.of ?_))
            | refine ret_of (.inl rfl) (by simp [Try.results52]; rfl) (Fin.of ?_))
          simp [tupOf, hnni]
    · simp only [h1, h2, or_self, if_false] at hone
      refine apure_of Try.func52 Try.ntmps52 rfl ?_
      simp only [List.length_cons, List.length_nil, List.cons_append, List.nil_append, List.replicate]
      repeat' (first
        | refine aw_seq ?_
        | (refine aw_run [] ?_; try simp -implicitDefEqProofs (maxSteps := 1000000) [h1, h2])
        | ((first | refine awl_skip' [] rfl ?_ | refine aw_skip ?_ | refine aw_exit ?_); try simp -implicitDefEqProofs (maxSteps := 1000000) [h1, h2])
        | (refine aw_cond rfl (fun h => ?_) (fun h => ?_) <;> try (with_reducible first | exact ff_tt h | exact tt_ff h))
        | refine aw_block ?_
        | refine aw_ret (ret_of (.inr rfl) (by simp [Try.results52]; rfl) (Fin.of ?_))
        | refine ret_of (.inl rfl) (by simp [Try.results52]; rfl) (Fin.of ?_))
      refine aw_loopW [1, 2, 5, 6] (fun q fr σ => ∃ i M : Nat, i + q = ks.length ∧ σ = mkSt [] [] M ∧ fr = frm 32 [(1, vi kd), (2, .vel [.agg [vi k, vi n, vi a, vi b, vi c, vi d, vs w, .vsl (avs ks)]] 0 0), (5, vi (one + cnts kd (ks.take i) : Nat)), (6, vi (i : Nat))]) ks.length ?_ ?_
      · exact ⟨mkSt [] [] 0, le_mkSt (by simp) (by simp) (by simp [σ0]), 0, 0, by omega, rfl, by simp [cnts, hone]⟩
      · rintro q fr σ ⟨i, M, hi, rfl, rfl⟩
        obtain ⟨nn, hnn⟩ : ∃ nn, nn = one + cnts kd (ks.take i) := ⟨_, rfl⟩
        rw [← hnn]
        simp
        have hcl : cnts kd (ks.take i) ≤ tszs (ks.take i) := cnts_le kd _
        have htk := tszs_le_take (l := ks) (i := i)
        by_cases hlt : i < ks.length
        · have hlti : (i : Int) < ks.length := by omega
          obtain ⟨t, ht⟩ : ∃ t, ks[i] = t := ⟨_, rfl⟩
          have hmem : t ∈ ks := ht ▸ List.getElem_mem hlt
          have hts := tszs_mem hmem
          have hr := ih t hmem (hsh t hmem) (by omega)
          have hg := avs_get hlt
          rw [ht] at hg
          have hla : i < (avs ks).length := by omega
          have hct := cnts_take (kd := kd) hlt
          rw [ht] at hct
          have hcm := cntT_le kd t
          have wi : IntKind.i64.wrap ((i : Int) + 1) = (i : Int) + 1 := wrap_id (by omega) (by omega)
          have wn : IntKind.i64.wrap ((nn : Int) + (cntT kd t : Nat)) = (nn : Int) + (cntT kd t : Nat) := wrap_id (by omega) (by omega)
          obtain ⟨tk, tn, ta, tb, tc, td, tw, tks⟩ := t
          rw [Tree.av] at hr hg
          repeat' (first
            | refine aw_seq ?_
            | (refine aw_run [] ?_; try simp -implicitDefEqProofs (maxSteps := 1000000) [hl, hlti, hla, hg, wi, wn])
            | ((first | refine awl_skip' [] rfl ?_ | refine awl_pure_guard [] rfl rfl rfl (by first | assumption | kernel_rfl) rfl (fun hc => by first | exact hr) (by simp) (by simp) (by simp) ?_ | refine awl_pure' [] rfl rfl rfl (by first | assumption | kernel_rfl) rfl (by first | exact hr) (by simp) (by simp) ?_ | refine aw_skip ?_ | refine aw_exit ?_); try simp -implicitDefEqProofs (maxSteps := 1000000) [hl, hlti, hla, hg, wi, wn])
            | (refine aw_cond rfl (fun h => ?_) (fun h => ?_) <;> try (with_reducible first | exact ff_tt h | exact tt_ff h))
            | refine aw_block ?_
            | refine aw_ret (ret_of (.inr rfl) (by simp [Try.results52]; rfl) (Fin.of ?_))
            | refine ret_of (.inl rfl) (by simp [Try.results52]; rfl) (Fin.of ?_))
          refine ⟨q - 1, by omega, mkSt [] [] M, le_mkSt (by simp) (by simp) (by simp), i + 1, by omega, ⟨M, rfl⟩, ?_, by omega⟩
          rw [hct]; omega
        · have hlti : ¬ (i : Int) < ks.length := by omega
          have htk : ks.take i = ks := List.take_of_length_le (by omega)
          rw [htk] at hnn
          have hnni : (nn : Int) = (one : Int) + (cnts kd ks : Nat) := by omega
          repeat' (first
            | refine aw_seq ?_
            | (refine aw_run [] ?_; try simp -implicitDefEqProofs (maxSteps := 1000000) [hl, hlti])
            | ((first | refine awl_skip' [] rfl ?_ | refine aw_skip ?_ | refine aw_exit ?_); try simp -implicitDefEqProofs (maxSteps := 1000000) [hl, hlti])
            | (refine aw_cond rfl (fun h => ?_) (fun h => ?_) <;> try (with_reducible first | exact ff_tt h | exact tt_ff h))
            | refine aw_block ?_
            | refine aw_ret (ret_of (.inr rfl) (by simp [Try.results52]; rfl) (Fin.of ?_))
            | refine ret_of (.inl rfl) (by simp [Try.results52]; rfl) (Fin.of ?_))
          simp [tupOf, hnni]
end Go.AL
/-! Contracts: gridironref05.Same. -/
namespace Go.AL
open Go.Proofs
set_option linter.unusedSimpArgs false
set_option linter.unusedVariables false
noncomputable def sameB (a b : Tree) : Bool := @decide (a = b) (Classical.propDecidable _)
theorem sameB_iff {a b : Tree} : sameB a b = true ↔ a = b := by unfold sameB; simp
theorem sameB_not {a b : Tree} (h : a ≠ b) : sameB a b = false := by unfold sameB; simp [h]
def SameP (a : Tree) : Prop := a.sh → ∀ b : Tree, APure Try.prog 12 [a.av, b.av] (vb (sameB a b))
set_option maxHeartbeats 8000000 in
set_option maxRecDepth 100000 in
theorem rsame5_ok : ∀ t, SameP t := by
  refine Tree.byKids fun k n a b c d w ks ih => ?_
  intro hsh u
  rw [Tree.sh, shs_all] at hsh
  obtain ⟨hlk, hsh⟩ := hsh
  obtain ⟨k2, n2, a2, b2, c2, d2, w2, ks2⟩ := u
  have hl := avs_len ks
  have hl2 := avs_len ks2
  rw [Tree.av, Tree.av]
  refine apure_of Try.func12 Try.ntmps12 rfl ?_
  simp only [List.length_cons, List.length_nil, List.cons_append, List.nil_append, List.replicate]
  repeat' (first
    | refine aw_seq ?_
    | ((first | refine aw_run [] ?_ | refine aw_ymix [] draws (by decide +kernel) ?_); try simp -implicitDefEqProofs (maxSteps := 1000000) [hl, hl2])
    | ((first | refine aw_zrun [] [] draws (by decide +kernel) (by decide +kernel) ?_ | refine zl_skip (by simp) rfl ?_); try simp -implicitDefEqProofs (maxSteps := 1000000) [hl, hl2]; repeat first | refine zcurL (by decide +kernel) ?_ | refine zcurH (by decide +kernel) ?_ | refine zcurL' (by decide +kernel) ?_ | refine zcurH' (by decide +kernel) ?_)
    | ((first | refine aw_yrun draws (by kernel_rfl) ?_ | refine awl_skip' [] rfl ?_ | refine yl_skip rfl ?_ | refine aw_skip ?_ | refine aw_exit ?_); try simp -implicitDefEqProofs (maxSteps := 1000000) [hl, hl2])
    | (refine aw_cond rfl (fun h => ?_) (fun h => ?_) <;> try (with_reducible first | exact ff_tt h | exact tt_ff h))
    | refine aw_block ?_
    | refine aw_ret (ret_of (.inr rfl) (by simp [Try.results12]; rfl) (Fin.of ?_))
    | refine ret_of (.inl rfl) (by simp [Try.results12]; rfl) (Fin.of ?_))
  · rw [sameB_not (fun e => by cases e; simp at h)]
    simp [tupOf]
  · have h' : k = k2 ∧ n = n2 ∧ a = a2 ∧ b = b2 ∧ c = c2 ∧ d = d2 ∧ w = w2 ∧ ks.length = ks2.length := by
      simp at h
      obtain ⟨⟨⟨⟨h1, h2⟩, ⟨h3, h4⟩, h5, h6⟩, h7⟩, h8⟩ := h
      exact ⟨h1, h2, h3, h4, h5, h6, h7, by omega⟩
    obtain ⟨rfl, rfl, rfl, rfl, rfl, rfl, rfl, hlen⟩ := h'
    clear h
    refine aw_loopW [2, 3, 5] (fun q fr σ => ∃ i M : Nat, i + q = ks.length ∧ ks.take i = ks2.take i ∧ σ = mkSt [] [] M ∧ fr = frm 62 [(2, .vel [.agg [vi k, vi n, vi a, vi b, vi c, vi d, vs w, .vsl (avs ks)]] 0 0), (3, .vel [.agg [vi k, vi n, vi a, vi b, vi c, vi d, vs w, .vsl (avs ks2)]] 0 0), (5, vi (i : Nat))]) ks.length ?_ ?_
    · exact ⟨mkSt [] [] 0, le_mkSt (by simp) (by simp) (by simp [σ0]), 0, 0, by omega, by simp, rfl, by simp⟩
    · rintro q fr σ ⟨i, M, hi, hal, rfl, rfl⟩
      simp -implicitDefEqProofs
      by_cases hlt : i < ks.length
      · have hlti : (i : Int) < ks.length := by omega
        have hlt2 : i < ks2.length := by omega
        obtain ⟨t, ht⟩ : ∃ t, ks[i] = t := ⟨_, rfl⟩
        obtain ⟨t2, ht2⟩ : ∃ t, ks2[i] = t := ⟨_, rfl⟩
        have hmem : t ∈ ks := ht ▸ List.getElem_mem hlt
        have hr := ih t hmem (hsh t hmem) t2
        have hg := avs_get hlt
        have hg2 := avs_get hlt2
        rw [ht] at hg
        rw [ht2] at hg2
        have hla : i < (avs ks).length := by omega
        have hla2 : i < (avs ks2).length := by omega
        have wi : IntKind.i64.wrap ((i : Int) + 1) = (i : Int) + 1 := wrap_id (by omega) (by omega)
        by_cases hb : t = t2
        · rw [sameB_iff.2 hb] at hr
          have hal' : ks.take (i + 1) = ks2.take (i + 1) := by
            rw [List.take_add_one, List.take_add_one, List.getElem?_eq_getElem hlt, List.getElem?_eq_getElem hlt2, ht, ht2, hal, hb]
          obtain ⟨tk, tn, ta, tb, tc, td, tw, tks⟩ := t
          obtain ⟨uk, un, ua, ub, uc, ud, uw, uks⟩ := t2
          rw [Tree.av] at hr hg hg2
          rw [Tree.av] at hr
          clear hb
          repeat' (first
            | refine aw_seq ?_
            | ((first | refine aw_run [] ?_ | refine aw_ymix [] draws (by decide +kernel) ?_); try simp -implicitDefEqProofs (maxSteps := 1000000) [hl, hl2, hlti, hla, hla2, hg, hg2, wi])
            | ((first | refine aw_zrun [] [] draws (by decide +kernel) (by decide +kernel) ?_ | refine zl_skip (by simp) rfl ?_ | refine zl_pure_guard (by simp) rfl rfl rfl (by first | assumption | kernel_rfl) rfl (fun hc => by first | exact hr) (by simp) (by simp) (by simp) ?_ | refine zl_pure (by simp) rfl rfl rfl (by first | assumption | kernel_rfl) rfl (by first | exact hr) (by simp) (by simp) ?_); try simp -implicitDefEqProofs (maxSteps := 1000000) [hl, hl2, hlti, hla, hla2, hg, hg2, wi]; repeat first | refine zcurL (by decide +kernel) ?_ | refine zcurH (by decide +kernel) ?_ | refine zcurL' (by decide +kernel) ?_ | refine zcurH' (by decide +kernel) ?_)
            | ((first | refine aw_yrun draws (by kernel_rfl) ?_ | refine awl_skip' [] rfl ?_ | refine yl_skip rfl ?_ | refine awl_pure_guard [] rfl rfl rfl (by first | assumption | kernel_rfl) rfl (fun hc => by first | exact hr) (by simp) (by simp) (by simp) ?_ | refine yl_pureG rfl rfl rfl (by first | assumption | kernel_rfl) rfl (fun hc => by first | exact hr) (by simp) (by simp) (by simp) ?_ | refine awl_pure' [] rfl rfl rfl (by first | assumption | kernel_rfl) rfl (by first | exact hr) (by simp) (by simp) ?_ | refine yl_pure rfl rfl rfl (by first | assumption | kernel_rfl) rfl (by first | exact hr) (by simp) (by simp) ?_ | refine aw_skip ?_ | refine aw_exit ?_); try simp -implicitDefEqProofs (maxSteps := 1000000) [hl, hl2, hlti, hla, hla2, hg, hg2, wi])
            | (refine aw_cond rfl (fun h => ?_) (fun h => ?_) <;> try (with_reducible first | exact ff_tt h | exact tt_ff h))
            | refine aw_block ?_
            | refine aw_ret (ret_of (.inr rfl) (by simp [Try.results12]; rfl) (Fin.of ?_))
            | refine ret_of (.inl rfl) (by simp [Try.results12]; rfl) (Fin.of ?_))
          refine ⟨q - 1, by omega, mkSt [] [] M, le_mkSt (by simp) (by simp) (by simp), i + 1, by omega, hal', ⟨M, rfl⟩, by omega⟩
        · rw [sameB_not hb] at hr
          rw [sameB_not (fun e => by
            have e : ks = ks2 := by injection e
            subst e
            exact hb (ht.symm.trans ht2))]
          obtain ⟨tk, tn, ta, tb, tc, td, tw, tks⟩ := t
          obtain ⟨uk, un, ua, ub, uc, ud, uw, uks⟩ := t2
          rw [Tree.av] at hr hg hg2
          rw [Tree.av] at hr
          clear hb
          repeat' (first
            | refine aw_seq ?_
            | ((first | refine aw_run [] ?_ | refine aw_ymix [] draws (by decide +kernel) ?_); try simp -implicitDefEqProofs (maxSteps := 1000000) [hl, hl2, hlti, hla, hla2, hg, hg2, wi])
            | ((first | refine aw_zrun [] [] draws (by decide +kernel) (by decide +kernel) ?_ | refine zl_skip (by simp) rfl ?_ | refine zl_pure_guard (by simp) rfl rfl rfl (by first | assumption | kernel_rfl) rfl (fun hc => by first | exact hr) (by simp) (by simp) (by simp) ?_ | refine zl_pure (by simp) rfl rfl rfl (by first | assumption | kernel_rfl) rfl (by first | exact hr) (by simp) (by simp) ?_); try simp -implicitDefEqProofs (maxSteps := 1000000) [hl, hl2, hlti, hla, hla2, hg, hg2, wi]; repeat first | refine zcurL (by decide +kernel) ?_ | refine zcurH (by decide +kernel) ?_ | refine zcurL' (by decide +kernel) ?_ | refine zcurH' (by decide +kernel) ?_)
            | ((first | refine aw_yrun draws (by kernel_rfl) ?_ | refine awl_skip' [] rfl ?_ | refine yl_skip rfl ?_ | refine awl_pure_guard [] rfl rfl rfl (by first | assumption | kernel_rfl) rfl (fun hc => by first | exact hr) (by simp) (by simp) (by simp) ?_ | refine yl_pureG rfl rfl rfl (by first | assumption | kernel_rfl) rfl (fun hc => by first | exact hr) (by simp) (by simp) (by simp) ?_ | refine awl_pure' [] rfl rfl rfl (by first | assumption | kernel_rfl) rfl (by first | exact hr) (by simp) (by simp) ?_ | refine yl_pure rfl rfl rfl (by first | assumption | kernel_rfl) rfl (by first | exact hr) (by simp) (by simp) ?_ | refine aw_skip ?_ | refine aw_exit ?_); try simp -implicitDefEqProofs (maxSteps := 1000000) [hl, hl2, hlti, hla, hla2, hg, hg2, wi])
            | (refine aw_cond rfl (fun h => ?_) (fun h => ?_) <;> try (with_reducible first | exact ff_tt h | exact tt_ff h))
            | refine aw_block ?_
            | refine aw_ret (ret_of (.inr rfl) (by simp [Try.results12]; rfl) (Fin.of ?_))
            | refine ret_of (.inl rfl) (by simp [Try.results12]; rfl) (Fin.of ?_))
          simp [tupOf]
      · have hlti : ¬ (i : Int) < ks.length := by omega
        rw [List.take_of_length_le (by omega), List.take_of_length_le (by omega)] at hal
        rw [sameB_iff.2 (by rw [hal])]
        repeat' (first
          | refine aw_seq ?_
          | ((first | refine aw_run [] ?_ | refine aw_ymix [] draws (by decide +kernel) ?_); try simp -implicitDefEqProofs (maxSteps := 1000000) [hl, hlti])
          | ((first | refine aw_zrun [] [] draws (by decide +kernel) (by decide +kernel) ?_ | refine zl_skip (by simp) rfl ?_); try simp -implicitDefEqProofs (maxSteps := 1000000) [hl, hlti]; repeat first | refine zcurL (by decide +kernel) ?_ | refine zcurH (by decide +kernel) ?_ | refine zcurL' (by decide +kernel) ?_ | refine zcurH' (by decide +kernel) ?_)
          | ((first | refine aw_yrun draws (by kernel_rfl) ?_ | refine awl_skip' [] rfl ?_ | refine yl_skip rfl ?_ | refine aw_skip ?_ | refine aw_exit ?_); try simp -implicitDefEqProofs (maxSteps := 1000000) [hl, hlti])
          | (refine aw_cond rfl (fun h => ?_) (fun h => ?_) <;> try (with_reducible first | exact ff_tt h | exact tt_ff h))
          | refine aw_block ?_
          | refine aw_ret (ret_of (.inr rfl) (by simp [Try.results12]; rfl) (Fin.of ?_))
          | refine ret_of (.inl rfl) (by simp [Try.results12]; rfl) (Fin.of ?_))
        simp [tupOf]
end Go.AL
