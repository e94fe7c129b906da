/- Parts of the proof of MonoTells: the logic, contracts, plain laws. -/
import Derived.Test.YtadahjmamgidnaaZMonoTells27
/-! gridironlaw08.MonoTells. -/
namespace Go.AL
open Go.Proofs
set_option linter.unusedSimpArgs false
set_option linter.unusedVariables false
/-- The first text of the live question. -/
def mText : ByteArray := ⟨#[83, 85, 77, 40, 65, 49, 58, 66, 50, 41, 47, 45, 50, 43, 73, 70, 40, 67, 49, 62, 49, 44, 45, 65, 49, 44, 48, 42, 66, 49, 41]⟩
def nText : ByteArray := ⟨#[65, 49, 42, 66, 49]⟩
def mKids : List Tree := [.mk 4 0 0 0 0 0 ⟨#[47]⟩ [.mk 5 0 0 0 0 0 ⟨#[83, 85, 77]⟩ [.mk 6 0 0 0 1 1 ⟨#[]⟩ []], .mk 3 0 0 0 0 0 ⟨#[]⟩ [.mk 0 2 0 0 0 0 ⟨#[]⟩ []]],
  .mk 5 0 0 0 0 0 ⟨#[73, 70]⟩ [.mk 4 0 0 0 0 0 ⟨#[62]⟩ [.mk 1 0 2 0 2 0 ⟨#[]⟩ [], .mk 0 1 0 0 0 0 ⟨#[]⟩ []], .mk 3 0 0 0 0 0 ⟨#[]⟩ [.mk 1 0 0 0 0 0 ⟨#[]⟩ []], .mk 4 0 0 0 0 0 ⟨#[42]⟩ [.mk 0 0 0 0 0 0 ⟨#[]⟩ [], .mk 1 0 1 0 1 0 ⟨#[]⟩ []]]]
def mTree : Tree := .mk 4 0 0 0 0 0 ⟨#[43]⟩ mKids
def nKids : List Tree := [.mk 1 0 0 0 0 0 ⟨#[]⟩ [], .mk 1 0 1 0 1 0 ⟨#[]⟩ []]
def nTree : Tree := .mk 4 0 0 0 0 0 ⟨#[42]⟩ nKids
set_option maxRecDepth 1000000 in
theorem mparse : parse5 mText = (mTree, 0, 0) := by kernel_rfl
set_option maxRecDepth 1000000 in
theorem nparse : parse5 nText = (nTree, 0, 0) := by kernel_rfl
set_option maxRecDepth 1000000 in
theorem mright : rightB mTree = true := by kernel_rfl
set_option maxRecDepth 1000000 in
theorem nright : rightB nTree = true := by kernel_rfl
theorem min8 : mTree.In := by
  simp only [mTree, mKids, Tree.In, ins, In64]
  repeat' apply And.intro
  all_goals decide
theorem nin8 : nTree.In := by
  simp only [nTree, nKids, Tree.In, ins, In64]
  repeat' apply And.intro
  all_goals decide
set_option maxRecDepth 1000000 in
theorem mway1 : wayT (atK [(0, 0, 1), (1, 0, 0)]) mTree = 2 := by decide +kernel
set_option maxRecDepth 1000000 in
theorem mway2 : wayT (atK [(2, 0, 1)]) mTree = 3 := by decide +kernel
set_option maxRecDepth 1000000 in
theorem nway1 : wayT (atK [(0, 0, 1)]) nTree = 3 := by decide +kernel
set_option maxRecDepth 1000000 in
theorem nway2 : wayT (atK []) nTree = 0 := by decide +kernel
set_option maxHeartbeats 8000000 in
set_option maxRecDepth 100000 in
theorem alive8_ok : APure Try.prog 24 [] (vb true) := by
  have hP := rparse5_ok mText (by decide)
  rw [mparse] at hP
  have hN := rparse5_ok nText (by decide)
  rw [nparse] at hN
  have h1 := mOfD mTree [(0, 0, 1), (1, 0, 0)] min8 (by decide) (by decide)
  rw [if_pos mright, mway1] at h1
  have h2 := mOfD mTree [(2, 0, 1)] min8 (by decide) (by decide)
  rw [if_pos mright, mway2] at h2
  have h3 := mOfD nTree [(0, 0, 1)] nin8 (by decide) (by decide)
  rw [if_pos nright, nway1] at h3
  have h4 := mOfD nTree [] nin8 (by decide) (by decide)
  rw [if_pos nright, nway2] at h4
  have h4 := apure_nil2 (c := 0) h4
  have h5 := join_ok [1, 0, 1] (by decide)
  rw [show joinW [1, 0, 1] = 1 from rfl] at h5
  have h6 := flip_ok 2
  rw [show flipW 2 = 1 from rfl] at h6
  simp only [kns, vis, List.map_cons, List.map_nil, kn] at h1 h2 h3 h5
  rw [mTree] at hP h1 h2
  rw [nTree] at hN h3 h4
  obtain ⟨mk, hmk⟩ : ∃ mk, mk = mKids := ⟨_, rfl⟩
  obtain ⟨nk, hnk⟩ : ∃ nk, nk = nKids := ⟨_, rfl⟩
  rw [← hmk] at hP h1 h2
  rw [← hnk] at hN h3 h4
  rw [Tree.av] at hP hN h1 h2 h3 h4
  simp only [mText] at hP
  simp only [nText] at hN
  refine apure_of Try.func24 Try.ntmps24 rfl ?_
  simp only [List.length_cons, List.length_nil, List.cons_append, List.nil_append, List.replicate]
  repeat' (first
    | refine aw_seq ?_
    | (refine aw_run [1, 4] ?_; try simp -implicitDefEqProofs (maxSteps := 1000000))
    | ((first | refine awl_skip' [1, 4] rfl ?_ | refine awl_pure_guard [1, 4] rfl rfl rfl (by first | assumption | kernel_rfl) rfl (fun hc => by first | exact hP | exact hN | exact h1 | exact h2 | exact h3 | exact h4 | exact h5 | exact h6) (by simp) (by simp) (by simp) ?_ | refine awl_pure' [1, 4] rfl rfl rfl (by first | assumption | kernel_rfl) rfl (by first | exact hP | exact hN | exact h1 | exact h2 | exact h3 | exact h4 | exact h5 | exact h6) (by simp) (by simp) ?_ | refine aw_skip ?_ | refine aw_exit ?_); try simp -implicitDefEqProofs (maxSteps := 1000000))
    | (refine aw_cond rfl (fun h => ?_) (fun h => ?_) <;> try (with_reducible first | exact ff_tt h | exact tt_ff h))
    | refine aw_block ?_
    | refine aw_ret (ret_of (.inr rfl) (by simp [Try.results24]; rfl) (Fin.of ?_))
    | refine ret_of (.inl rfl) (by simp [Try.results24]; rfl) (Fin.of ?_))
  all_goals first | (simp [tupOf]; done) | trace_state
end Go.AL
/-! gridironlaw08.MonoTells. -/
namespace Go.AL
open Go.Proofs
set_option linter.unusedSimpArgs false
set_option linter.unusedVariables false
theorem lk2 {k1 k2 : Nat} {a b : List AV} (h : ¬ k2 = k1) : List.lookup k2 [(k1, a), (k2, b)] = some b := by
  have e : (k2 == k1) = false := by simpa using h
  rw [List.lookup_cons, e]
  simp
theorem vis_okv (l : List Int) : ∀ y ∈ vis l, y.cells.length = 1 := fun y hy => by
  obtain ⟨p, _, rfl⟩ := List.mem_map.1 hy
  rfl
set_option maxHeartbeats 16000000 in
set_option maxRecDepth 100000 in
theorem monoTells_ok (t : Tree) (l : List (Int × Int × Int)) (v : Int) (hin : t.In) (hll : l.length ≤ 9223372036854775807) : APure Try.prog 5 [t.av, .vsl (kns l), vi v] (vb true) := by
  have hA := alive8_ok
  have hF := fits5_ok t (in_sh8 t hin)
  have hvl := kns_len l
  by_cases hf : fitsB t = true
  · rw [hf] at hF
    by_cases h300 : l.length ≤ 300
    · have hz : tszT t ≤ 1000000000 := by
        unfold fitsB at hf
        simp only [Bool.and_eq_true, decide_eq_true_eq] at hf
        omega
      have hM := mOfD t l hin hz (by omega)
      have hR := rOf8_ok t l hin hz (by omega)
      have hO := lof8_ok l (by omega)
      have hb : ¬ (300 : Int) < l.length := by omega
      generalize (if rightB t = true then wayT (atK l) t else 3) = r at *
      obtain ⟨W, hW⟩ : ∃ W, W = l.map fun p => p.2.2 := ⟨_, rfl⟩
      have hWl : W.length = l.length := by rw [hW, List.length_map]
      have hJ := join_ok W (by omega)
      have hJ' := rjoin8_ok W (by omega)
      generalize joinW W = jw at *
      have hL := flip_ok v
      have hL' := rflip8_ok v
      generalize flipW v = fv at *
      obtain ⟨k, n, a, b, c, d, w, ks⟩ := t
      rw [Tree.av] at hF hM hR ⊢
      clear hf hz hin
      refine apure_of Try.func5 Try.ntmps5 rfl ?_
      simp only [List.length_cons, List.length_nil, List.cons_append, List.nil_append, List.replicate]
      repeat' (first
        | refine aw_seq ?_
        | ((first | refine aw_run [] ?_ | refine aw_ymix [] draws (by decide +kernel) ?_); try simp -implicitDefEqProofs (maxSteps := 1000000) [hvl, hb])
        | ((first | refine aw_zrun [] [] draws (by decide +kernel) (by decide +kernel) ?_ | refine zl_skip (by simp) rfl ?_ | refine zl_pure_guard (by simp) rfl rfl rfl (by first | assumption | kernel_rfl) rfl (fun hc => by first | exact hF) (by simp) (by simp) (by simp) ?_ | refine zl_pure (by simp) rfl rfl rfl (by first | assumption | kernel_rfl) rfl (by first | exact hF) (by simp) (by simp) ?_); try simp -implicitDefEqProofs (maxSteps := 1000000) [hvl, hb]; repeat first | refine zcurL (by decide +kernel) ?_ | refine zcurH (by decide +kernel) ?_ | refine zcurL' (by decide +kernel) ?_ | refine zcurH' (by decide +kernel) ?_)
        | ((first | refine aw_yrun draws (by kernel_rfl) ?_ | refine awl_skip' [] rfl ?_ | refine yl_skip rfl ?_ | refine awl_pure_guard [] rfl rfl rfl (by first | assumption | kernel_rfl) rfl (fun hc => by first | exact hF) (by simp) (by simp) (by simp) ?_ | refine yl_pureG rfl rfl rfl (by first | assumption | kernel_rfl) rfl (fun hc => by first | exact hF) (by simp) (by simp) (by simp) ?_ | refine awl_pure' [] rfl rfl rfl (by first | assumption | kernel_rfl) rfl (by first | exact hF) (by simp) (by simp) ?_ | refine yl_pure rfl rfl rfl (by first | assumption | kernel_rfl) rfl (by first | exact hF) (by simp) (by simp) ?_ | refine aw_skip ?_ | refine aw_exit ?_); try simp -implicitDefEqProofs (maxSteps := 1000000) [hvl, hb])
        | (refine aw_cond rfl (fun h => ?_) (fun h => ?_) <;> try (with_reducible first | exact ff_tt h | exact tt_ff h))
        | refine aw_block ?_
        | refine aw_ret (ret_of (.inr rfl) (by simp [Try.results5]; rfl) (Fin.of ?_))
        | refine ret_of (.inl rfl) (by simp [Try.results5]; rfl) (Fin.of ?_))
      refine aw_open (i := 8) rfl ?_
      refine aw_open (i := 9) rfl ?_
      refine aw_loopW [1, 2, 3, 8, 9, 10] (fun q fr σ => ∃ k1 k2 m i : Nat, i + q = l.length ∧ k1 < k2 ∧ k2 < m ∧ σ = mkSt [] [(k1, vis (W.take i)), (k2, vis (W.take i))] m ∧ fr = frm 68 [(1, .vsl (kns l)), (2, vi v), (3, .vel [.agg [vi k, vi n, vi a, vi b, vi c, vi d, vs w, .vsl (avs ks)]] 0 0), (8, .hsl k1 0 i), (9, .hsl k2 0 i), (10, vi (i : Nat))]) l.length ?_ ?_
      · refine ⟨_, le_mkSt (bs := []) (ss := [(0, []), (1, [])]) (n := 2) (by simp) (by simp [σ0]) (by decide), 0, 1, 2, 0, by omega, by decide, by decide, by simp [vis], ?_⟩
        simp [σ0, hvl]
      · rintro q fr σ ⟨k1, k2, m, i, hi, hk12, hkm, rfl, rfl⟩
        simp -implicitDefEqProofs
        have hvi : (vis (W.take i)).length = min i W.length := by rw [vis_len, List.length_take]
        by_cases hlt : i < l.length
        · have hlti : (i : Int) < l.length := by omega
          obtain ⟨⟨x, y, z⟩, hp⟩ : ∃ p, l[i]? = some p := ⟨_, List.getElem?_eq_getElem hlt⟩
          have hg := kns_get hp
          have hla : i < (kns l).length := by omega
          have wi : IntKind.i64.wrap ((i : Int) + 1) = (i : Int) + 1 := wrap_id (by omega) (by omega)
          have hWi : W[i]? = some z := by rw [hW, List.getElem?_map, hp]; rfl
          have hVn : vis (W.take (i + 1)) = vis (W.take i) ++ [vi z] := by rw [List.take_add_one, hWi]; exact vis_snoc _ _
          have hVi : (vis (W.take i)).length = i := by omega
          have hVc := vis_okv (W.take i)
          have hne : ¬ k1 = k2 := by omega
          have hne' : ¬ k2 = k1 := by omega
          have hm1 : ¬ k1 = m := by omega
          have hm2 : ¬ k2 = m := by omega
          have hm3 : ¬ m = k2 := by omega
          have hm4 : ¬ m = k1 := by omega
          generalize vis (W.take i) = V at *
          repeat' (first
            | refine aw_seq ?_
            | ((first | refine aw_run [] ?_ | refine aw_ymix [] draws (by decide +kernel) ?_); try simp -implicitDefEqProofs (maxSteps := 1000000) [hlti, hvl, hla, hg, wi])
            | ((first | refine aw_zrun [] [] draws (by decide +kernel) (by decide +kernel) ?_ | refine zl_skip (by simp) rfl ?_); try simp -implicitDefEqProofs (maxSteps := 1000000) [hlti, hvl, hla, hg, wi]; repeat first | refine zcurL (by decide +kernel) ?_ | refine zcurH (by decide +kernel) ?_ | refine zcurL' (by decide +kernel) ?_ | refine zcurH' (by decide +kernel) ?_)
            | ((first | refine aw_yrun draws (by kernel_rfl) ?_ | refine awl_skip' [] rfl ?_ | refine yl_skip rfl ?_ | refine aw_skip ?_ | refine aw_exit ?_); try simp -implicitDefEqProofs (maxSteps := 1000000) [hlti, hvl, hla, hg, wi])
            | (refine aw_cond rfl (fun h => ?_) (fun h => ?_) <;> try (with_reducible first | exact ff_tt h | exact tt_ff h))
            | refine aw_block ?_
            | refine aw_ret (ret_of (.inr rfl) (by simp [Try.results5]; rfl) (Fin.of ?_))
            | refine ret_of (.inl rfl) (by simp [Try.results5]; rfl) (Fin.of ?_))
          refine awl_append [] rfl rfl rfl (xs := V) (by simp) (by omega) rfl (by simp) te45 tet45 tz44 rfl hVc (by simp) (by simp; omega) (by simp; omega) ?_
          simp -implicitDefEqProofs [hne, hne', hm1, hm2, hm3, hm4]
          repeat' (first
            | refine aw_seq ?_
            | ((first | refine aw_run [] ?_ | refine aw_ymix [] draws (by decide +kernel) ?_); try simp -implicitDefEqProofs (maxSteps := 1000000) [hlti, hvl, hla, hg, wi, hne, hne', hm1, hm2, hm3, hm4])
            | ((first | refine aw_zrun [] [] draws (by decide +kernel) (by decide +kernel) ?_ | refine zl_skip (by simp) rfl ?_); try simp -implicitDefEqProofs (maxSteps := 1000000) [hlti, hvl, hla, hg, wi, hne, hne', hm1, hm2, hm3, hm4]; repeat first | refine zcurL (by decide +kernel) ?_ | refine zcurH (by decide +kernel) ?_ | refine zcurL' (by decide +kernel) ?_ | refine zcurH' (by decide +kernel) ?_)
            | ((first | refine aw_yrun draws (by kernel_rfl) ?_ | refine awl_skip' [] rfl ?_ | refine yl_skip rfl ?_ | refine aw_skip ?_ | refine aw_exit ?_); try simp -implicitDefEqProofs (maxSteps := 1000000) [hlti, hvl, hla, hg, wi, hne, hne', hm1, hm2, hm3, hm4])
            | (refine aw_cond rfl (fun h => ?_) (fun h => ?_) <;> try (with_reducible first | exact ff_tt h | exact tt_ff h))
            | refine aw_block ?_
            | refine aw_ret (ret_of (.inr rfl) (by simp [Try.results5]; rfl) (Fin.of ?_))
            | refine ret_of (.inl rfl) (by simp [Try.results5]; rfl) (Fin.of ?_))
          refine awl_append [] rfl rfl rfl (xs := V) (by simp [hne, hne', hm1, hm2, hm3, hm4, lk2 hne']) (by omega) rfl (by simp) te46 tet46 tz3 rfl hVc (by simp) (by simp; omega) (by simp; omega) ?_
          simp -implicitDefEqProofs [hne, hne', hm1, hm2, hm3, hm4]
          repeat' (first
            | refine aw_seq ?_
            | ((first | refine aw_run [] ?_ | refine aw_ymix [] draws (by decide +kernel) ?_); try simp -implicitDefEqProofs (maxSteps := 1000000) [hlti, hvl, hla, hg, wi, hne, hne', hm1, hm2, hm3, hm4])
            | ((first | refine aw_zrun [] [] draws (by decide +kernel) (by decide +kernel) ?_ | refine zl_skip (by simp) rfl ?_); try simp -implicitDefEqProofs (maxSteps := 1000000) [hlti, hvl, hla, hg, wi, hne, hne', hm1, hm2, hm3, hm4]; repeat first | refine zcurL (by decide +kernel) ?_ | refine zcurH (by decide +kernel) ?_ | refine zcurL' (by decide +kernel) ?_ | refine zcurH' (by decide +kernel) ?_)
            | ((first | refine aw_yrun draws (by kernel_rfl) ?_ | refine awl_skip' [] rfl ?_ | refine yl_skip rfl ?_ | refine aw_skip ?_ | refine aw_exit ?_); try simp -implicitDefEqProofs (maxSteps := 1000000) [hlti, hvl, hla, hg, wi, hne, hne', hm1, hm2, hm3, hm4])
            | (refine aw_cond rfl (fun h => ?_) (fun h => ?_) <;> try (with_reducible first | exact ff_tt h | exact tt_ff h))
            | refine aw_block ?_
            | refine aw_ret (ret_of (.inr rfl) (by simp [Try.results5]; rfl) (Fin.of ?_))
            | refine ret_of (.inl rfl) (by simp [Try.results5]; rfl) (Fin.of ?_))
          refine ⟨q - 1, by omega, _, le_mkSt (bs := []) (ss := [(m, V.take i ++ [vi z]), (m + 1, V.take i ++ [vi z])]) (n := m + 2) (by simp) (by simp [hne, hne', hm1, hm2, hm3, hm4]) (by simp), m, m + 1, m + 2, i + 1, by omega, by omega, by omega, ?_, ?_⟩
          · rw [hVn, List.take_of_length_le (by omega)]
          · simp
        · have hlti : ¬ (i : Int) < l.length := by omega
          obtain rfl : i = l.length := by omega
          rw [List.take_of_length_le (by omega)]
          have hne : ¬ k1 = k2 := by omega
          have hne' : ¬ k2 = k1 := by omega
          refine aw_freeze (b := k1) (xs := vis W) (by simp) ?_
          simp -implicitDefEqProofs [frz, frz1, frz0, hne, hne']
          refine aw_freeze (b := k2) (xs := vis W) (by simp [hne, hne', lk2 hne']) ?_
          simp -implicitDefEqProofs [frz, frz1, frz0, hne, hne']
          have hvW : (vis W).length = l.length := by rw [vis_len, hWl]
          have htW : (vis W).take l.length = vis W := List.take_of_length_le (by omega)
          repeat' (first
            | refine aw_seq ?_
            | ((first | refine aw_run [] ?_ | refine aw_ymix [] draws (by decide +kernel) ?_); try simp -implicitDefEqProofs (maxSteps := 1000000) [hlti, hvl, hvW, htW])
            | ((first | refine aw_zrun [] [] draws (by decide +kernel) (by decide +kernel) ?_ | refine zl_skip (by simp) rfl ?_ | refine zl_pure_guard (by simp) rfl rfl rfl (by first | assumption | kernel_rfl) rfl (fun hc => by first | exact hA | exact hM | exact hO | exact hR | exact hJ | exact hJ' | exact hL | exact hL') (by simp) (by simp) (by simp) ?_ | refine zl_pure (by simp) rfl rfl rfl (by first | assumption | kernel_rfl) rfl (by first | exact hA | exact hM | exact hO | exact hR | exact hJ | exact hJ' | exact hL | exact hL') (by simp) (by simp) ?_); try simp -implicitDefEqProofs (maxSteps := 1000000) [hlti, hvl, hvW, htW]; repeat first | refine zcurL (by decide +kernel) ?_ | refine zcurH (by decide +kernel) ?_ | refine zcurL' (by decide +kernel) ?_ | refine zcurH' (by decide +kernel) ?_)
            | ((first | refine aw_yrun draws (by kernel_rfl) ?_ | refine awl_skip' [] rfl ?_ | refine yl_skip rfl ?_ | refine awl_pure_guard [] rfl rfl rfl (by first | assumption | kernel_rfl) rfl (fun hc => by first | exact hA | exact hM | exact hO | exact hR | exact hJ | exact hJ' | exact hL | exact hL') (by simp) (by simp) (by simp) ?_ | refine yl_pureG rfl rfl rfl (by first | assumption | kernel_rfl) rfl (fun hc => by first | exact hA | exact hM | exact hO | exact hR | exact hJ | exact hJ' | exact hL | exact hL') (by simp) (by simp) (by simp) ?_ | refine awl_pure' [] rfl rfl rfl (by first | assumption | kernel_rfl) rfl (by first | exact hA | exact hM | exact hO | exact hR | exact hJ | exact hJ' | exact hL | exact hL') (by simp) (by simp) ?_ | refine yl_pure rfl rfl rfl (by first | assumption | kernel_rfl) rfl (by first | exact hA | exact hM | exact hO | exact hR | exact hJ | exact hJ' | exact hL | exact hL') (by simp) (by simp) ?_ | refine aw_skip ?_ | refine aw_exit ?_); try simp -implicitDefEqProofs (maxSteps := 1000000) [hlti, hvl, hvW, htW])
            | (refine aw_cond rfl (fun h => ?_) (fun h => ?_) <;> try (with_reducible first | exact ff_tt h | exact tt_ff h))
            | refine aw_block ?_
            | refine aw_ret (ret_of (.inr rfl) (by simp [Try.results5]; rfl) (Fin.of ?_))
            | refine ret_of (.inl rfl) (by simp [Try.results5]; rfl) (Fin.of ?_))
          all_goals first | (simp [tupOf]; done) | trace_state
    · have hb : (300 : Int) < l.length := by omega
      obtain ⟨k, n, a, b, c, d, w, ks⟩ := t
      rw [Tree.av] at hF ⊢
      refine apure_of Try.func5 Try.ntmps5 rfl ?_
      simp only [List.length_cons, List.length_nil, List.cons_append, List.nil_append, List.replicate]
      repeat' (first
        | refine aw_seq ?_
        | ((first | refine aw_run [] ?_ | refine aw_ymix [] draws (by decide +kernel) ?_); try simp -implicitDefEqProofs (maxSteps := 1000000) [hvl, hb])
        | ((first | refine aw_zrun [] [] draws (by decide +kernel) (by decide +kernel) ?_ | refine zl_skip (by simp) rfl ?_ | refine zl_pure_guard (by simp) rfl rfl rfl (by first | assumption | kernel_rfl) rfl (fun hc => by first | exact hF | exact hA) (by simp) (by simp) (by simp) ?_ | refine zl_pure (by simp) rfl rfl rfl (by first | assumption | kernel_rfl) rfl (by first | exact hF | exact hA) (by simp) (by simp) ?_); try simp -implicitDefEqProofs (maxSteps := 1000000) [hvl, hb]; repeat first | refine zcurL (by decide +kernel) ?_ | refine zcurH (by decide +kernel) ?_ | refine zcurL' (by decide +kernel) ?_ | refine zcurH' (by decide +kernel) ?_)
        | ((first | refine aw_yrun draws (by kernel_rfl) ?_ | refine awl_skip' [] rfl ?_ | refine yl_skip rfl ?_ | refine awl_pure_guard [] rfl rfl rfl (by first | assumption | kernel_rfl) rfl (fun hc => by first | exact hF | exact hA) (by simp) (by simp) (by simp) ?_ | refine yl_pureG rfl rfl rfl (by first | assumption | kernel_rfl) rfl (fun hc => by first | exact hF | exact hA) (by simp) (by simp) (by simp) ?_ | refine awl_pure' [] rfl rfl rfl (by first | assumption | kernel_rfl) rfl (by first | exact hF | exact hA) (by simp) (by simp) ?_ | refine yl_pure rfl rfl rfl (by first | assumption | kernel_rfl) rfl (by first | exact hF | exact hA) (by simp) (by simp) ?_ | refine aw_skip ?_ | refine aw_exit ?_); try simp -implicitDefEqProofs (maxSteps := 1000000) [hvl, hb])
        | (refine aw_cond rfl (fun h => ?_) (fun h => ?_) <;> try (with_reducible first | exact ff_tt h | exact tt_ff h))
        | refine aw_block ?_
        | refine aw_ret (ret_of (.inr rfl) (by simp [Try.results5]; rfl) (Fin.of ?_))
        | refine ret_of (.inl rfl) (by simp [Try.results5]; rfl) (Fin.of ?_))
      all_goals first | (simp [tupOf]; done) | trace_state
  · rw [eq_false_of_ne_true hf] at hF
    obtain ⟨k, n, a, b, c, d, w, ks⟩ := t
    rw [Tree.av] at hF ⊢
    refine apure_of Try.func5 Try.ntmps5 rfl ?_
    simp only [List.length_cons, List.length_nil, List.cons_append, List.nil_append, List.replicate]
    repeat' (first
      | refine aw_seq ?_
      | ((first | refine aw_run [] ?_ | refine aw_ymix [] draws (by decide +kernel) ?_); try simp -implicitDefEqProofs (maxSteps := 1000000) [hvl])
      | ((first | refine aw_zrun [] [] draws (by decide +kernel) (by decide +kernel) ?_ | refine zl_skip (by simp) rfl ?_ | refine zl_pure_guard (by simp) rfl rfl rfl (by first | assumption | kernel_rfl) rfl (fun hc => by first | exact hF | exact hA) (by simp) (by simp) (by simp) ?_ | refine zl_pure (by simp) rfl rfl rfl (by first | assumption | kernel_rfl) rfl (by first | exact hF | exact hA) (by simp) (by simp) ?_); try simp -implicitDefEqProofs (maxSteps := 1000000) [hvl]; repeat first | refine zcurL (by decide +kernel) ?_ | refine zcurH (by decide +kernel) ?_ | refine zcurL' (by decide +kernel) ?_ | refine zcurH' (by decide +kernel) ?_)
      | ((first | refine aw_yrun draws (by kernel_rfl) ?_ | refine awl_skip' [] rfl ?_ | refine yl_skip rfl ?_ | refine awl_pure_guard [] rfl rfl rfl (by first | assumption | kernel_rfl) rfl (fun hc => by first | exact hF | exact hA) (by simp) (by simp) (by simp) ?_ | refine yl_pureG rfl rfl rfl (by first | assumption | kernel_rfl) rfl (fun hc => by first | exact hF | exact hA) (by simp) (by simp) (by simp) ?_ | refine awl_pure' [] rfl rfl rfl (by first | assumption | kernel_rfl) rfl (by first | exact hF | exact hA) (by simp) (by simp) ?_ | refine yl_pure rfl rfl rfl (by first | assumption | kernel_rfl) rfl (by first | exact hF | exact hA) (by simp) (by simp) ?_ | refine aw_skip ?_ | refine aw_exit ?_); try simp -implicitDefEqProofs (maxSteps := 1000000) [hvl])
      | (refine aw_cond rfl (fun h => ?_) (fun h => ?_) <;> try (with_reducible first | exact ff_tt h | exact tt_ff h))
      | refine aw_block ?_
      | refine aw_ret (ret_of (.inr rfl) (by simp [Try.results5]; rfl) (Fin.of ?_))
      | refine ret_of (.inl rfl) (by simp [Try.results5]; rfl) (Fin.of ?_))
    all_goals first | (simp [tupOf]; done) | trace_state
theorem MonoTells_all (x : AV) (l : List (Int × Int × Int)) (v : Int) (hx : HasT Try.prog 29 x) (hl : l.length ≤ 9223372036854775807) (_ : ∀ p ∈ l, (Lit.int .i64 p.1).wf = true ∧ (Lit.int .i64 p.2.1).wf = true ∧ (Lit.int .i64 p.2.2).wf = true) (_ : (Lit.int .i64 v).wf = true) :
    APure Try.prog 5 [x, .vsl (l.map fun p => .agg [.p (.int .i64 p.1), .p (.int .i64 p.2.1), .p (.int .i64 p.2.2)]), .p (.int .i64 v)] (vb true) := by
  obtain ⟨n, hx⟩ := hx
  obtain ⟨t, rfl, ht⟩ := tree_has n x hx
  exact monoTells_ok t l v ht hl
end Go.AL
