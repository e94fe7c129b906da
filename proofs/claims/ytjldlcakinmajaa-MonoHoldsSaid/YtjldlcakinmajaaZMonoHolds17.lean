/- Parts of the proof of MonoHolds: the logic, contracts, plain laws. -/
import Derived.Test.YtjldlcakinmajaaZMonoHolds16
/-! Contracts: gridironref05.Reader.item. -/
namespace Go.AL
open Go.Proofs
set_option linter.unusedSimpArgs false
set_option linter.unusedVariables false
variable {ts : List (Tok × Nat)} {en : Nat}
theorem endP_get {s : RS} (h : endP ts s = true) : ∃ p, ts[s.at_]? = some p := by
  unfold endP at h
  cases hq : ts[s.at_]? with
  | none => rw [hq] at h; simp at h
  | some q => exact ⟨q, rfl⟩
set_option maxHeartbeats 8000000 in
set_option maxRecDepth 100000 in
theorem item_ok (h2 : ts.length ≤ 100000) (N : Nat) (ihL : ∀ n, n < N → CL ts en n) : CI ts en N := by
  intro co s T s' hF hs
  cases N with
  | zero => cases hF
  | succ N =>
  unfold itemF at hF
  have he := rend5_ok ts en s hs h2
  have hc : BK Try.prog 107 [.ptr 0 0, vi 1, vs bColon] (rdc ts en s) (vb (markP ts s 1 bColon)) (rdc ts en s) := rmark5_ok ts en s 1 bColon hs h2 (by omega)
  have hf := rfail5_ok ts en s hs h2
  by_cases h1 : co = false ∧ (endP ts s = false ∨ markP ts s 1 bColon = false)
  · rw [if_pos h1] at hF
    obtain ⟨hb, hat⟩ := ihL N (by omega) 1 s T s' hF (by omega) (by omega) hs
    refine ⟨⟨?_, rdc_cl _ _ _, rdc_cl _ _ _, Tree.cl _⟩, hat⟩
    obtain ⟨k, n, a, b, c, d, w, ks⟩ := T
    rw [Tree.av] at hb ⊢
    obtain ⟨rfl, h1⟩ := h1
    rcases h1 with h1 | h1
    · rw [h1] at he
      refine bc_of Try.func151 Try.ntmps151 rfl ?_
      simp only [List.length_cons, List.length_nil, List.cons_append, List.nil_append, List.replicate]
      repeat' first | refine aw_V [4, 7, 9, 10] @h1 (And.intro @he (And.intro @hc (And.intro @hb trivial))) ?_ | refine aw_cond rfl (fun h => ?_) (fun h => ?_)
      all_goals simp [tupOf, ASt.noSl]
    · rw [h1] at hc
      generalize endP ts s = e at *
      refine bc_of Try.func151 Try.ntmps151 rfl ?_
      simp only [List.length_cons, List.length_nil, List.cons_append, List.nil_append, List.replicate]
      repeat' first | refine aw_V [4, 7, 9, 10] @h1 (And.intro @he (And.intro @hc (And.intro @hb trivial))) ?_ | refine aw_cond rfl (fun h => ?_) (fun h => ?_)
      all_goals simp [tupOf, ASt.noSl]
  · rw [if_neg h1] at hF
    by_cases h3 : endP ts s = false
    · rw [if_pos h3] at hF
      simp only [Option.some.injEq, Prod.mk.injEq] at hF
      obtain ⟨rfl, rfl⟩ := hF
      have hco : co = true := by
        cases co with
        | true => rfl
        | false => exact absurd ⟨rfl, .inl h3⟩ h1
      subst hco
      rw [h3] at he
      generalize markP ts s 1 bColon = mk at *
      refine ⟨⟨?_, rdc_cl _ _ _, rdc_cl _ _ _, Tree.cl _⟩, by rw [failS_at]; exact hs⟩
      refine bc_of Try.func151 Try.ntmps151 rfl ?_
      simp only [List.length_cons, List.length_nil, List.cons_append, List.nil_append, List.replicate]
      repeat' first | refine aw_V [4, 7, 9, 10] @h3 (And.intro @he (And.intro @hc (And.intro @hf trivial))) ?_ | refine aw_cond rfl (fun h => ?_) (fun h => ?_)
      all_goals simp [tupOf, ASt.noSl, zeroT, Tree.av, avs]
    · rw [if_neg h3] at hF
      have h3 : endP ts s = true := by simpa using h3
      rw [h3] at he
      obtain ⟨p, hp⟩ := endP_get h3
      rw [hp] at hF
      simp only at hF
      have hlt : s.at_ < ts.length := (List.getElem?_eq_some_iff.1 hp).1
      have hget : ts[s.at_] = p := by rw [List.getElem?_eq_getElem hlt] at hp; exact Option.some.inj hp
      have w1 : IntKind.i64.wrap ((s.at_ : Int) + 1) = (s.at_ : Int) + 1 := wrap_id (by omega) (by omega)
      have hg : ¬ (co = false ∧ markP ts s 1 bColon = false) := fun h => h1 ⟨h.1, .inr h.2⟩
      have hcc : co = true ∨ markP ts s 1 bColon = true := by
        cases co <;> simp_all
      generalize hmk : markP ts s 1 bColon = mk at *
      by_cases h4 : mk = false ∧ p.1.k = 3
      · rw [if_pos h4] at hF
        simp only [Option.some.injEq, Prod.mk.injEq] at hF
        obtain ⟨rfl, rfl⟩ := hF
        refine ⟨⟨?_, rdc_cl _ _ _, rdc_cl _ _ _, Tree.cl _⟩, hlt⟩
        obtain ⟨rfl, h4⟩ := h4
        have hco : co = true := by simpa using hcc
        subst hco
        simp only [rdc, RS.next] at he hc ⊢
        refine bc_of Try.func151 Try.ntmps151 rfl ?_
        simp only [List.length_cons, List.length_nil, List.cons_append, List.nil_append, List.replicate]
        repeat' (first
          | refine aw_seq ?_
          | ((first | refine aw_run [4, 7, 9, 10] ?_ | refine aw_ymix [4, 7, 9, 10] draws (by decide +kernel) ?_); try simp -implicitDefEqProofs (maxSteps := 1000000) [w1, hlt, hget, tokA, Tok.av, h4])
          | ((first | refine aw_zrun [4, 7, 9, 10] [] draws (by decide +kernel) (by decide +kernel) ?_ | refine zl_skip (by simp) rfl ?_); try simp -implicitDefEqProofs (maxSteps := 1000000) [w1, hlt, hget, tokA, Tok.av, h4]; repeat first | refine zcurL (by decide +kernel) ?_ | refine zcurH (by decide +kernel) ?_ | refine zcurL' (by decide +kernel) ?_ | refine zcurH' (by decide +kernel) ?_)
          | ((first | refine aw_yrun draws (by kernel_rfl) ?_ | refine awl_skip' [4, 7, 9, 10] rfl ?_ | refine yl_skip rfl ?_ | refine aw_skip ?_ | refine aw_exit ?_); try simp -implicitDefEqProofs (maxSteps := 1000000) [w1, hlt, hget, tokA, Tok.av, h4])
          | (refine awl_boxK [4, 7, 9, 10] rfl rfl rfl (by first | assumption | kernel_rfl) (he) rfl (by repeat (first | exact .nil | refine .cons (.ptr _) ?_ | refine .cons (.cl (by simp)) ?_)) ?_ ?_ ?_ ?_; (iterate 3 (focus (simp [σ0]; done))); simp -implicitDefEqProofs (maxSteps := 1000000) [w1, hlt, hget, tokA, Tok.av, h4])
          | (refine awl_boxK [4, 7, 9, 10] rfl rfl rfl (by first | assumption | kernel_rfl) (hc) rfl (by repeat (first | exact .nil | refine .cons (.ptr _) ?_ | refine .cons (.cl (by simp)) ?_)) ?_ ?_ ?_ ?_; (iterate 3 (focus (simp [σ0]; done))); simp -implicitDefEqProofs (maxSteps := 1000000) [w1, hlt, hget, tokA, Tok.av, h4])
          | (refine aw_cond rfl (fun h => ?_) (fun h => ?_) <;> try (with_reducible first | exact ff_tt h | exact tt_ff h))
          | refine aw_block ?_
          | refine aw_ret (ret_of (.inr rfl) (by simp [Try.results151]; rfl) (Fin.close (Fin.of ?_)))
          | refine ret_of (.inl rfl) (by simp [Try.results151]; rfl) (Fin.close (Fin.of ?_)))
        all_goals first | simp [tupOf, ASt.noSl, badT, Tree.av, avs] | simp at *
      · rw [if_neg h4] at hF
        have hat1 : s.next.at_ ≤ ts.length := hlt
        have hmu := rmust5_ok ts en s.next bColon hat1 h2
        have hat2 := mustS_at (ts := ts) (en := en) (m := bColon) hat1
        generalize hs1 : mustS ts en s.next bColon = s1 at *
        have he1 := rend5_ok ts en s1 hat2 h2
        have hf1 := rfail5_ok ts en s1 hat2 h2
        clear hs1 hf
        by_cases h5 : endP ts s1 = false
        · rw [if_pos h5] at hF
          simp only [Option.some.injEq, Prod.mk.injEq] at hF
          obtain ⟨rfl, rfl⟩ := hF
          rw [h5] at he1
          refine ⟨⟨?_, rdc_cl _ _ _, rdc_cl _ _ _, Tree.cl _⟩, by rw [failS_at]; exact hat2⟩
          simp only [rdc, RS.next] at he hc hmu he1 hf1 ⊢
          cases co with
          | false =>
            have hm : mk = true := by simpa using hg
            subst hm
            refine bc_of Try.func151 Try.ntmps151 rfl ?_
            simp only [List.length_cons, List.length_nil, List.cons_append, List.nil_append, List.replicate]
            repeat' (first
              | refine aw_seq ?_
              | ((first | refine aw_run [4, 7, 9, 10] ?_ | refine aw_ymix [4, 7, 9, 10] draws (by decide +kernel) ?_); try simp -implicitDefEqProofs (maxSteps := 1000000) [w1, hlt, hget, tokA, Tok.av])
              | ((first | refine aw_zrun [4, 7, 9, 10] [] draws (by decide +kernel) (by decide +kernel) ?_ | refine zl_skip (by simp) rfl ?_); try simp -implicitDefEqProofs (maxSteps := 1000000) [w1, hlt, hget, tokA, Tok.av]; repeat first | refine zcurL (by decide +kernel) ?_ | refine zcurH (by decide +kernel) ?_ | refine zcurL' (by decide +kernel) ?_ | refine zcurH' (by decide +kernel) ?_)
              | ((first | refine aw_yrun draws (by kernel_rfl) ?_ | refine awl_skip' [4, 7, 9, 10] rfl ?_ | refine yl_skip rfl ?_ | refine aw_skip ?_ | refine aw_exit ?_); try simp -implicitDefEqProofs (maxSteps := 1000000) [w1, hlt, hget, tokA, Tok.av])
              | (refine awl_boxK [4, 7, 9, 10] rfl rfl rfl (by first | assumption | kernel_rfl) (he) rfl (by repeat (first | exact .nil | refine .cons (.ptr _) ?_ | refine .cons (.cl (by simp)) ?_)) ?_ ?_ ?_ ?_; (iterate 3 (focus (simp [σ0]; done))); simp -implicitDefEqProofs (maxSteps := 1000000) [w1, hlt, hget, tokA, Tok.av])
              | (refine awl_boxK [4, 7, 9, 10] rfl rfl rfl (by first | assumption | kernel_rfl) (hc) rfl (by repeat (first | exact .nil | refine .cons (.ptr _) ?_ | refine .cons (.cl (by simp)) ?_)) ?_ ?_ ?_ ?_; (iterate 3 (focus (simp [σ0]; done))); simp -implicitDefEqProofs (maxSteps := 1000000) [w1, hlt, hget, tokA, Tok.av])
              | (refine awl_boxK [4, 7, 9, 10] rfl rfl rfl (by first | assumption | kernel_rfl) (hmu) rfl (by repeat (first | exact .nil | refine .cons (.ptr _) ?_ | refine .cons (.cl (by simp)) ?_)) ?_ ?_ ?_ ?_; (iterate 3 (focus (simp [σ0]; done))); simp -implicitDefEqProofs (maxSteps := 1000000) [w1, hlt, hget, tokA, Tok.av])
              | (refine awl_boxK [4, 7, 9, 10] rfl rfl rfl (by first | assumption | kernel_rfl) (he1) rfl (by repeat (first | exact .nil | refine .cons (.ptr _) ?_ | refine .cons (.cl (by simp)) ?_)) ?_ ?_ ?_ ?_; (iterate 3 (focus (simp [σ0]; done))); simp -implicitDefEqProofs (maxSteps := 1000000) [w1, hlt, hget, tokA, Tok.av])
              | (refine awl_boxK [4, 7, 9, 10] rfl rfl rfl (by first | assumption | kernel_rfl) (hf1) rfl (by repeat (first | exact .nil | refine .cons (.ptr _) ?_ | refine .cons (.cl (by simp)) ?_)) ?_ ?_ ?_ ?_; (iterate 3 (focus (simp [σ0]; done))); simp -implicitDefEqProofs (maxSteps := 1000000) [w1, hlt, hget, tokA, Tok.av])
              | (refine aw_cond rfl (fun h => ?_) (fun h => ?_) <;> try (with_reducible first | exact ff_tt h | exact tt_ff h))
              | refine aw_block ?_
              | refine aw_ret (ret_of (.inr rfl) (by simp [Try.results151]; rfl) (Fin.close (Fin.of ?_)))
              | refine ret_of (.inl rfl) (by simp [Try.results151]; rfl) (Fin.close (Fin.of ?_)))
            all_goals first | simp [tupOf, ASt.noSl, zeroT, Tree.av, avs] | simp at *
          | true =>
            cases mk with
            | true =>
              refine bc_of Try.func151 Try.ntmps151 rfl ?_
              simp only [List.length_cons, List.length_nil, List.cons_append, List.nil_append, List.replicate]
              repeat' (first
                | refine aw_seq ?_
                | ((first | refine aw_run [4, 7, 9, 10] ?_ | refine aw_ymix [4, 7, 9, 10] draws (by decide +kernel) ?_); try simp -implicitDefEqProofs (maxSteps := 1000000) [w1, hlt, hget, tokA, Tok.av])
                | ((first | refine aw_zrun [4, 7, 9, 10] [] draws (by decide +kernel) (by decide +kernel) ?_ | refine zl_skip (by simp) rfl ?_); try simp -implicitDefEqProofs (maxSteps := 1000000) [w1, hlt, hget, tokA, Tok.av]; repeat first | refine zcurL (by decide +kernel) ?_ | refine zcurH (by decide +kernel) ?_ | refine zcurL' (by decide +kernel) ?_ | refine zcurH' (by decide +kernel) ?_)
                | ((first | refine aw_yrun draws (by kernel_rfl) ?_ | refine awl_skip' [4, 7, 9, 10] rfl ?_ | refine yl_skip rfl ?_ | refine aw_skip ?_ | refine aw_exit ?_); try simp -implicitDefEqProofs (maxSteps := 1000000) [w1, hlt, hget, tokA, Tok.av])
                | (refine awl_boxK [4, 7, 9, 10] rfl rfl rfl (by first | assumption | kernel_rfl) (he) rfl (by repeat (first | exact .nil | refine .cons (.ptr _) ?_ | refine .cons (.cl (by simp)) ?_)) ?_ ?_ ?_ ?_; (iterate 3 (focus (simp [σ0]; done))); simp -implicitDefEqProofs (maxSteps := 1000000) [w1, hlt, hget, tokA, Tok.av])
                | (refine awl_boxK [4, 7, 9, 10] rfl rfl rfl (by first | assumption | kernel_rfl) (hc) rfl (by repeat (first | exact .nil | refine .cons (.ptr _) ?_ | refine .cons (.cl (by simp)) ?_)) ?_ ?_ ?_ ?_; (iterate 3 (focus (simp [σ0]; done))); simp -implicitDefEqProofs (maxSteps := 1000000) [w1, hlt, hget, tokA, Tok.av])
                | (refine awl_boxK [4, 7, 9, 10] rfl rfl rfl (by first | assumption | kernel_rfl) (hmu) rfl (by repeat (first | exact .nil | refine .cons (.ptr _) ?_ | refine .cons (.cl (by simp)) ?_)) ?_ ?_ ?_ ?_; (iterate 3 (focus (simp [σ0]; done))); simp -implicitDefEqProofs (maxSteps := 1000000) [w1, hlt, hget, tokA, Tok.av])
                | (refine awl_boxK [4, 7, 9, 10] rfl rfl rfl (by first | assumption | kernel_rfl) (he1) rfl (by repeat (first | exact .nil | refine .cons (.ptr _) ?_ | refine .cons (.cl (by simp)) ?_)) ?_ ?_ ?_ ?_; (iterate 3 (focus (simp [σ0]; done))); simp -implicitDefEqProofs (maxSteps := 1000000) [w1, hlt, hget, tokA, Tok.av])
                | (refine awl_boxK [4, 7, 9, 10] rfl rfl rfl (by first | assumption | kernel_rfl) (hf1) rfl (by repeat (first | exact .nil | refine .cons (.ptr _) ?_ | refine .cons (.cl (by simp)) ?_)) ?_ ?_ ?_ ?_; (iterate 3 (focus (simp [σ0]; done))); simp -implicitDefEqProofs (maxSteps := 1000000) [w1, hlt, hget, tokA, Tok.av])
                | (refine aw_cond rfl (fun h => ?_) (fun h => ?_) <;> try (with_reducible first | exact ff_tt h | exact tt_ff h))
                | refine aw_block ?_
                | refine aw_ret (ret_of (.inr rfl) (by simp [Try.results151]; rfl) (Fin.close (Fin.of ?_)))
                | refine ret_of (.inl rfl) (by simp [Try.results151]; rfl) (Fin.close (Fin.of ?_)))
              all_goals first | simp [tupOf, ASt.noSl, zeroT, Tree.av, avs] | simp at *
            | false =>
              have hk3 : ¬ p.1.k = 3 := fun h => h4 ⟨rfl, h⟩
              refine bc_of Try.func151 Try.ntmps151 rfl ?_
              simp only [List.length_cons, List.length_nil, List.cons_append, List.nil_append, List.replicate]
              repeat' (first
                | refine aw_seq ?_
                | ((first | refine aw_run [4, 7, 9, 10] ?_ | refine aw_ymix [4, 7, 9, 10] draws (by decide +kernel) ?_); try simp -implicitDefEqProofs (maxSteps := 1000000) [w1, hlt, hget, tokA, Tok.av, hk3])
                | ((first | refine aw_zrun [4, 7, 9, 10] [] draws (by decide +kernel) (by decide +kernel) ?_ | refine zl_skip (by simp) rfl ?_); try simp -implicitDefEqProofs (maxSteps := 1000000) [w1, hlt, hget, tokA, Tok.av, hk3]; repeat first | refine zcurL (by decide +kernel) ?_ | refine zcurH (by decide +kernel) ?_ | refine zcurL' (by decide +kernel) ?_ | refine zcurH' (by decide +kernel) ?_)
                | ((first | refine aw_yrun draws (by kernel_rfl) ?_ | refine awl_skip' [4, 7, 9, 10] rfl ?_ | refine yl_skip rfl ?_ | refine aw_skip ?_ | refine aw_exit ?_); try simp -implicitDefEqProofs (maxSteps := 1000000) [w1, hlt, hget, tokA, Tok.av, hk3])
                | (refine awl_boxK [4, 7, 9, 10] rfl rfl rfl (by first | assumption | kernel_rfl) (he) rfl (by repeat (first | exact .nil | refine .cons (.ptr _) ?_ | refine .cons (.cl (by simp)) ?_)) ?_ ?_ ?_ ?_; (iterate 3 (focus (simp [σ0]; done))); simp -implicitDefEqProofs (maxSteps := 1000000) [w1, hlt, hget, tokA, Tok.av, hk3])
                | (refine awl_boxK [4, 7, 9, 10] rfl rfl rfl (by first | assumption | kernel_rfl) (hc) rfl (by repeat (first | exact .nil | refine .cons (.ptr _) ?_ | refine .cons (.cl (by simp)) ?_)) ?_ ?_ ?_ ?_; (iterate 3 (focus (simp [σ0]; done))); simp -implicitDefEqProofs (maxSteps := 1000000) [w1, hlt, hget, tokA, Tok.av, hk3])
                | (refine awl_boxK [4, 7, 9, 10] rfl rfl rfl (by first | assumption | kernel_rfl) (hmu) rfl (by repeat (first | exact .nil | refine .cons (.ptr _) ?_ | refine .cons (.cl (by simp)) ?_)) ?_ ?_ ?_ ?_; (iterate 3 (focus (simp [σ0]; done))); simp -implicitDefEqProofs (maxSteps := 1000000) [w1, hlt, hget, tokA, Tok.av, hk3])
                | (refine awl_boxK [4, 7, 9, 10] rfl rfl rfl (by first | assumption | kernel_rfl) (he1) rfl (by repeat (first | exact .nil | refine .cons (.ptr _) ?_ | refine .cons (.cl (by simp)) ?_)) ?_ ?_ ?_ ?_; (iterate 3 (focus (simp [σ0]; done))); simp -implicitDefEqProofs (maxSteps := 1000000) [w1, hlt, hget, tokA, Tok.av, hk3])
                | (refine awl_boxK [4, 7, 9, 10] rfl rfl rfl (by first | assumption | kernel_rfl) (hf1) rfl (by repeat (first | exact .nil | refine .cons (.ptr _) ?_ | refine .cons (.cl (by simp)) ?_)) ?_ ?_ ?_ ?_; (iterate 3 (focus (simp [σ0]; done))); simp -implicitDefEqProofs (maxSteps := 1000000) [w1, hlt, hget, tokA, Tok.av, hk3])
                | (refine aw_cond rfl (fun h => ?_) (fun h => ?_) <;> try (with_reducible first | exact ff_tt h | exact tt_ff h))
                | refine aw_block ?_
                | refine aw_ret (ret_of (.inr rfl) (by simp [Try.results151]; rfl) (Fin.close (Fin.of ?_)))
                | refine ret_of (.inl rfl) (by simp [Try.results151]; rfl) (Fin.close (Fin.of ?_)))
              all_goals first | simp [tupOf, ASt.noSl, zeroT, Tree.av, avs] | simp at *
        · rw [if_neg h5] at hF
          have h5 : endP ts s1 = true := by simpa using h5
          rw [h5] at he1
          obtain ⟨q, hq⟩ := endP_get h5
          rw [hq] at hF
          simp only at hF
          have hlt2 : s1.at_ < ts.length := (List.getElem?_eq_some_iff.1 hq).1
          have hget2 : ts[s1.at_] = q := by rw [List.getElem?_eq_getElem hlt2] at hq; exact Option.some.inj hq
          have w2 : IntKind.i64.wrap ((s1.at_ : Int) + 1) = (s1.at_ : Int) + 1 := wrap_id (by omega) (by omega)
          have hsp := rspan_ok p.1.c p.1.r q.1.c q.1.r
          have hs2 : s'.at_ ≤ ts.length := by
            split at hF <;> (simp only [Option.some.injEq, Prod.mk.injEq] at hF; rw [← hF.2]; exact hlt2)
          refine ⟨⟨?_, rdc_cl _ _ _, rdc_cl _ _ _, Tree.cl _⟩, hs2⟩
          by_cases h6 : p.1.k = 3 ∨ q.1.k = 3
          · rw [if_pos h6] at hF
            simp only [Option.some.injEq, Prod.mk.injEq] at hF
            obtain ⟨rfl, rfl⟩ := hF
            simp only [rdc, RS.next] at he hc hmu he1 hf1 ⊢
            by_cases hp3 : p.1.k = 3
            · cases co with
              | false =>
                have hm : mk = true := by simpa using hg
                subst hm
                refine bc_of Try.func151 Try.ntmps151 rfl ?_
                simp only [List.length_cons, List.length_nil, List.cons_append, List.nil_append, List.replicate]
                repeat' (first
                  | refine aw_seq ?_
                  | ((first | refine aw_run [4, 7, 9, 10] ?_ | refine aw_ymix [4, 7, 9, 10] draws (by decide +kernel) ?_); try simp -implicitDefEqProofs (maxSteps := 1000000) [w1, hlt, hget, w2, hlt2, hget2, tokA, Tok.av, hp3])
                  | ((first | refine aw_zrun [4, 7, 9, 10] [] draws (by decide +kernel) (by decide +kernel) ?_ | refine zl_skip (by simp) rfl ?_); try simp -implicitDefEqProofs (maxSteps := 1000000) [w1, hlt, hget, w2, hlt2, hget2, tokA, Tok.av, hp3]; repeat first | refine zcurL (by decide +kernel) ?_ | refine zcurH (by decide +kernel) ?_ | refine zcurL' (by decide +kernel) ?_ | refine zcurH' (by decide +kernel) ?_)
                  | ((first | refine aw_yrun draws (by kernel_rfl) ?_ | refine awl_skip' [4, 7, 9, 10] rfl ?_ | refine yl_skip rfl ?_ | refine aw_skip ?_ | refine aw_exit ?_); try simp -implicitDefEqProofs (maxSteps := 1000000) [w1, hlt, hget, w2, hlt2, hget2, tokA, Tok.av, hp3])
                  | (refine awl_boxK [4, 7, 9, 10] rfl rfl rfl (by first | assumption | kernel_rfl) (he) rfl (by repeat (first | exact .nil | refine .cons (.ptr _) ?_ | refine .cons (.cl (by simp)) ?_)) ?_ ?_ ?_ ?_; (iterate 3 (focus (simp [σ0]; done))); simp -implicitDefEqProofs (maxSteps := 1000000) [w1, hlt, hget, w2, hlt2, hget2, tokA, Tok.av, hp3])
                  | (refine awl_boxK [4, 7, 9, 10] rfl rfl rfl (by first | assumption | kernel_rfl) (hc) rfl (by repeat (first | exact .nil | refine .cons (.ptr _) ?_ | refine .cons (.cl (by simp)) ?_)) ?_ ?_ ?_ ?_; (iterate 3 (focus (simp [σ0]; done))); simp -implicitDefEqProofs (maxSteps := 1000000) [w1, hlt, hget, w2, hlt2, hget2, tokA, Tok.av, hp3])
                  | (refine awl_boxK [4, 7, 9, 10] rfl rfl rfl (by first | assumption | kernel_rfl) (hmu) rfl (by repeat (first | exact .nil | refine .cons (.ptr _) ?_ | refine .cons (.cl (by simp)) ?_)) ?_ ?_ ?_ ?_; (iterate 3 (focus (simp [σ0]; done))); simp -implicitDefEqProofs (maxSteps := 1000000) [w1, hlt, hget, w2, hlt2, hget2, tokA, Tok.av, hp3])
                  | (refine awl_boxK [4, 7, 9, 10] rfl rfl rfl (by first | assumption | kernel_rfl) (he1) rfl (by repeat (first | exact .nil | refine .cons (.ptr _) ?_ | refine .cons (.cl (by simp)) ?_)) ?_ ?_ ?_ ?_; (iterate 3 (focus (simp [σ0]; done))); simp -implicitDefEqProofs (maxSteps := 1000000) [w1, hlt, hget, w2, hlt2, hget2, tokA, Tok.av, hp3])
                  | (refine aw_cond rfl (fun h => ?_) (fun h => ?_) <;> try (with_reducible first | exact ff_tt h | exact tt_ff h))
                  | refine aw_block ?_
                  | refine aw_ret (ret_of (.inr rfl) (by simp [Try.results151]; rfl) (Fin.close (Fin.of ?_)))
                  | refine ret_of (.inl rfl) (by simp [Try.results151]; rfl) (Fin.close (Fin.of ?_)))
                all_goals first | simp [tupOf, ASt.noSl, badT, tokSpan, spanT, Tree.av, avs] | simp at *
              | true =>
                cases mk with
                | true =>
                  refine bc_of Try.func151 Try.ntmps151 rfl ?_
                  simp only [List.length_cons, List.length_nil, List.cons_append, List.nil_append, List.replicate]
                  repeat' (first
                    | refine aw_seq ?_
                    | ((first | refine aw_run [4, 7, 9, 10] ?_ | refine aw_ymix [4, 7, 9, 10] draws (by decide +kernel) ?_); try simp -implicitDefEqProofs (maxSteps := 1000000) [w1, hlt, hget, w2, hlt2, hget2, tokA, Tok.av, hp3])
                    | ((first | refine aw_zrun [4, 7, 9, 10] [] draws (by decide +kernel) (by decide +kernel) ?_ | refine zl_skip (by simp) rfl ?_); try simp -implicitDefEqProofs (maxSteps := 1000000) [w1, hlt, hget, w2, hlt2, hget2, tokA, Tok.av, hp3]; repeat first | refine zcurL (by decide +kernel) ?_ | refine zcurH (by decide +kernel) ?_ | refine zcurL' (by decide +kernel) ?_ | refine zcurH' (by decide +kernel) ?_)
                    | ((first | refine aw_yrun draws (by kernel_rfl) ?_ | refine awl_skip' [4, 7, 9, 10] rfl ?_ | refine yl_skip rfl ?_ | refine aw_skip ?_ | refine aw_exit ?_); try simp -implicitDefEqProofs (maxSteps := 1000000) [w1, hlt, hget, w2, hlt2, hget2, tokA, Tok.av, hp3])
                    | (refine awl_boxK [4, 7, 9, 10] rfl rfl rfl (by first | assumption | kernel_rfl) (he) rfl (by repeat (first | exact .nil | refine .cons (.ptr _) ?_ | refine .cons (.cl (by simp)) ?_)) ?_ ?_ ?_ ?_; (iterate 3 (focus (simp [σ0]; done))); simp -implicitDefEqProofs (maxSteps := 1000000) [w1, hlt, hget, w2, hlt2, hget2, tokA, Tok.av, hp3])
                    | (refine awl_boxK [4, 7, 9, 10] rfl rfl rfl (by first | assumption | kernel_rfl) (hc) rfl (by repeat (first | exact .nil | refine .cons (.ptr _) ?_ | refine .cons (.cl (by simp)) ?_)) ?_ ?_ ?_ ?_; (iterate 3 (focus (simp [σ0]; done))); simp -implicitDefEqProofs (maxSteps := 1000000) [w1, hlt, hget, w2, hlt2, hget2, tokA, Tok.av, hp3])
                    | (refine awl_boxK [4, 7, 9, 10] rfl rfl rfl (by first | assumption | kernel_rfl) (hmu) rfl (by repeat (first | exact .nil | refine .cons (.ptr _) ?_ | refine .cons (.cl (by simp)) ?_)) ?_ ?_ ?_ ?_; (iterate 3 (focus (simp [σ0]; done))); simp -implicitDefEqProofs (maxSteps := 1000000) [w1, hlt, hget, w2, hlt2, hget2, tokA, Tok.av, hp3])
                    | (refine awl_boxK [4, 7, 9, 10] rfl rfl rfl (by first | assumption | kernel_rfl) (he1) rfl (by repeat (first | exact .nil | refine .cons (.ptr _) ?_ | refine .cons (.cl (by simp)) ?_)) ?_ ?_ ?_ ?_; (iterate 3 (focus (simp [σ0]; done))); simp -implicitDefEqProofs (maxSteps := 1000000) [w1, hlt, hget, w2, hlt2, hget2, tokA, Tok.av, hp3])
                    | (refine aw_cond rfl (fun h => ?_) (fun h => ?_) <;> try (with_reducible first | exact ff_tt h | exact tt_ff h))
                    | refine aw_block ?_
                    | refine aw_ret (ret_of (.inr rfl) (by simp [Try.results151]; rfl) (Fin.close (Fin.of ?_)))
                    | refine ret_of (.inl rfl) (by simp [Try.results151]; rfl) (Fin.close (Fin.of ?_)))
                  all_goals first | simp [tupOf, ASt.noSl, badT, tokSpan, spanT, Tree.av, avs] | simp at *
                | false =>
                  exact absurd ⟨rfl, hp3⟩ h4
            · have hq3 : q.1.k = 3 := by simpa [hp3] using h6
              cases co with
              | false =>
                have hm : mk = true := by simpa using hg
                subst hm
                refine bc_of Try.func151 Try.ntmps151 rfl ?_
                simp only [List.length_cons, List.length_nil, List.cons_append, List.nil_append, List.replicate]
                repeat' (first
                  | refine aw_seq ?_
                  | ((first | refine aw_run [4, 7, 9, 10] ?_ | refine aw_ymix [4, 7, 9, 10] draws (by decide +kernel) ?_); try simp -implicitDefEqProofs (maxSteps := 1000000) [w1, hlt, hget, w2, hlt2, hget2, tokA, Tok.av, hp3, hq3])
                  | ((first | refine aw_zrun [4, 7, 9, 10] [] draws (by decide +kernel) (by decide +kernel) ?_ | refine zl_skip (by simp) rfl ?_); try simp -implicitDefEqProofs (maxSteps := 1000000) [w1, hlt, hget, w2, hlt2, hget2, tokA, Tok.av, hp3, hq3]; repeat first | refine zcurL (by decide +kernel) ?_ | refine zcurH (by decide +kernel) ?_ | refine zcurL' (by decide +kernel) ?_ | refine zcurH' (by decide +kernel) ?_)
                  | ((first | refine aw_yrun draws (by kernel_rfl) ?_ | refine awl_skip' [4, 7, 9, 10] rfl ?_ | refine yl_skip rfl ?_ | refine aw_skip ?_ | refine aw_exit ?_); try simp -implicitDefEqProofs (maxSteps := 1000000) [w1, hlt, hget, w2, hlt2, hget2, tokA, Tok.av, hp3, hq3])
                  | (refine awl_boxK [4, 7, 9, 10] rfl rfl rfl (by first | assumption | kernel_rfl) (he) rfl (by repeat (first | exact .nil | refine .cons (.ptr _) ?_ | refine .cons (.cl (by simp)) ?_)) ?_ ?_ ?_ ?_; (iterate 3 (focus (simp [σ0]; done))); simp -implicitDefEqProofs (maxSteps := 1000000) [w1, hlt, hget, w2, hlt2, hget2, tokA, Tok.av, hp3, hq3])
                  | (refine awl_boxK [4, 7, 9, 10] rfl rfl rfl (by first | assumption | kernel_rfl) (hc) rfl (by repeat (first | exact .nil | refine .cons (.ptr _) ?_ | refine .cons (.cl (by simp)) ?_)) ?_ ?_ ?_ ?_; (iterate 3 (focus (simp [σ0]; done))); simp -implicitDefEqProofs (maxSteps := 1000000) [w1, hlt, hget, w2, hlt2, hget2, tokA, Tok.av, hp3, hq3])
                  | (refine awl_boxK [4, 7, 9, 10] rfl rfl rfl (by first | assumption | kernel_rfl) (hmu) rfl (by repeat (first | exact .nil | refine .cons (.ptr _) ?_ | refine .cons (.cl (by simp)) ?_)) ?_ ?_ ?_ ?_; (iterate 3 (focus (simp [σ0]; done))); simp -implicitDefEqProofs (maxSteps := 1000000) [w1, hlt, hget, w2, hlt2, hget2, tokA, Tok.av, hp3, hq3])
                  | (refine awl_boxK [4, 7, 9, 10] rfl rfl rfl (by first | assumption | kernel_rfl) (he1) rfl (by repeat (first | exact .nil | refine .cons (.ptr _) ?_ | refine .cons (.cl (by simp)) ?_)) ?_ ?_ ?_ ?_; (iterate 3 (focus (simp [σ0]; done))); simp -implicitDefEqProofs (maxSteps := 1000000) [w1, hlt, hget, w2, hlt2, hget2, tokA, Tok.av, hp3, hq3])
                  | (refine aw_cond rfl (fun h => ?_) (fun h => ?_) <;> try (with_reducible first | exact ff_tt h | exact tt_ff h))
                  | refine aw_block ?_
                  | refine aw_ret (ret_of (.inr rfl) (by simp [Try.results151]; rfl) (Fin.close (Fin.of ?_)))
                  | refine ret_of (.inl rfl) (by simp [Try.results151]; rfl) (Fin.close (Fin.of ?_)))
                all_goals first | simp [tupOf, ASt.noSl, badT, tokSpan, spanT, Tree.av, avs] | simp at *
              | true =>
                cases mk with
                | true =>
                  refine bc_of Try.func151 Try.ntmps151 rfl ?_
                  simp only [List.length_cons, List.length_nil, List.cons_append, List.nil_append, List.replicate]
                  repeat' (first
                    | refine aw_seq ?_
                    | ((first | refine aw_run [4, 7, 9, 10] ?_ | refine aw_ymix [4, 7, 9, 10] draws (by decide +kernel) ?_); try simp -implicitDefEqProofs (maxSteps := 1000000) [w1, hlt, hget, w2, hlt2, hget2, tokA, Tok.av, hp3, hq3])
                    | ((first | refine aw_zrun [4, 7, 9, 10] [] draws (by decide +kernel) (by decide +kernel) ?_ | refine zl_skip (by simp) rfl ?_); try simp -implicitDefEqProofs (maxSteps := 1000000) [w1, hlt, hget, w2, hlt2, hget2, tokA, Tok.av, hp3, hq3]; repeat first | refine zcurL (by decide +kernel) ?_ | refine zcurH (by decide +kernel) ?_ | refine zcurL' (by decide +kernel) ?_ | refine zcurH' (by decide +kernel) ?_)
                    | ((first | refine aw_yrun draws (by kernel_rfl) ?_ | refine awl_skip' [4, 7, 9, 10] rfl ?_ | refine yl_skip rfl ?_ | refine aw_skip ?_ | refine aw_exit ?_); try simp -implicitDefEqProofs (maxSteps := 1000000) [w1, hlt, hget, w2, hlt2, hget2, tokA, Tok.av, hp3, hq3])
                    | (refine awl_boxK [4, 7, 9, 10] rfl rfl rfl (by first | assumption | kernel_rfl) (he) rfl (by repeat (first | exact .nil | refine .cons (.ptr _) ?_ | refine .cons (.cl (by simp)) ?_)) ?_ ?_ ?_ ?_; (iterate 3 (focus (simp [σ0]; done))); simp -implicitDefEqProofs (maxSteps := 1000000) [w1, hlt, hget, w2, hlt2, hget2, tokA, Tok.av, hp3, hq3])
                    | (refine awl_boxK [4, 7, 9, 10] rfl rfl rfl (by first | assumption | kernel_rfl) (hc) rfl (by repeat (first | exact .nil | refine .cons (.ptr _) ?_ | refine .cons (.cl (by simp)) ?_)) ?_ ?_ ?_ ?_; (iterate 3 (focus (simp [σ0]; done))); simp -implicitDefEqProofs (maxSteps := 1000000) [w1, hlt, hget, w2, hlt2, hget2, tokA, Tok.av, hp3, hq3])
                    | (refine awl_boxK [4, 7, 9, 10] rfl rfl rfl (by first | assumption | kernel_rfl) (hmu) rfl (by repeat (first | exact .nil | refine .cons (.ptr _) ?_ | refine .cons (.cl (by simp)) ?_)) ?_ ?_ ?_ ?_; (iterate 3 (focus (simp [σ0]; done))); simp -implicitDefEqProofs (maxSteps := 1000000) [w1, hlt, hget, w2, hlt2, hget2, tokA, Tok.av, hp3, hq3])
                    | (refine awl_boxK [4, 7, 9, 10] rfl rfl rfl (by first | assumption | kernel_rfl) (he1) rfl (by repeat (first | exact .nil | refine .cons (.ptr _) ?_ | refine .cons (.cl (by simp)) ?_)) ?_ ?_ ?_ ?_; (iterate 3 (focus (simp [σ0]; done))); simp -implicitDefEqProofs (maxSteps := 1000000) [w1, hlt, hget, w2, hlt2, hget2, tokA, Tok.av, hp3, hq3])
                    | (refine aw_cond rfl (fun h => ?_) (fun h => ?_) <;> try (with_reducible first | exact ff_tt h | exact tt_ff h))
                    | refine aw_block ?_
                    | refine aw_ret (ret_of (.inr rfl) (by simp [Try.results151]; rfl) (Fin.close (Fin.of ?_)))
                    | refine ret_of (.inl rfl) (by simp [Try.results151]; rfl) (Fin.close (Fin.of ?_)))
                  all_goals first | simp [tupOf, ASt.noSl, badT, tokSpan, spanT, Tree.av, avs] | simp at *
                | false =>
                  refine bc_of Try.func151 Try.ntmps151 rfl ?_
                  simp only [List.length_cons, List.length_nil, List.cons_append, List.nil_append, List.replicate]
                  repeat' (first
                    | refine aw_seq ?_
                    | ((first | refine aw_run [4, 7, 9, 10] ?_ | refine aw_ymix [4, 7, 9, 10] draws (by decide +kernel) ?_); try simp -implicitDefEqProofs (maxSteps := 1000000) [w1, hlt, hget, w2, hlt2, hget2, tokA, Tok.av, hp3, hq3])
                    | ((first | refine aw_zrun [4, 7, 9, 10] [] draws (by decide +kernel) (by decide +kernel) ?_ | refine zl_skip (by simp) rfl ?_); try simp -implicitDefEqProofs (maxSteps := 1000000) [w1, hlt, hget, w2, hlt2, hget2, tokA, Tok.av, hp3, hq3]; repeat first | refine zcurL (by decide +kernel) ?_ | refine zcurH (by decide +kernel) ?_ | refine zcurL' (by decide +kernel) ?_ | refine zcurH' (by decide +kernel) ?_)
                    | ((first | refine aw_yrun draws (by kernel_rfl) ?_ | refine awl_skip' [4, 7, 9, 10] rfl ?_ | refine yl_skip rfl ?_ | refine aw_skip ?_ | refine aw_exit ?_); try simp -implicitDefEqProofs (maxSteps := 1000000) [w1, hlt, hget, w2, hlt2, hget2, tokA, Tok.av, hp3, hq3])
                    | (refine awl_boxK [4, 7, 9, 10] rfl rfl rfl (by first | assumption | kernel_rfl) (he) rfl (by repeat (first | exact .nil | refine .cons (.ptr _) ?_ | refine .cons (.cl (by simp)) ?_)) ?_ ?_ ?_ ?_; (iterate 3 (focus (simp [σ0]; done))); simp -implicitDefEqProofs (maxSteps := 1000000) [w1, hlt, hget, w2, hlt2, hget2, tokA, Tok.av, hp3, hq3])
                    | (refine awl_boxK [4, 7, 9, 10] rfl rfl rfl (by first | assumption | kernel_rfl) (hc) rfl (by repeat (first | exact .nil | refine .cons (.ptr _) ?_ | refine .cons (.cl (by simp)) ?_)) ?_ ?_ ?_ ?_; (iterate 3 (focus (simp [σ0]; done))); simp -implicitDefEqProofs (maxSteps := 1000000) [w1, hlt, hget, w2, hlt2, hget2, tokA, Tok.av, hp3, hq3])
                    | (refine awl_boxK [4, 7, 9, 10] rfl rfl rfl (by first | assumption | kernel_rfl) (hmu) rfl (by repeat (first | exact .nil | refine .cons (.ptr _) ?_ | refine .cons (.cl (by simp)) ?_)) ?_ ?_ ?_ ?_; (iterate 3 (focus (simp [σ0]; done))); simp -implicitDefEqProofs (maxSteps := 1000000) [w1, hlt, hget, w2, hlt2, hget2, tokA, Tok.av, hp3, hq3])
                    | (refine awl_boxK [4, 7, 9, 10] rfl rfl rfl (by first | assumption | kernel_rfl) (he1) rfl (by repeat (first | exact .nil | refine .cons (.ptr _) ?_ | refine .cons (.cl (by simp)) ?_)) ?_ ?_ ?_ ?_; (iterate 3 (focus (simp [σ0]; done))); simp -implicitDefEqProofs (maxSteps := 1000000) [w1, hlt, hget, w2, hlt2, hget2, tokA, Tok.av, hp3, hq3])
                    | (refine aw_cond rfl (fun h => ?_) (fun h => ?_) <;> try (with_reducible first | exact ff_tt h | exact tt_ff h))
                    | refine aw_block ?_
                    | refine aw_ret (ret_of (.inr rfl) (by simp [Try.results151]; rfl) (Fin.close (Fin.of ?_)))
                    | refine ret_of (.inl rfl) (by simp [Try.results151]; rfl) (Fin.close (Fin.of ?_)))
                  all_goals first | simp [tupOf, ASt.noSl, badT, tokSpan, spanT, Tree.av, avs] | simp at *
          · rw [if_neg h6] at hF
            simp only [Option.some.injEq, Prod.mk.injEq] at hF
            obtain ⟨rfl, rfl⟩ := hF
            simp only [rdc, RS.next] at he hc hmu he1 hf1 ⊢
            have hk3 : ¬ p.1.k = 3 := fun h => h6 (.inl h)
            have hq3 : ¬ q.1.k = 3 := fun h => h6 (.inr h)
            cases co with
            | false =>
              have hm : mk = true := by simpa using hg
              subst hm
              refine bc_of Try.func151 Try.ntmps151 rfl ?_
              simp only [List.length_cons, List.length_nil, List.cons_append, List.nil_append, List.replicate]
              repeat' (first
                | refine aw_seq ?_
                | ((first | refine aw_run [4, 7, 9, 10] ?_ | refine aw_ymix [4, 7, 9, 10] draws (by decide +kernel) ?_); try simp -implicitDefEqProofs (maxSteps := 1000000) [w1, hlt, hget, w2, hlt2, hget2, tokA, Tok.av, hk3, hq3])
                | ((first | refine aw_zrun [4, 7, 9, 10] [] draws (by decide +kernel) (by decide +kernel) ?_ | refine zl_skip (by simp) rfl ?_ | refine zl_pure_guard (by simp) rfl rfl rfl (by first | assumption | kernel_rfl) rfl (fun hc => by first | exact hsp) (by simp) (by simp) (by simp) ?_ | refine zl_pure (by simp) rfl rfl rfl (by first | assumption | kernel_rfl) rfl (by first | exact hsp) (by simp) (by simp) ?_); try simp -implicitDefEqProofs (maxSteps := 1000000) [w1, hlt, hget, w2, hlt2, hget2, tokA, Tok.av, hk3, hq3]; repeat first | refine zcurL (by decide +kernel) ?_ | refine zcurH (by decide +kernel) ?_ | refine zcurL' (by decide +kernel) ?_ | refine zcurH' (by decide +kernel) ?_)
                | ((first | refine aw_yrun draws (by kernel_rfl) ?_ | refine awl_skip' [4, 7, 9, 10] rfl ?_ | refine yl_skip rfl ?_ | refine awl_pure_guard [4, 7, 9, 10] rfl rfl rfl (by first | assumption | kernel_rfl) rfl (fun hc => by first | exact hsp) (by simp) (by simp) (by simp) ?_ | refine yl_pureG rfl rfl rfl (by first | assumption | kernel_rfl) rfl (fun hc => by first | exact hsp) (by simp) (by simp) (by simp) ?_ | refine awl_pure' [4, 7, 9, 10] rfl rfl rfl (by first | assumption | kernel_rfl) rfl (by first | exact hsp) (by simp) (by simp) ?_ | refine yl_pure rfl rfl rfl (by first | assumption | kernel_rfl) rfl (by first | exact hsp) (by simp) (by simp) ?_ | refine aw_skip ?_ | refine aw_exit ?_); try simp -implicitDefEqProofs (maxSteps := 1000000) [w1, hlt, hget, w2, hlt2, hget2, tokA, Tok.av, hk3, hq3])
                | (refine awl_boxK [4, 7, 9, 10] rfl rfl rfl (by first | assumption | kernel_rfl) (he) rfl (by repeat (first | exact .nil | refine .cons (.ptr _) ?_ | refine .cons (.cl (by simp)) ?_)) ?_ ?_ ?_ ?_; (iterate 3 (focus (simp [σ0]; done))); simp -implicitDefEqProofs (maxSteps := 1000000) [w1, hlt, hget, w2, hlt2, hget2, tokA, Tok.av, hk3, hq3])
                | (refine awl_boxK [4, 7, 9, 10] rfl rfl rfl (by first | assumption | kernel_rfl) (hc) rfl (by repeat (first | exact .nil | refine .cons (.ptr _) ?_ | refine .cons (.cl (by simp)) ?_)) ?_ ?_ ?_ ?_; (iterate 3 (focus (simp [σ0]; done))); simp -implicitDefEqProofs (maxSteps := 1000000) [w1, hlt, hget, w2, hlt2, hget2, tokA, Tok.av, hk3, hq3])
                | (refine awl_boxK [4, 7, 9, 10] rfl rfl rfl (by first | assumption | kernel_rfl) (hmu) rfl (by repeat (first | exact .nil | refine .cons (.ptr _) ?_ | refine .cons (.cl (by simp)) ?_)) ?_ ?_ ?_ ?_; (iterate 3 (focus (simp [σ0]; done))); simp -implicitDefEqProofs (maxSteps := 1000000) [w1, hlt, hget, w2, hlt2, hget2, tokA, Tok.av, hk3, hq3])
                | (refine awl_boxK [4, 7, 9, 10] rfl rfl rfl (by first | assumption | kernel_rfl) (he1) rfl (by repeat (first | exact .nil | refine .cons (.ptr _) ?_ | refine .cons (.cl (by simp)) ?_)) ?_ ?_ ?_ ?_; (iterate 3 (focus (simp [σ0]; done))); simp -implicitDefEqProofs (maxSteps := 1000000) [w1, hlt, hget, w2, hlt2, hget2, tokA, Tok.av, hk3, hq3])
                | (refine aw_cond rfl (fun h => ?_) (fun h => ?_) <;> try (with_reducible first | exact ff_tt h | exact tt_ff h))
                | refine aw_block ?_
                | refine aw_ret (ret_of (.inr rfl) (by simp [Try.results151]; rfl) (Fin.close (Fin.of ?_)))
                | refine ret_of (.inl rfl) (by simp [Try.results151]; rfl) (Fin.close (Fin.of ?_)))
              all_goals first | simp [tupOf, ASt.noSl, badT, tokSpan, spanT, Tree.av, avs] | simp at *
            | true =>
              cases mk with
              | true =>
                refine bc_of Try.func151 Try.ntmps151 rfl ?_
                simp only [List.length_cons, List.length_nil, List.cons_append, List.nil_append, List.replicate]
                repeat' (first
                  | refine aw_seq ?_
                  | ((first | refine aw_run [4, 7, 9, 10] ?_ | refine aw_ymix [4, 7, 9, 10] draws (by decide +kernel) ?_); try simp -implicitDefEqProofs (maxSteps := 1000000) [w1, hlt, hget, w2, hlt2, hget2, tokA, Tok.av, hk3, hq3])
                  | ((first | refine aw_zrun [4, 7, 9, 10] [] draws (by decide +kernel) (by decide +kernel) ?_ | refine zl_skip (by simp) rfl ?_ | refine zl_pure_guard (by simp) rfl rfl rfl (by first | assumption | kernel_rfl) rfl (fun hc => by first | exact hsp) (by simp) (by simp) (by simp) ?_ | refine zl_pure (by simp) rfl rfl rfl (by first | assumption | kernel_rfl) rfl (by first | exact hsp) (by simp) (by simp) ?_); try simp -implicitDefEqProofs (maxSteps := 1000000) [w1, hlt, hget, w2, hlt2, hget2, tokA, Tok.av, hk3, hq3]; repeat first | refine zcurL (by decide +kernel) ?_ | refine zcurH (by decide +kernel) ?_ | refine zcurL' (by decide +kernel) ?_ | refine zcurH' (by decide +kernel) ?_)
                  | ((first | refine aw_yrun draws (by kernel_rfl) ?_ | refine awl_skip' [4, 7, 9, 10] rfl ?_ | refine yl_skip rfl ?_ | refine awl_pure_guard [4, 7, 9, 10] rfl rfl rfl (by first | assumption | kernel_rfl) rfl (fun hc => by first | exact hsp) (by simp) (by simp) (by simp) ?_ | refine yl_pureG rfl rfl rfl (by first | assumption | kernel_rfl) rfl (fun hc => by first | exact hsp) (by simp) (by simp) (by simp) ?_ | refine awl_pure' [4, 7, 9, 10] rfl rfl rfl (by first | assumption | kernel_rfl) rfl (by first | exact hsp) (by simp) (by simp) ?_ | refine yl_pure rfl rfl rfl (by first | assumption | kernel_rfl) rfl (by first | exact hsp) (by simp) (by simp) ?_ | refine aw_skip ?_ | refine aw_exit ?_); try simp -implicitDefEqProofs (maxSteps := 1000000) [w1, hlt, hget, w2, hlt2, hget2, tokA, Tok.av, hk3, hq3])
                  | (refine awl_boxK [4, 7, 9, 10] rfl rfl rfl (by first | assumption | kernel_rfl) (he) rfl (by repeat (first | exact .nil | refine .cons (.ptr _) ?_ | refine .cons (.cl (by simp)) ?_)) ?_ ?_ ?_ ?_; (iterate 3 (focus (simp [σ0]; done))); simp -implicitDefEqProofs (maxSteps := 1000000) [w1, hlt, hget, w2, hlt2, hget2, tokA, Tok.av, hk3, hq3])
                  | (refine awl_boxK [4, 7, 9, 10] rfl rfl rfl (by first | assumption | kernel_rfl) (hc) rfl (by repeat (first | exact .nil | refine .cons (.ptr _) ?_ | refine .cons (.cl (by simp)) ?_)) ?_ ?_ ?_ ?_; (iterate 3 (focus (simp [σ0]; done))); simp -implicitDefEqProofs (maxSteps := 1000000) [w1, hlt, hget, w2, hlt2, hget2, tokA, Tok.av, hk3, hq3])
                  | (refine awl_boxK [4, 7, 9, 10] rfl rfl rfl (by first | assumption | kernel_rfl) (hmu) rfl (by repeat (first | exact .nil | refine .cons (.ptr _) ?_ | refine .cons (.cl (by simp)) ?_)) ?_ ?_ ?_ ?_; (iterate 3 (focus (simp [σ0]; done))); simp -implicitDefEqProofs (maxSteps := 1000000) [w1, hlt, hget, w2, hlt2, hget2, tokA, Tok.av, hk3, hq3])
                  | (refine awl_boxK [4, 7, 9, 10] rfl rfl rfl (by first | assumption | kernel_rfl) (he1) rfl (by repeat (first | exact .nil | refine .cons (.ptr _) ?_ | refine .cons (.cl (by simp)) ?_)) ?_ ?_ ?_ ?_; (iterate 3 (focus (simp [σ0]; done))); simp -implicitDefEqProofs (maxSteps := 1000000) [w1, hlt, hget, w2, hlt2, hget2, tokA, Tok.av, hk3, hq3])
                  | (refine aw_cond rfl (fun h => ?_) (fun h => ?_) <;> try (with_reducible first | exact ff_tt h | exact tt_ff h))
                  | refine aw_block ?_
                  | refine aw_ret (ret_of (.inr rfl) (by simp [Try.results151]; rfl) (Fin.close (Fin.of ?_)))
                  | refine ret_of (.inl rfl) (by simp [Try.results151]; rfl) (Fin.close (Fin.of ?_)))
                all_goals first | simp [tupOf, ASt.noSl, badT, tokSpan, spanT, Tree.av, avs] | simp at *
              | false =>
                refine bc_of Try.func151 Try.ntmps151 rfl ?_
                simp only [List.length_cons, List.length_nil, List.cons_append, List.nil_append, List.replicate]
                repeat' (first
                  | refine aw_seq ?_
                  | ((first | refine aw_run [4, 7, 9, 10] ?_ | refine aw_ymix [4, 7, 9, 10] draws (by decide +kernel) ?_); try simp -implicitDefEqProofs (maxSteps := 1000000) [w1, hlt, hget, w2, hlt2, hget2, tokA, Tok.av, hk3, hq3])
                  | ((first | refine aw_zrun [4, 7, 9, 10] [] draws (by decide +kernel) (by decide +kernel) ?_ | refine zl_skip (by simp) rfl ?_ | refine zl_pure_guard (by simp) rfl rfl rfl (by first | assumption | kernel_rfl) rfl (fun hc => by first | exact hsp) (by simp) (by simp) (by simp) ?_ | refine zl_pure (by simp) rfl rfl rfl (by first | assumption | kernel_rfl) rfl (by first | exact hsp) (by simp) (by simp) ?_); try simp -implicitDefEqProofs (maxSteps := 1000000) [w1, hlt, hget, w2, hlt2, hget2, tokA, Tok.av, hk3, hq3]; repeat first | refine zcurL (by decide +kernel) ?_ | refine zcurH (by decide +kernel) ?_ | refine zcurL' (by decide +kernel) ?_ | refine zcurH' (by decide +kernel) ?_)
                  | ((first | refine aw_yrun draws (by kernel_rfl) ?_ | refine awl_skip' [4, 7, 9, 10] rfl ?_ | refine yl_skip rfl ?_ | refine awl_pure_guard [4, 7, 9, 10] rfl rfl rfl (by first | assumption | kernel_rfl) rfl (fun hc => by first | exact hsp) (by simp) (by simp) (by simp) ?_ | refine yl_pureG rfl rfl rfl (by first | assumption | kernel_rfl) rfl (fun hc => by first | exact hsp) (by simp) (by simp) (by simp) ?_ | refine awl_pure' [4, 7, 9, 10] rfl rfl rfl (by first | assumption | kernel_rfl) rfl (by first | exact hsp) (by simp) (by simp) ?_ | refine yl_pure rfl rfl rfl (by first | assumption | kernel_rfl) rfl (by first | exact hsp) (by simp) (by simp) ?_ | refine aw_skip ?_ | refine aw_exit ?_); try simp -implicitDefEqProofs (maxSteps := 1000000) [w1, hlt, hget, w2, hlt2, hget2, tokA, Tok.av, hk3, hq3])
                  | (refine awl_boxK [4, 7, 9, 10] rfl rfl rfl (by first | assumption | kernel_rfl) (he) rfl (by repeat (first | exact .nil | refine .cons (.ptr _) ?_ | refine .cons (.cl (by simp)) ?_)) ?_ ?_ ?_ ?_; (iterate 3 (focus (simp [σ0]; done))); simp -implicitDefEqProofs (maxSteps := 1000000) [w1, hlt, hget, w2, hlt2, hget2, tokA, Tok.av, hk3, hq3])
                  | (refine awl_boxK [4, 7, 9, 10] rfl rfl rfl (by first | assumption | kernel_rfl) (hc) rfl (by repeat (first | exact .nil | refine .cons (.ptr _) ?_ | refine .cons (.cl (by simp)) ?_)) ?_ ?_ ?_ ?_; (iterate 3 (focus (simp [σ0]; done))); simp -implicitDefEqProofs (maxSteps := 1000000) [w1, hlt, hget, w2, hlt2, hget2, tokA, Tok.av, hk3, hq3])
                  | (refine awl_boxK [4, 7, 9, 10] rfl rfl rfl (by first | assumption | kernel_rfl) (hmu) rfl (by repeat (first | exact .nil | refine .cons (.ptr _) ?_ | refine .cons (.cl (by simp)) ?_)) ?_ ?_ ?_ ?_; (iterate 3 (focus (simp [σ0]; done))); simp -implicitDefEqProofs (maxSteps := 1000000) [w1, hlt, hget, w2, hlt2, hget2, tokA, Tok.av, hk3, hq3])
                  | (refine awl_boxK [4, 7, 9, 10] rfl rfl rfl (by first | assumption | kernel_rfl) (he1) rfl (by repeat (first | exact .nil | refine .cons (.ptr _) ?_ | refine .cons (.cl (by simp)) ?_)) ?_ ?_ ?_ ?_; (iterate 3 (focus (simp [σ0]; done))); simp -implicitDefEqProofs (maxSteps := 1000000) [w1, hlt, hget, w2, hlt2, hget2, tokA, Tok.av, hk3, hq3])
                  | (refine aw_cond rfl (fun h => ?_) (fun h => ?_) <;> try (with_reducible first | exact ff_tt h | exact tt_ff h))
                  | refine aw_block ?_
                  | refine aw_ret (ret_of (.inr rfl) (by simp [Try.results151]; rfl) (Fin.close (Fin.of ?_)))
                  | refine ret_of (.inl rfl) (by simp [Try.results151]; rfl) (Fin.close (Fin.of ?_)))
                all_goals first | simp [tupOf, ASt.noSl, badT, tokSpan, spanT, Tree.av, avs] | simp at *
end Go.AL
