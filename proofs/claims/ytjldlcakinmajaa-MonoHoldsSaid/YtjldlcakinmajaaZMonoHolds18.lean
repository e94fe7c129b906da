/- Parts of the proof of MonoHolds: the logic, contracts, plain laws. -/
import Derived.Test.YtjldlcakinmajaaZMonoHolds17
/-! Contracts: gridironref05.Reader.operand. -/
namespace Go.AL
open Go.Proofs
set_option linter.unusedSimpArgs false
set_option linter.unusedVariables false
variable {ts : List (Tok × Nat)} {en : Nat}
/-- The arguments stay within the tokens. -/
theorem args_at (n : Nat) (ih : ∀ m, m < n → CI ts en m) : ∀ m, m ≤ n → ∀ (w : ByteArray) (ks : List Tree) (s : RS) (T : Tree) (s' : RS), argsF ts en m w ks s = some (T, s') → s.at_ ≤ ts.length → s'.at_ ≤ ts.length := by
  intro m
  induction m with
  | zero => intro _ w ks s T s' h; cases h
  | succ m ihm =>
    intro hm w ks s T s' h hs
    unfold argsF at h
    obtain ⟨q, hq, h⟩ := Option.bind_eq_some_iff.1 h
    have hat := (ih m (by omega) _ s q.1 q.2 hq hs).2
    split at h
    · rename_i hk
      exact ihm (by omega) w _ _ T s' h (markP_lt hk)
    · simp only [Option.some.injEq, Prod.mk.injEq] at h
      rw [← h.2]; exact mustS_at hat
theorem avs_ok (l : List Tree) : ∀ y ∈ avs l, y.cells.length = 8 ∧ y.okv = true := by
  intro y hy
  rw [avs_map] at hy
  obtain ⟨⟨k, n, a, b, c, d, w, ks⟩, _, rfl⟩ := List.mem_map.1 hy
  exact ⟨by simp [Tree.av], by simp [Tree.av]⟩
set_option maxHeartbeats 8000000 in
set_option maxRecDepth 100000 in
theorem operand_ok (h2 : ts.length ≤ 100000) (N : Nat) (hN : N ≤ 10000000) (ihL : ∀ n, n < N → CL ts en n) (ihI : ∀ n, n < N → CI ts en n) : CO ts en N := by
  intro s T s' hF hs
  cases N with
  | zero => cases hF
  | succ N =>
  unfold operandF at hF
  have hm : BK Try.prog 107 [.ptr 0 0, vi 0, vs bOpen] (rdc ts en s) (vb (markP ts s 0 bOpen)) (rdc ts en s) := rmark5_ok ts en s 0 bOpen hs h2 (by omega)
  by_cases hk : markP ts s 0 bOpen = true
  · rw [if_pos hk] at hF
    rw [hk] at hm
    have hlt := markP_lt hk
    have w1 : IntKind.i64.wrap ((s.at_ : Int) + 1) = (s.at_ : Int) + 1 := wrap_id (by omega) (by omega)
    obtain ⟨⟨U, s1⟩, hq, hF⟩ := Option.bind_eq_some_iff.1 hF
    simp only [Option.some.injEq, Prod.mk.injEq] at hF
    obtain ⟨rfl, rfl⟩ := hF
    obtain ⟨hb, hat⟩ := ihL N (by omega) 1 s.next U s1 hq (by omega) (by omega) hlt
    have hmu := rmust5_ok ts en s1 bShut hat h2
    refine ⟨⟨?_, rdc_cl _ _ _, rdc_cl _ _ _, Tree.cl _⟩, mustS_at hat⟩
    obtain ⟨k, n, a, b, c, d, w, ks⟩ := U
    rw [Tree.av] at hb ⊢
    simp only [rdc, RS.next] at hb hm hmu ⊢
    refine bc_of Try.func108 Try.ntmps108 rfl ?_
    simp only [List.length_cons, List.length_nil, List.cons_append, List.nil_append, List.replicate]
    repeat' first | refine aw_V [2, 4, 5, 6, 7, 8, 9, 10, 125] @w1 (And.intro @hm (And.intro @hb (And.intro @hmu trivial))) ?_ | refine aw_cond rfl (fun h => ?_) (fun h => ?_)
    all_goals first | simp [tupOf, ASt.noSl, zeroT, numT, readT, badT, callT, Tree.av, avs] | simp at *
  · rw [if_neg hk] at hF
    have hk' : markP ts s 0 bOpen = false := by simpa using hk
    rw [hk'] at hm
    have hf := rfail5_ok ts en s hs h2
    cases hc : curT ts s with
    | none =>
      rw [hc] at hF
      simp only [Option.some.injEq, Prod.mk.injEq] at hF
      obtain ⟨rfl, rfl⟩ := hF
      refine ⟨⟨?_, rdc_cl _ _ _, rdc_cl _ _ _, Tree.cl _⟩, by rw [failS_at]; exact hs⟩
      unfold curT at hc
      by_cases hfl : s.fl = true
      · simp only [rdc, hfl] at hm hf ⊢
        by_cases hlt : s.at_ < ts.length
        · obtain ⟨p, hget⟩ : ∃ p, ts[s.at_] = p := ⟨_, rfl⟩
          have hlti : ¬ (ts.length : Int) ≤ s.at_ := by omega
          refine bc_of Try.func108 Try.ntmps108 rfl ?_
          simp only [List.length_cons, List.length_nil, List.cons_append, List.nil_append, List.replicate]
          repeat' (first
            | refine aw_seq ?_
            | ((first | refine aw_run [2, 4, 5, 6, 7, 8, 9, 10, 125] ?_ | refine aw_ymix [2, 4, 5, 6, 7, 8, 9, 10, 125] draws (by decide +kernel) ?_); try simp -implicitDefEqProofs (maxSteps := 1000000) [hlt, hlti, hget, tokA, Tok.av])
            | ((first | refine aw_zrun [2, 4, 5, 6, 7, 8, 9, 10, 125] [] draws (by decide +kernel) (by decide +kernel) ?_ | refine zl_skip (by simp) rfl ?_); try simp -implicitDefEqProofs (maxSteps := 1000000) [hlt, hlti, hget, tokA, Tok.av]; repeat first | refine zcurL (by decide +kernel) ?_ | refine zcurH (by decide +kernel) ?_ | refine zcurL' (by decide +kernel) ?_ | refine zcurH' (by decide +kernel) ?_)
            | ((first | refine aw_yrun draws (by kernel_rfl) ?_ | refine awl_skip' [2, 4, 5, 6, 7, 8, 9, 10, 125] rfl ?_ | refine yl_skip rfl ?_ | refine aw_skip ?_ | refine aw_exit ?_); try simp -implicitDefEqProofs (maxSteps := 1000000) [hlt, hlti, hget, tokA, Tok.av])
            | (refine awl_boxK [2, 4, 5, 6, 7, 8, 9, 10, 125] rfl rfl rfl (by first | assumption | kernel_rfl) (hm) rfl (by repeat (first | exact .nil | refine .cons (.ptr _) ?_ | refine .cons (.cl (by simp)) ?_)) ?_ ?_ ?_ ?_; (iterate 3 (focus (simp [σ0]; done))); simp -implicitDefEqProofs (maxSteps := 1000000) [hlt, hlti, hget, tokA, Tok.av])
            | (refine awl_boxK [2, 4, 5, 6, 7, 8, 9, 10, 125] rfl rfl rfl (by first | assumption | kernel_rfl) (hf) rfl (by repeat (first | exact .nil | refine .cons (.ptr _) ?_ | refine .cons (.cl (by simp)) ?_)) ?_ ?_ ?_ ?_; (iterate 3 (focus (simp [σ0]; done))); simp -implicitDefEqProofs (maxSteps := 1000000) [hlt, hlti, hget, tokA, Tok.av])
            | (refine aw_cond rfl (fun h => ?_) (fun h => ?_) <;> try (with_reducible first | exact ff_tt h | exact tt_ff h))
            | refine aw_block ?_
            | refine aw_ret (ret_of (.inr rfl) (by simp [Try.results108]; rfl) (Fin.close (Fin.of ?_)))
            | refine ret_of (.inl rfl) (by simp [Try.results108]; rfl) (Fin.close (Fin.of ?_)))
          all_goals first | simp [tupOf, ASt.noSl, zeroT, numT, readT, badT, callT, Tree.av, avs] | simp at *
        · have hlti : (ts.length : Int) ≤ s.at_ := by omega
          refine bc_of Try.func108 Try.ntmps108 rfl ?_
          simp only [List.length_cons, List.length_nil, List.cons_append, List.nil_append, List.replicate]
          repeat' first | refine aw_V [2, 4, 5, 6, 7, 8, 9, 10, 125] (And.intro @hlt @hlti) (And.intro @hm (And.intro @hf trivial)) ?_ | refine aw_cond rfl (fun h => ?_) (fun h => ?_)
          all_goals first | simp [tupOf, ASt.noSl, zeroT, numT, readT, badT, callT, Tree.av, avs] | simp at *
      · rw [if_neg hfl] at hc
        have hlt : ¬ s.at_ < ts.length := fun h => by rw [List.getElem?_eq_getElem h] at hc; cases hc
        have hlti : (ts.length : Int) ≤ s.at_ := by omega
        have hfl : s.fl = false := by simpa using hfl
        simp only [rdc, hfl] at hm hf ⊢
        refine bc_of Try.func108 Try.ntmps108 rfl ?_
        simp only [List.length_cons, List.length_nil, List.cons_append, List.nil_append, List.replicate]
        repeat' first | refine aw_V [2, 4, 5, 6, 7, 8, 9, 10, 125] (And.intro @hlt @hlti) (And.intro @hm (And.intro @hf trivial)) ?_ | refine aw_cond rfl (fun h => ?_) (fun h => ?_)
        all_goals first | simp [tupOf, ASt.noSl, zeroT, numT, readT, badT, callT, Tree.av, avs] | simp at *
    | some x =>
      rw [hc] at hF
      simp only at hF
      unfold curT at hc
      have hfl : s.fl = false := by
        cases hq : s.fl with
        | false => rfl
        | true => rw [if_pos hq] at hc; cases hc
      rw [if_neg (by rw [hfl]; decide)] at hc
      obtain ⟨p, hp, rfl⟩ := Option.map_eq_some_iff.1 hc
      have hlt : s.at_ < ts.length := (List.getElem?_eq_some_iff.1 hp).1
      have hlti : ¬ (ts.length : Int) ≤ s.at_ := by omega
      have hget : ts[s.at_] = p := by rw [List.getElem?_eq_getElem hlt] at hp; exact Option.some.inj hp
      have w1 : IntKind.i64.wrap ((s.at_ : Int) + 1) = (s.at_ : Int) + 1 := wrap_id (by omega) (by omega)
      by_cases hk5 : p.1.k = 5
      · rw [if_pos hk5] at hF
        simp only [Option.some.injEq, Prod.mk.injEq] at hF
        obtain ⟨rfl, rfl⟩ := hF
        refine ⟨⟨?_, rdc_cl _ _ _, rdc_cl _ _ _, Tree.cl _⟩, by rw [failS_at]; exact hs⟩
        simp only [rdc, hfl] at hm hf ⊢
        refine bc_of Try.func108 Try.ntmps108 rfl ?_
        simp only [List.length_cons, List.length_nil, List.cons_append, List.nil_append, List.replicate]
        repeat' (first
          | refine aw_seq ?_
          | ((first | refine aw_run [2, 4, 5, 6, 7, 8, 9, 10, 125] ?_ | refine aw_ymix [2, 4, 5, 6, 7, 8, 9, 10, 125] draws (by decide +kernel) ?_); try simp -implicitDefEqProofs (maxSteps := 1000000) [hlt, hlti, hget, tokA, Tok.av, hk5])
          | ((first | refine aw_zrun [2, 4, 5, 6, 7, 8, 9, 10, 125] [] draws (by decide +kernel) (by decide +kernel) ?_ | refine zl_skip (by simp) rfl ?_); try simp -implicitDefEqProofs (maxSteps := 1000000) [hlt, hlti, hget, tokA, Tok.av, hk5]; repeat first | refine zcurL (by decide +kernel) ?_ | refine zcurH (by decide +kernel) ?_ | refine zcurL' (by decide +kernel) ?_ | refine zcurH' (by decide +kernel) ?_)
          | ((first | refine aw_yrun draws (by kernel_rfl) ?_ | refine awl_skip' [2, 4, 5, 6, 7, 8, 9, 10, 125] rfl ?_ | refine yl_skip rfl ?_ | refine aw_skip ?_ | refine aw_exit ?_); try simp -implicitDefEqProofs (maxSteps := 1000000) [hlt, hlti, hget, tokA, Tok.av, hk5])
          | (refine awl_boxK [2, 4, 5, 6, 7, 8, 9, 10, 125] rfl rfl rfl (by first | assumption | kernel_rfl) (hm) rfl (by repeat (first | exact .nil | refine .cons (.ptr _) ?_ | refine .cons (.cl (by simp)) ?_)) ?_ ?_ ?_ ?_; (iterate 3 (focus (simp [σ0]; done))); simp -implicitDefEqProofs (maxSteps := 1000000) [hlt, hlti, hget, tokA, Tok.av, hk5])
          | (refine awl_boxK [2, 4, 5, 6, 7, 8, 9, 10, 125] rfl rfl rfl (by first | assumption | kernel_rfl) (hf) rfl (by repeat (first | exact .nil | refine .cons (.ptr _) ?_ | refine .cons (.cl (by simp)) ?_)) ?_ ?_ ?_ ?_; (iterate 3 (focus (simp [σ0]; done))); simp -implicitDefEqProofs (maxSteps := 1000000) [hlt, hlti, hget, tokA, Tok.av, hk5])
          | (refine aw_cond rfl (fun h => ?_) (fun h => ?_) <;> try (with_reducible first | exact ff_tt h | exact tt_ff h))
          | refine aw_block ?_
          | refine aw_ret (ret_of (.inr rfl) (by simp [Try.results108]; rfl) (Fin.close (Fin.of ?_)))
          | refine ret_of (.inl rfl) (by simp [Try.results108]; rfl) (Fin.close (Fin.of ?_)))
        all_goals first | simp [tupOf, ASt.noSl, zeroT, numT, readT, badT, callT, Tree.av, avs] | simp at *
      rw [if_neg hk5] at hF
      by_cases hk1 : p.1.k = 1
      · rw [if_pos hk1] at hF
        simp only [Option.some.injEq, Prod.mk.injEq] at hF
        obtain ⟨rfl, rfl⟩ := hF
        refine ⟨⟨?_, rdc_cl _ _ _, rdc_cl _ _ _, Tree.cl _⟩, hlt⟩
        simp only [rdc, hfl, RS.next] at hm ⊢
        refine bc_of Try.func108 Try.ntmps108 rfl ?_
        simp only [List.length_cons, List.length_nil, List.cons_append, List.nil_append, List.replicate]
        repeat' (first
          | refine aw_seq ?_
          | ((first | refine aw_run [2, 4, 5, 6, 7, 8, 9, 10, 125] ?_ | refine aw_ymix [2, 4, 5, 6, 7, 8, 9, 10, 125] draws (by decide +kernel) ?_); try simp -implicitDefEqProofs (maxSteps := 1000000) [hlt, hlti, hget, tokA, Tok.av, hk1, w1])
          | ((first | refine aw_zrun [2, 4, 5, 6, 7, 8, 9, 10, 125] [] draws (by decide +kernel) (by decide +kernel) ?_ | refine zl_skip (by simp) rfl ?_); try simp -implicitDefEqProofs (maxSteps := 1000000) [hlt, hlti, hget, tokA, Tok.av, hk1, w1]; repeat first | refine zcurL (by decide +kernel) ?_ | refine zcurH (by decide +kernel) ?_ | refine zcurL' (by decide +kernel) ?_ | refine zcurH' (by decide +kernel) ?_)
          | ((first | refine aw_yrun draws (by kernel_rfl) ?_ | refine awl_skip' [2, 4, 5, 6, 7, 8, 9, 10, 125] rfl ?_ | refine yl_skip rfl ?_ | refine aw_skip ?_ | refine aw_exit ?_); try simp -implicitDefEqProofs (maxSteps := 1000000) [hlt, hlti, hget, tokA, Tok.av, hk1, w1])
          | (refine awl_boxK [2, 4, 5, 6, 7, 8, 9, 10, 125] rfl rfl rfl (by first | assumption | kernel_rfl) (hm) rfl (by repeat (first | exact .nil | refine .cons (.ptr _) ?_ | refine .cons (.cl (by simp)) ?_)) ?_ ?_ ?_ ?_; (iterate 3 (focus (simp [σ0]; done))); simp -implicitDefEqProofs (maxSteps := 1000000) [hlt, hlti, hget, tokA, Tok.av, hk1, w1])
          | (refine aw_cond rfl (fun h => ?_) (fun h => ?_) <;> try (with_reducible first | exact ff_tt h | exact tt_ff h))
          | refine aw_block ?_
          | refine aw_ret (ret_of (.inr rfl) (by simp [Try.results108]; rfl) (Fin.close (Fin.of ?_)))
          | refine ret_of (.inl rfl) (by simp [Try.results108]; rfl) (Fin.close (Fin.of ?_)))
        all_goals first | simp [tupOf, ASt.noSl, zeroT, numT, readT, badT, callT, Tree.av, avs] | simp at *
      rw [if_neg hk1] at hF
      by_cases hk2 : p.1.k = 2
      · rw [if_pos hk2] at hF
        simp only [Option.some.injEq, Prod.mk.injEq] at hF
        obtain ⟨rfl, rfl⟩ := hF
        refine ⟨⟨?_, rdc_cl _ _ _, rdc_cl _ _ _, Tree.cl _⟩, hlt⟩
        simp only [rdc, hfl, RS.next] at hm ⊢
        refine bc_of Try.func108 Try.ntmps108 rfl ?_
        simp only [List.length_cons, List.length_nil, List.cons_append, List.nil_append, List.replicate]
        repeat' (first
          | refine aw_seq ?_
          | ((first | refine aw_run [2, 4, 5, 6, 7, 8, 9, 10, 125] ?_ | refine aw_ymix [2, 4, 5, 6, 7, 8, 9, 10, 125] draws (by decide +kernel) ?_); try simp -implicitDefEqProofs (maxSteps := 1000000) [hlt, hlti, hget, tokA, Tok.av, hk2, w1])
          | ((first | refine aw_zrun [2, 4, 5, 6, 7, 8, 9, 10, 125] [] draws (by decide +kernel) (by decide +kernel) ?_ | refine zl_skip (by simp) rfl ?_); try simp -implicitDefEqProofs (maxSteps := 1000000) [hlt, hlti, hget, tokA, Tok.av, hk2, w1]; repeat first | refine zcurL (by decide +kernel) ?_ | refine zcurH (by decide +kernel) ?_ | refine zcurL' (by decide +kernel) ?_ | refine zcurH' (by decide +kernel) ?_)
          | ((first | refine aw_yrun draws (by kernel_rfl) ?_ | refine awl_skip' [2, 4, 5, 6, 7, 8, 9, 10, 125] rfl ?_ | refine yl_skip rfl ?_ | refine aw_skip ?_ | refine aw_exit ?_); try simp -implicitDefEqProofs (maxSteps := 1000000) [hlt, hlti, hget, tokA, Tok.av, hk2, w1])
          | (refine awl_boxK [2, 4, 5, 6, 7, 8, 9, 10, 125] rfl rfl rfl (by first | assumption | kernel_rfl) (hm) rfl (by repeat (first | exact .nil | refine .cons (.ptr _) ?_ | refine .cons (.cl (by simp)) ?_)) ?_ ?_ ?_ ?_; (iterate 3 (focus (simp [σ0]; done))); simp -implicitDefEqProofs (maxSteps := 1000000) [hlt, hlti, hget, tokA, Tok.av, hk2, w1])
          | (refine aw_cond rfl (fun h => ?_) (fun h => ?_) <;> try (with_reducible first | exact ff_tt h | exact tt_ff h))
          | refine aw_block ?_
          | refine aw_ret (ret_of (.inr rfl) (by simp [Try.results108]; rfl) (Fin.close (Fin.of ?_)))
          | refine ret_of (.inl rfl) (by simp [Try.results108]; rfl) (Fin.close (Fin.of ?_)))
        all_goals first | simp [tupOf, ASt.noSl, zeroT, numT, readT, badT, callT, Tree.av, avs] | simp at *
      rw [if_neg hk2] at hF
      by_cases hk3 : p.1.k = 3
      · rw [if_pos hk3] at hF
        simp only [Option.some.injEq, Prod.mk.injEq] at hF
        obtain ⟨rfl, rfl⟩ := hF
        refine ⟨⟨?_, rdc_cl _ _ _, rdc_cl _ _ _, Tree.cl _⟩, hlt⟩
        simp only [rdc, hfl, RS.next] at hm ⊢
        refine bc_of Try.func108 Try.ntmps108 rfl ?_
        simp only [List.length_cons, List.length_nil, List.cons_append, List.nil_append, List.replicate]
        repeat' (first
          | refine aw_seq ?_
          | ((first | refine aw_run [2, 4, 5, 6, 7, 8, 9, 10, 125] ?_ | refine aw_ymix [2, 4, 5, 6, 7, 8, 9, 10, 125] draws (by decide +kernel) ?_); try simp -implicitDefEqProofs (maxSteps := 1000000) [hlt, hlti, hget, tokA, Tok.av, hk3, w1])
          | ((first | refine aw_zrun [2, 4, 5, 6, 7, 8, 9, 10, 125] [] draws (by decide +kernel) (by decide +kernel) ?_ | refine zl_skip (by simp) rfl ?_); try simp -implicitDefEqProofs (maxSteps := 1000000) [hlt, hlti, hget, tokA, Tok.av, hk3, w1]; repeat first | refine zcurL (by decide +kernel) ?_ | refine zcurH (by decide +kernel) ?_ | refine zcurL' (by decide +kernel) ?_ | refine zcurH' (by decide +kernel) ?_)
          | ((first | refine aw_yrun draws (by kernel_rfl) ?_ | refine awl_skip' [2, 4, 5, 6, 7, 8, 9, 10, 125] rfl ?_ | refine yl_skip rfl ?_ | refine aw_skip ?_ | refine aw_exit ?_); try simp -implicitDefEqProofs (maxSteps := 1000000) [hlt, hlti, hget, tokA, Tok.av, hk3, w1])
          | (refine awl_boxK [2, 4, 5, 6, 7, 8, 9, 10, 125] rfl rfl rfl (by first | assumption | kernel_rfl) (hm) rfl (by repeat (first | exact .nil | refine .cons (.ptr _) ?_ | refine .cons (.cl (by simp)) ?_)) ?_ ?_ ?_ ?_; (iterate 3 (focus (simp [σ0]; done))); simp -implicitDefEqProofs (maxSteps := 1000000) [hlt, hlti, hget, tokA, Tok.av, hk3, w1])
          | (refine aw_cond rfl (fun h => ?_) (fun h => ?_) <;> try (with_reducible first | exact ff_tt h | exact tt_ff h))
          | refine aw_block ?_
          | refine aw_ret (ret_of (.inr rfl) (by simp [Try.results108]; rfl) (Fin.close (Fin.of ?_)))
          | refine ret_of (.inl rfl) (by simp [Try.results108]; rfl) (Fin.close (Fin.of ?_)))
        all_goals first | simp [tupOf, ASt.noSl, zeroT, numT, readT, badT, callT, Tree.av, avs] | simp at *
      rw [if_neg hk3] at hF
      have hat0 : (mustS ts en s.next bOpen).at_ ≤ ts.length := mustS_at hlt
      have hmu0 := rmust5_ok ts en s.next bOpen hlt h2
      generalize mustS ts en s.next bOpen = s0 at *
      by_cases hif : p.1.t = bIF
      · rw [if_pos hif] at hF
        obtain ⟨⟨a, s1⟩, hq1, hF⟩ := Option.bind_eq_some_iff.1 hF
        simp only at hF
        obtain ⟨hb1, hat1⟩ := ihL N (by omega) 1 s0 a s1 hq1 (by omega) (by omega) hat0
        have hmu1 := rmust5_ok ts en s1 bComma hat1 h2
        have hat1' : (mustS ts en s1 bComma).at_ ≤ ts.length := mustS_at hat1
        generalize mustS ts en s1 bComma = s1' at *
        obtain ⟨⟨b, s2⟩, hq2, hF⟩ := Option.bind_eq_some_iff.1 hF
        simp only at hF
        obtain ⟨hb2, hat2⟩ := ihL N (by omega) 1 s1' b s2 hq2 (by omega) (by omega) hat1'
        have hmu2 := rmust5_ok ts en s2 bComma hat2 h2
        have hat2' : (mustS ts en s2 bComma).at_ ≤ ts.length := mustS_at hat2
        generalize mustS ts en s2 bComma = s2' at *
        obtain ⟨⟨c, s3⟩, hq3, hF⟩ := Option.bind_eq_some_iff.1 hF
        simp only [Option.some.injEq, Prod.mk.injEq] at hF
        obtain ⟨rfl, rfl⟩ := hF
        obtain ⟨hb3, hat3⟩ := ihL N (by omega) 1 s2' c s3 hq3 (by omega) (by omega) hat2'
        have hmu3 := rmust5_ok ts en s3 bShut hat3 h2
        refine ⟨⟨?_, rdc_cl _ _ _, rdc_cl _ _ _, Tree.cl _⟩, mustS_at hat3⟩
        obtain ⟨ak, an, aa, ab, ac, ad, aw, aks⟩ := a
        obtain ⟨bk, bn, ba, bb, bc, bd, bw, bks⟩ := b
        obtain ⟨ck, cn, ca, cb, cc, cd, cw, cks⟩ := c
        rw [Tree.av] at hb1 hb2 hb3
        clear hq1 hq2 hq3 ihL ihI
        simp only [rdc, hfl, RS.next] at hm hmu0 hb1 hb2 hb3 hmu1 hmu2 hmu3 ⊢
        refine bc_of Try.func108 Try.ntmps108 rfl ?_
        simp only [List.length_cons, List.length_nil, List.cons_append, List.nil_append, List.replicate]
        repeat' (first
          | refine aw_seq ?_
          | ((first | refine aw_run [2, 4, 5, 6, 7, 8, 9, 10, 125] ?_ | refine aw_ymix [2, 4, 5, 6, 7, 8, 9, 10, 125] draws (by decide +kernel) ?_); try simp -implicitDefEqProofs (maxSteps := 1000000) [hlt, hlti, hget, tokA, Tok.av, hk1, hk2, hk3, hk5, w1, hif])
          | ((first | refine aw_zrun [2, 4, 5, 6, 7, 8, 9, 10, 125] [] draws (by decide +kernel) (by decide +kernel) ?_ | refine zl_skip (by simp) rfl ?_); try simp -implicitDefEqProofs (maxSteps := 1000000) [hlt, hlti, hget, tokA, Tok.av, hk1, hk2, hk3, hk5, w1, hif]; repeat first | refine zcurL (by decide +kernel) ?_ | refine zcurH (by decide +kernel) ?_ | refine zcurL' (by decide +kernel) ?_ | refine zcurH' (by decide +kernel) ?_)
          | ((first | refine aw_yrun draws (by kernel_rfl) ?_ | refine awl_skip' [2, 4, 5, 6, 7, 8, 9, 10, 125] rfl ?_ | refine yl_skip rfl ?_ | refine aw_skip ?_ | refine aw_exit ?_); try simp -implicitDefEqProofs (maxSteps := 1000000) [hlt, hlti, hget, tokA, Tok.av, hk1, hk2, hk3, hk5, w1, hif])
          | (refine awl_boxK [2, 4, 5, 6, 7, 8, 9, 10, 125] rfl rfl rfl (by first | assumption | kernel_rfl) (hm) rfl (by repeat (first | exact .nil | refine .cons (.ptr _) ?_ | refine .cons (.cl (by simp)) ?_)) ?_ ?_ ?_ ?_; (iterate 3 (focus (simp [σ0]; done))); simp -implicitDefEqProofs (maxSteps := 1000000) [hlt, hlti, hget, tokA, Tok.av, hk1, hk2, hk3, hk5, w1, hif])
          | (refine awl_boxK [2, 4, 5, 6, 7, 8, 9, 10, 125] rfl rfl rfl (by first | assumption | kernel_rfl) (hmu0) rfl (by repeat (first | exact .nil | refine .cons (.ptr _) ?_ | refine .cons (.cl (by simp)) ?_)) ?_ ?_ ?_ ?_; (iterate 3 (focus (simp [σ0]; done))); simp -implicitDefEqProofs (maxSteps := 1000000) [hlt, hlti, hget, tokA, Tok.av, hk1, hk2, hk3, hk5, w1, hif])
          | (refine awl_boxK [2, 4, 5, 6, 7, 8, 9, 10, 125] rfl rfl rfl (by first | assumption | kernel_rfl) (hb1) rfl (by repeat (first | exact .nil | refine .cons (.ptr _) ?_ | refine .cons (.cl (by simp)) ?_)) ?_ ?_ ?_ ?_; (iterate 3 (focus (simp [σ0]; done))); simp -implicitDefEqProofs (maxSteps := 1000000) [hlt, hlti, hget, tokA, Tok.av, hk1, hk2, hk3, hk5, w1, hif])
          | (refine awl_boxK [2, 4, 5, 6, 7, 8, 9, 10, 125] rfl rfl rfl (by first | assumption | kernel_rfl) (hmu1) rfl (by repeat (first | exact .nil | refine .cons (.ptr _) ?_ | refine .cons (.cl (by simp)) ?_)) ?_ ?_ ?_ ?_; (iterate 3 (focus (simp [σ0]; done))); simp -implicitDefEqProofs (maxSteps := 1000000) [hlt, hlti, hget, tokA, Tok.av, hk1, hk2, hk3, hk5, w1, hif])
          | (refine awl_boxK [2, 4, 5, 6, 7, 8, 9, 10, 125] rfl rfl rfl (by first | assumption | kernel_rfl) (hb2) rfl (by repeat (first | exact .nil | refine .cons (.ptr _) ?_ | refine .cons (.cl (by simp)) ?_)) ?_ ?_ ?_ ?_; (iterate 3 (focus (simp [σ0]; done))); simp -implicitDefEqProofs (maxSteps := 1000000) [hlt, hlti, hget, tokA, Tok.av, hk1, hk2, hk3, hk5, w1, hif])
          | (refine awl_boxK [2, 4, 5, 6, 7, 8, 9, 10, 125] rfl rfl rfl (by first | assumption | kernel_rfl) (hmu2) rfl (by repeat (first | exact .nil | refine .cons (.ptr _) ?_ | refine .cons (.cl (by simp)) ?_)) ?_ ?_ ?_ ?_; (iterate 3 (focus (simp [σ0]; done))); simp -implicitDefEqProofs (maxSteps := 1000000) [hlt, hlti, hget, tokA, Tok.av, hk1, hk2, hk3, hk5, w1, hif])
          | (refine awl_boxK [2, 4, 5, 6, 7, 8, 9, 10, 125] rfl rfl rfl (by first | assumption | kernel_rfl) (hb3) rfl (by repeat (first | exact .nil | refine .cons (.ptr _) ?_ | refine .cons (.cl (by simp)) ?_)) ?_ ?_ ?_ ?_; (iterate 3 (focus (simp [σ0]; done))); simp -implicitDefEqProofs (maxSteps := 1000000) [hlt, hlti, hget, tokA, Tok.av, hk1, hk2, hk3, hk5, w1, hif])
          | (refine awl_boxK [2, 4, 5, 6, 7, 8, 9, 10, 125] rfl rfl rfl (by first | assumption | kernel_rfl) (hmu3) rfl (by repeat (first | exact .nil | refine .cons (.ptr _) ?_ | refine .cons (.cl (by simp)) ?_)) ?_ ?_ ?_ ?_; (iterate 3 (focus (simp [σ0]; done))); simp -implicitDefEqProofs (maxSteps := 1000000) [hlt, hlti, hget, tokA, Tok.av, hk1, hk2, hk3, hk5, w1, hif])
          | (refine aw_cond rfl (fun h => ?_) (fun h => ?_) <;> try (with_reducible first | exact ff_tt h | exact tt_ff h))
          | refine aw_block ?_
          | refine aw_ret (ret_of (.inr rfl) (by simp [Try.results108]; rfl) (Fin.close (Fin.of ?_)))
          | refine ret_of (.inl rfl) (by simp [Try.results108]; rfl) (Fin.close (Fin.of ?_)))
        all_goals first | simp [tupOf, ASt.noSl, zeroT, numT, readT, badT, callT, Tree.av, avs] | simp at *
      · rw [if_neg hif] at hF
        have hatT := args_at (ts := ts) (en := en) (N + 1) ihI N (by omega) p.1.t [] s0 T s' hF hat0
        refine ⟨⟨?_, rdc_cl _ _ _, rdc_cl _ _ _, Tree.cl _⟩, hatT⟩
        simp only [rdc, hfl, RS.next] at hm hmu0
        refine bc_of Try.func108 Try.ntmps108 rfl ?_
        simp only [List.length_cons, List.length_nil, List.cons_append, List.nil_append, List.replicate]
        simp only [rdc, hfl]
        repeat' (first
          | refine aw_seq ?_
          | ((first | refine aw_run [2, 4, 5, 6, 7, 8, 9, 10, 125] ?_ | refine aw_ymix [2, 4, 5, 6, 7, 8, 9, 10, 125] draws (by decide +kernel) ?_); try simp -implicitDefEqProofs (maxSteps := 1000000) [hlt, hlti, hget, tokA, Tok.av, hk1, hk2, hk3, hk5, w1, hif])
          | ((first | refine aw_zrun [2, 4, 5, 6, 7, 8, 9, 10, 125] [] draws (by decide +kernel) (by decide +kernel) ?_ | refine zl_skip (by simp) rfl ?_); try simp -implicitDefEqProofs (maxSteps := 1000000) [hlt, hlti, hget, tokA, Tok.av, hk1, hk2, hk3, hk5, w1, hif]; repeat first | refine zcurL (by decide +kernel) ?_ | refine zcurH (by decide +kernel) ?_ | refine zcurL' (by decide +kernel) ?_ | refine zcurH' (by decide +kernel) ?_)
          | ((first | refine aw_yrun draws (by kernel_rfl) ?_ | refine awl_skip' [2, 4, 5, 6, 7, 8, 9, 10, 125] rfl ?_ | refine yl_skip rfl ?_ | refine aw_skip ?_ | refine aw_exit ?_); try simp -implicitDefEqProofs (maxSteps := 1000000) [hlt, hlti, hget, tokA, Tok.av, hk1, hk2, hk3, hk5, w1, hif])
          | (refine awl_boxK [2, 4, 5, 6, 7, 8, 9, 10, 125] rfl rfl rfl (by first | assumption | kernel_rfl) (hm) rfl (by repeat (first | exact .nil | refine .cons (.ptr _) ?_ | refine .cons (.cl (by simp)) ?_)) ?_ ?_ ?_ ?_; (iterate 3 (focus (simp [σ0]; done))); simp -implicitDefEqProofs (maxSteps := 1000000) [hlt, hlti, hget, tokA, Tok.av, hk1, hk2, hk3, hk5, w1, hif])
          | (refine awl_boxK [2, 4, 5, 6, 7, 8, 9, 10, 125] rfl rfl rfl (by first | assumption | kernel_rfl) (hmu0) rfl (by repeat (first | exact .nil | refine .cons (.ptr _) ?_ | refine .cons (.cl (by simp)) ?_)) ?_ ?_ ?_ ?_; (iterate 3 (focus (simp [σ0]; done))); simp -implicitDefEqProofs (maxSteps := 1000000) [hlt, hlti, hget, tokA, Tok.av, hk1, hk2, hk3, hk5, w1, hif])
          | (refine aw_cond rfl (fun h => ?_) (fun h => ?_) <;> try (with_reducible first | exact ff_tt h | exact tt_ff h))
          | refine aw_block ?_
          | refine aw_ret (ret_of (.inr rfl) (by simp [Try.results108]; rfl) (Fin.of ?_))
          | refine ret_of (.inl rfl) (by simp [Try.results108]; rfl) (Fin.of ?_))
        refine aw_shut ?_
        simp -implicitDefEqProofs [ZT]
        refine aw_loopW [0, 2, 5, 9] (fun m fr σ => ∃ (ks : List Tree) (s1 : RS) (M : Nat), argsF ts en m p.1.t ks s1 = some (T, s') ∧ m + ks.length ≤ N ∧ s1.at_ ≤ ts.length ∧ 4 ≤ M ∧
          σ = mkSt [(0, rdc ts en s1), (1, [vi 0, vi 0, vi 0, vi 0, vi 0, vi 0, vs ⟨#[]⟩, .vsl []]), (2, [vi p.1.k, vi p.1.n, vi p.1.c, vi p.1.r, vs p.1.t, vi (p.2 : Nat)]), (3, [vi 5, vi 0, vi 0, vi 0, vi 0, vi 0, vs p.1.t, .vsl (avs ks)])] [] M ∧ fr = frm 147 [(0, .ptr 0 0), (2, .ptr 1 0), (5, .ptr 2 0), (9, .ptr 3 0)]) N ?_ ?_
        · refine ⟨mkSt [(0, rdc ts en s0), (1, [vi 0, vi 0, vi 0, vi 0, vi 0, vi 0, vs ⟨#[]⟩, .vsl []]), (2, [vi p.1.k, vi p.1.n, vi p.1.c, vi p.1.r, vs p.1.t, vi (p.2 : Nat)]), (3, [vi 5, vi 0, vi 0, vi 0, vi 0, vi 0, vs p.1.t, .vsl (avs [])])] [] 4, le_mkSt ?_ ?_ ?_, [], s0, 4, hF, by simp, hat0, by omega, rfl, ?_⟩
          · simp [rdc, avs]
          · simp
          · simp
          · simp
        · clear hF hat0 hmu0
          rintro m fr σ ⟨ks, s1, M, hF, hmN, hat1, hM, rfl, rfl⟩
          simp
          cases m with
          | zero => cases hF
          | succ m =>
          unfold argsF at hF
          obtain ⟨⟨U, s2⟩, hq, hF⟩ := Option.bind_eq_some_iff.1 hF
          simp only at hF
          obtain ⟨hbi, hat2⟩ := ihI m (by omega) _ s1 U s2 hq hat1
          have hmk : BK Try.prog 107 [.ptr 0 0, vi 0, vs bComma] (rdc ts en s2) (vb (markP ts s2 0 bComma)) (rdc ts en s2) := rmark5_ok ts en s2 0 bComma hat2 h2 (by omega)
          have hmu := rmust5_ok ts en s2 bShut hat2 h2
          obtain ⟨k, n, a, b, c, d, w, us⟩ := U
          rw [Tree.av] at hbi
          have e0 : ¬ 0 = M := by omega
          have e1 : ¬ 1 = M := by omega
          have e2 : ¬ 2 = M := by omega
          have e3 : ¬ 3 = M := by omega
          have f0 : ¬ M = 0 := by omega
          have f1 : ¬ M = 1 := by omega
          have f2 : ¬ M = 2 := by omega
          have f3 : ¬ M = 3 := by omega
          simp only [rdc] at hbi hmk hmu ⊢
          repeat' (first
            | refine aw_seq ?_
            | ((first | refine aw_run [2, 4, 5, 6, 7, 8, 9, 10, 125] ?_ | refine aw_ymix [2, 4, 5, 6, 7, 8, 9, 10, 125] draws (by decide +kernel) ?_); try simp -implicitDefEqProofs (maxSteps := 1000000) [List.lookup, e0, e1, e2, e3])
            | ((first | refine aw_zrun [2, 4, 5, 6, 7, 8, 9, 10, 125] [] draws (by decide +kernel) (by decide +kernel) ?_ | refine zl_skip (by simp) rfl ?_); try simp -implicitDefEqProofs (maxSteps := 1000000) [List.lookup, e0, e1, e2, e3]; repeat first | refine zcurL (by decide +kernel) ?_ | refine zcurH (by decide +kernel) ?_ | refine zcurL' (by decide +kernel) ?_ | refine zcurH' (by decide +kernel) ?_)
            | ((first | refine aw_yrun draws (by kernel_rfl) ?_ | refine awl_skip' [2, 4, 5, 6, 7, 8, 9, 10, 125] rfl ?_ | refine yl_skip rfl ?_ | refine aw_skip ?_ | refine aw_exit ?_); try simp -implicitDefEqProofs (maxSteps := 1000000) [List.lookup, e0, e1, e2, e3])
            | (refine awl_boxK [2, 4, 5, 6, 7, 8, 9, 10, 125] rfl rfl rfl (by first | assumption | kernel_rfl) (hbi) rfl (by repeat (first | exact .nil | refine .cons (.ptr _) ?_ | refine .cons (.cl (by simp)) ?_)) ?_ ?_ ?_ ?_; (iterate 3 (focus (simp [σ0]; done))); simp -implicitDefEqProofs (maxSteps := 1000000) [List.lookup, e0, e1, e2, e3])
            | (refine aw_cond rfl (fun h => ?_) (fun h => ?_) <;> try (with_reducible first | exact ff_tt h | exact tt_ff h))
            | refine aw_block ?_
            | refine aw_ret (ret_of (.inr rfl) (by simp [Try.results108]; rfl) (Fin.of ?_))
            | refine ret_of (.inl rfl) (by simp [Try.results108]; rfl) (Fin.of ?_))
          have hko : ∀ y ∈ avs ks, y.cells.length = 8 ∧ y.okv = true := avs_ok ks
          have hkl : (avs ks).length = ks.length := by rw [avs_map, List.length_map]
          have hap : avs (ks ++ [.mk k n a b c d w us]) = avs ks ++ [.agg [vi k, vi n, vi a, vi b, vi c, vi d, vs w, .vsl (avs us)]] := by simp [avs_map, Tree.av]
          by_cases hks : ks = []
          · subst hks
            refine zl_append0 (by simp) rfl rfl rfl (.inl (by simp [avs])) tet27 ts29 ?_
            simp -implicitDefEqProofs [List.lookup, e0, e1, e2, e3, f0, f1, f2, f3]
            repeat first | refine zcurL (by decide +kernel) ?_ | refine zcurH (by decide +kernel) ?_ | refine zcurL' (by decide +kernel) ?_ | refine zcurH' (by decide +kernel) ?_
            refine zl_append (by simp) rfl rfl rfl (xs := []) (by simp) (by simp) rfl (by simp) te27 tet27 tz29 rfl (by simp) (by simp) (by simp [hkl]; try omega) (by simp [hkl]; try omega) ?_
            simp -implicitDefEqProofs [List.lookup, e0, e1, e2, e3, f0, f1, f2, f3]
            repeat first | refine zcurL (by decide +kernel) ?_ | refine zcurH (by decide +kernel) ?_ | refine zcurL' (by decide +kernel) ?_ | refine zcurH' (by decide +kernel) ?_
            refine aw_shut ?_
            refine aw_weak (τ := mkSt [(0, [.vsl (ts.map tokA), vi (s2.at_ : Nat), vi (en : Nat), vb s2.fl, vi (s2.wh : Nat)]), (1, [vi 0, vi 0, vi 0, vi 0, vi 0, vi 0, vs ⟨#[]⟩, .vsl []]), (2, [vi p.1.k, vi p.1.n, vi p.1.c, vi p.1.r, vs p.1.t, vi (p.2 : Nat)]), (3, [vi 5, vi 0, vi 0, vi 0, vi 0, vi 0, vs p.1.t, .vsl (avs ([] ++ [.mk k n a b c d w us]))])] [] (M + 4)) (le_mkSt (by simp [List.lookup, e0, e1, e2, e3, f0, f1, f2, f3, avs_map, Tree.av, List.take_of_length_le]) (by simp) (by simp)) ?_
            simp -implicitDefEqProofs [List.lookup]
            cases hc : markP ts s2 0 bComma with
            | true =>
              rw [hc] at hF hmk
              simp only [if_true] at hF
              have hlt2 := markP_lt hc
              have w2 : IntKind.i64.wrap ((s2.at_ : Int) + 1) = (s2.at_ : Int) + 1 := wrap_id (by omega) (by omega)
              repeat' (first
                | refine aw_seq ?_
                | ((first | refine aw_run [2, 4, 5, 6, 7, 8, 9, 10, 125] ?_ | refine aw_ymix [2, 4, 5, 6, 7, 8, 9, 10, 125] draws (by decide +kernel) ?_); try simp -implicitDefEqProofs (maxSteps := 1000000) [List.lookup, w2])
                | ((first | refine aw_zrun [2, 4, 5, 6, 7, 8, 9, 10, 125] [] draws (by decide +kernel) (by decide +kernel) ?_ | refine zl_skip (by simp) rfl ?_); try simp -implicitDefEqProofs (maxSteps := 1000000) [List.lookup, w2]; repeat first | refine zcurL (by decide +kernel) ?_ | refine zcurH (by decide +kernel) ?_ | refine zcurL' (by decide +kernel) ?_ | refine zcurH' (by decide +kernel) ?_)
                | ((first | refine aw_yrun draws (by kernel_rfl) ?_ | refine awl_skip' [2, 4, 5, 6, 7, 8, 9, 10, 125] rfl ?_ | refine yl_skip rfl ?_ | refine aw_skip ?_ | refine aw_exit ?_); try simp -implicitDefEqProofs (maxSteps := 1000000) [List.lookup, w2])
                | (refine awl_boxK [2, 4, 5, 6, 7, 8, 9, 10, 125] rfl rfl rfl (by first | assumption | kernel_rfl) (hmk) rfl (by repeat (first | exact .nil | refine .cons (.ptr _) ?_ | refine .cons (.cl (by simp)) ?_)) ?_ ?_ ?_ ?_; (iterate 3 (focus (simp [σ0]; done))); simp -implicitDefEqProofs (maxSteps := 1000000) [List.lookup, w2])
                | (refine aw_cond rfl (fun h => ?_) (fun h => ?_) <;> try (with_reducible first | exact ff_tt h | exact tt_ff h))
                | refine aw_block ?_
                | refine aw_ret (ret_of (.inr rfl) (by simp [Try.results108]; rfl) (Fin.of ?_))
                | refine ret_of (.inl rfl) (by simp [Try.results108]; rfl) (Fin.of ?_))
              refine ⟨m, by omega, _, le_mkSt ?_ ?_ (Nat.le_refl _), [] ++ [.mk k n a b c d w us], s2.next, hF, by simp at hmN ⊢; omega, hlt2, M + 4, by omega, rfl⟩
              · simp [List.lookup, RS.next]
              · simp
            | false =>
              rw [hc] at hF hmk
              simp only [Bool.false_eq_true, if_false, Option.some.injEq, Prod.mk.injEq] at hF
              obtain ⟨rfl, rfl⟩ := hF
              repeat' (first
                | refine aw_seq ?_
                | ((first | refine aw_run [2, 4, 5, 6, 7, 8, 9, 10, 125] ?_ | refine aw_ymix [2, 4, 5, 6, 7, 8, 9, 10, 125] draws (by decide +kernel) ?_); try simp -implicitDefEqProofs (maxSteps := 1000000) [List.lookup])
                | ((first | refine aw_zrun [2, 4, 5, 6, 7, 8, 9, 10, 125] [] draws (by decide +kernel) (by decide +kernel) ?_ | refine zl_skip (by simp) rfl ?_); try simp -implicitDefEqProofs (maxSteps := 1000000) [List.lookup]; repeat first | refine zcurL (by decide +kernel) ?_ | refine zcurH (by decide +kernel) ?_ | refine zcurL' (by decide +kernel) ?_ | refine zcurH' (by decide +kernel) ?_)
                | ((first | refine aw_yrun draws (by kernel_rfl) ?_ | refine awl_skip' [2, 4, 5, 6, 7, 8, 9, 10, 125] rfl ?_ | refine yl_skip rfl ?_ | refine aw_skip ?_ | refine aw_exit ?_); try simp -implicitDefEqProofs (maxSteps := 1000000) [List.lookup])
                | (refine awl_boxK [2, 4, 5, 6, 7, 8, 9, 10, 125] rfl rfl rfl (by first | assumption | kernel_rfl) (hmk) rfl (by repeat (first | exact .nil | refine .cons (.ptr _) ?_ | refine .cons (.cl (by simp)) ?_)) ?_ ?_ ?_ ?_; (iterate 3 (focus (simp [σ0]; done))); simp -implicitDefEqProofs (maxSteps := 1000000) [List.lookup])
                | (refine awl_boxK [2, 4, 5, 6, 7, 8, 9, 10, 125] rfl rfl rfl (by first | assumption | kernel_rfl) (hmu) rfl (by repeat (first | exact .nil | refine .cons (.ptr _) ?_ | refine .cons (.cl (by simp)) ?_)) ?_ ?_ ?_ ?_; (iterate 3 (focus (simp [σ0]; done))); simp -implicitDefEqProofs (maxSteps := 1000000) [List.lookup])
                | (refine aw_cond rfl (fun h => ?_) (fun h => ?_) <;> try (with_reducible first | exact ff_tt h | exact tt_ff h))
                | refine aw_block ?_
                | refine aw_ret (ret_of (.inr rfl) (by simp [Try.results108]; rfl) (Fin.close (Fin.of ?_)))
                | refine ret_of (.inl rfl) (by simp [Try.results108]; rfl) (Fin.close (Fin.of ?_)))
              simp [tupOf, ASt.noSl, callT, Tree.av]
          · have hne : avs ks ≠ [] := by
              intro h; rw [avs_map] at h; exact hks (List.map_eq_nil_iff.1 h)
            refine zl_append (by simp) rfl rfl rfl (xs := []) (by simp) (by simp) rfl hne te27 tet27 tz29 rfl (by simp) hko (by rw [hkl]; omega) (by rw [hkl]; omega) ?_
            simp -implicitDefEqProofs [List.lookup, e0, e1, e2, e3, f0, f1, f2, f3]
            repeat first | refine zcurL (by decide +kernel) ?_ | refine zcurH (by decide +kernel) ?_ | refine zcurL' (by decide +kernel) ?_ | refine zcurH' (by decide +kernel) ?_
            refine zl_append (by simp) rfl rfl rfl (xs := avs ks) (by simp) (by simp) rfl (by simp) te27 tet27 tz29 rfl (fun y hy => (hko y hy).1) (by simp) (by simp [hkl]; try omega) (by simp [hkl]; try omega) ?_
            simp -implicitDefEqProofs [List.lookup, e0, e1, e2, e3, f0, f1, f2, f3]
            repeat first | refine zcurL (by decide +kernel) ?_ | refine zcurH (by decide +kernel) ?_ | refine zcurL' (by decide +kernel) ?_ | refine zcurH' (by decide +kernel) ?_
            refine aw_shut ?_
            refine aw_weak (τ := mkSt [(0, [.vsl (ts.map tokA), vi (s2.at_ : Nat), vi (en : Nat), vb s2.fl, vi (s2.wh : Nat)]), (1, [vi 0, vi 0, vi 0, vi 0, vi 0, vi 0, vs ⟨#[]⟩, .vsl []]), (2, [vi p.1.k, vi p.1.n, vi p.1.c, vi p.1.r, vs p.1.t, vi (p.2 : Nat)]), (3, [vi 5, vi 0, vi 0, vi 0, vi 0, vi 0, vs p.1.t, .vsl (avs (ks ++ [.mk k n a b c d w us]))])] [] (M + 4)) (le_mkSt (by simp [List.lookup, e0, e1, e2, e3, f0, f1, f2, f3, avs_map, Tree.av, List.take_of_length_le]) (by simp) (by simp)) ?_
            simp -implicitDefEqProofs [List.lookup]
            cases hc : markP ts s2 0 bComma with
            | true =>
              rw [hc] at hF hmk
              simp only [if_true] at hF
              have hlt2 := markP_lt hc
              have w2 : IntKind.i64.wrap ((s2.at_ : Int) + 1) = (s2.at_ : Int) + 1 := wrap_id (by omega) (by omega)
              repeat' (first
                | refine aw_seq ?_
                | ((first | refine aw_run [2, 4, 5, 6, 7, 8, 9, 10, 125] ?_ | refine aw_ymix [2, 4, 5, 6, 7, 8, 9, 10, 125] draws (by decide +kernel) ?_); try simp -implicitDefEqProofs (maxSteps := 1000000) [List.lookup, w2])
                | ((first | refine aw_zrun [2, 4, 5, 6, 7, 8, 9, 10, 125] [] draws (by decide +kernel) (by decide +kernel) ?_ | refine zl_skip (by simp) rfl ?_); try simp -implicitDefEqProofs (maxSteps := 1000000) [List.lookup, w2]; repeat first | refine zcurL (by decide +kernel) ?_ | refine zcurH (by decide +kernel) ?_ | refine zcurL' (by decide +kernel) ?_ | refine zcurH' (by decide +kernel) ?_)
                | ((first | refine aw_yrun draws (by kernel_rfl) ?_ | refine awl_skip' [2, 4, 5, 6, 7, 8, 9, 10, 125] rfl ?_ | refine yl_skip rfl ?_ | refine aw_skip ?_ | refine aw_exit ?_); try simp -implicitDefEqProofs (maxSteps := 1000000) [List.lookup, w2])
                | (refine awl_boxK [2, 4, 5, 6, 7, 8, 9, 10, 125] rfl rfl rfl (by first | assumption | kernel_rfl) (hmk) rfl (by repeat (first | exact .nil | refine .cons (.ptr _) ?_ | refine .cons (.cl (by simp)) ?_)) ?_ ?_ ?_ ?_; (iterate 3 (focus (simp [σ0]; done))); simp -implicitDefEqProofs (maxSteps := 1000000) [List.lookup, w2])
                | (refine aw_cond rfl (fun h => ?_) (fun h => ?_) <;> try (with_reducible first | exact ff_tt h | exact tt_ff h))
                | refine aw_block ?_
                | refine aw_ret (ret_of (.inr rfl) (by simp [Try.results108]; rfl) (Fin.of ?_))
                | refine ret_of (.inl rfl) (by simp [Try.results108]; rfl) (Fin.of ?_))
              refine ⟨m, by omega, _, le_mkSt ?_ ?_ (Nat.le_refl _), ks ++ [.mk k n a b c d w us], s2.next, hF, by simp at hmN ⊢; omega, hlt2, M + 4, by omega, rfl⟩
              · simp [List.lookup, RS.next]
              · simp
            | false =>
              rw [hc] at hF hmk
              simp only [Bool.false_eq_true, if_false, Option.some.injEq, Prod.mk.injEq] at hF
              obtain ⟨rfl, rfl⟩ := hF
              repeat' (first
                | refine aw_seq ?_
                | ((first | refine aw_run [2, 4, 5, 6, 7, 8, 9, 10, 125] ?_ | refine aw_ymix [2, 4, 5, 6, 7, 8, 9, 10, 125] draws (by decide +kernel) ?_); try simp -implicitDefEqProofs (maxSteps := 1000000) [List.lookup])
                | ((first | refine aw_zrun [2, 4, 5, 6, 7, 8, 9, 10, 125] [] draws (by decide +kernel) (by decide +kernel) ?_ | refine zl_skip (by simp) rfl ?_); try simp -implicitDefEqProofs (maxSteps := 1000000) [List.lookup]; repeat first | refine zcurL (by decide +kernel) ?_ | refine zcurH (by decide +kernel) ?_ | refine zcurL' (by decide +kernel) ?_ | refine zcurH' (by decide +kernel) ?_)
                | ((first | refine aw_yrun draws (by kernel_rfl) ?_ | refine awl_skip' [2, 4, 5, 6, 7, 8, 9, 10, 125] rfl ?_ | refine yl_skip rfl ?_ | refine aw_skip ?_ | refine aw_exit ?_); try simp -implicitDefEqProofs (maxSteps := 1000000) [List.lookup])
                | (refine awl_boxK [2, 4, 5, 6, 7, 8, 9, 10, 125] rfl rfl rfl (by first | assumption | kernel_rfl) (hmk) rfl (by repeat (first | exact .nil | refine .cons (.ptr _) ?_ | refine .cons (.cl (by simp)) ?_)) ?_ ?_ ?_ ?_; (iterate 3 (focus (simp [σ0]; done))); simp -implicitDefEqProofs (maxSteps := 1000000) [List.lookup])
                | (refine awl_boxK [2, 4, 5, 6, 7, 8, 9, 10, 125] rfl rfl rfl (by first | assumption | kernel_rfl) (hmu) rfl (by repeat (first | exact .nil | refine .cons (.ptr _) ?_ | refine .cons (.cl (by simp)) ?_)) ?_ ?_ ?_ ?_; (iterate 3 (focus (simp [σ0]; done))); simp -implicitDefEqProofs (maxSteps := 1000000) [List.lookup])
                | (refine aw_cond rfl (fun h => ?_) (fun h => ?_) <;> try (with_reducible first | exact ff_tt h | exact tt_ff h))
                | refine aw_block ?_
                | refine aw_ret (ret_of (.inr rfl) (by simp [Try.results108]; rfl) (Fin.close (Fin.of ?_)))
                | refine ret_of (.inl rfl) (by simp [Try.results108]; rfl) (Fin.close (Fin.of ?_)))
              simp [tupOf, ASt.noSl, callT, Tree.av]
end Go.AL
/-! The parser's contracts together; it comes to an end. -/
namespace Go.AL
open Go.Proofs
set_option linter.unusedSimpArgs false
set_option linter.unusedVariables false
variable {ts : List (Tok × Nat)} {en : Nat}
theorem parse_all (h2 : ts.length ≤ 100000) (N : Nat) (hN : N ≤ 10000000) : CL ts en N ∧ CP ts en N ∧ CO ts en N ∧ CI ts en N := by
  induction N using Nat.strongRecOn with
  | _ N ih =>
    have i1 : ∀ n, n < N → CL ts en n := fun n h => (ih n h (by omega)).1
    have i2 : ∀ n, n < N → CP ts en n := fun n h => (ih n h (by omega)).2.1
    have i3 : ∀ n, n < N → CO ts en n := fun n h => (ih n h (by omega)).2.2.1
    have i4 : ∀ n, n < N → CI ts en n := fun n h => (ih n h (by omega)).2.2.2
    exact ⟨line_ok h2 N i1 i2, prefix_ok h2 N i2 i3, operand_ok h2 N hN i1 i4, item_ok h2 N i1⟩
/-- What is left to read. -/
def left (ts : List (Tok × Nat)) (s : RS) : Nat := if s.fl = true then 0 else ts.length - s.at_ + 1
theorem left_fail (s : RS) : left ts (failS ts en s) = 0 := by
  unfold failS
  by_cases h : s.fl = true
  · rw [if_pos h]; simp [left, h]
  · rw [if_neg h]; simp [left]
theorem left_next {s : RS} (h : s.at_ < ts.length) : left ts s.next = left ts s - 1 := by
  unfold left RS.next
  by_cases hf : s.fl = true
  · simp [hf]
  · simp [hf]; omega
theorem left_must {s : RS} {m : ByteArray} : left ts (mustS ts en s m) ≤ left ts s := by
  unfold mustS
  by_cases h : markP ts s 0 m = true
  · rw [if_pos h, left_next (markP_lt h)]; omega
  · rw [if_neg h, left_fail]; omega
theorem left_pos {s : RS} (h : s.fl = false) : 1 ≤ left ts s := by simp [left, h]
theorem markP_fl {s : RS} {k : Nat} {m : ByteArray} (h : markP ts s k m = true) : s.fl = false := by
  unfold markP at h
  cases hf : s.fl with
  | false => rfl
  | true => rw [hf] at h; simp at h
def TL (ts : List (Tok × Nat)) (en n : Nat) : Prop := ∀ (lv : Nat) (s : RS), 1 ≤ lv → lv ≤ 4 → 10 * left ts s + 10 ≤ n + lv → ∃ q, lineF ts en n lv s = some q ∧ left ts q.2 ≤ left ts s - 1
def TW (ts : List (Tok × Nat)) (en n : Nat) : Prop := ∀ (lv : Nat) (t : Tree) (s : RS), 1 ≤ lv → lv ≤ 3 → 10 * left ts s + 1 ≤ n → ∃ q, loopF ts en n lv t s = some q ∧ left ts q.2 ≤ left ts s
def TP (ts : List (Tok × Nat)) (en n : Nat) : Prop := ∀ (s : RS), 10 * left ts s + 5 ≤ n → ∃ q, prefixF ts en n s = some q ∧ left ts q.2 ≤ left ts s - 1
def TO (ts : List (Tok × Nat)) (en n : Nat) : Prop := ∀ (s : RS), 10 * left ts s + 4 ≤ n → ∃ q, operandF ts en n s = some q ∧ left ts q.2 ≤ left ts s - 1
def TA (ts : List (Tok × Nat)) (en n : Nat) : Prop := ∀ (w : ByteArray) (ks : List Tree) (s : RS), 10 * left ts s + 12 ≤ n → ∃ q, argsF ts en n w ks s = some q ∧ left ts q.2 ≤ left ts s
def TI (ts : List (Tok × Nat)) (en n : Nat) : Prop := ∀ (co : Bool) (s : RS), 10 * left ts s + 11 ≤ n → ∃ q, itemF ts en n co s = some q ∧ left ts q.2 ≤ left ts s
theorem ends : ∀ n, TL ts en n ∧ TW ts en n ∧ TP ts en n ∧ TO ts en n ∧ TA ts en n ∧ TI ts en n := by
  intro n
  induction n with
  | zero =>
    refine ⟨fun lv s _ _ h => ?_, fun lv t s _ _ h => ?_, fun s h => ?_, fun s h => ?_, fun w ks s h => ?_, fun co s h => ?_⟩ <;> omega
  | succ n ih =>
    obtain ⟨hL, hW, hP, hO, hA, hI⟩ := ih
    refine ⟨fun lv s h1 h4 h => ?_, fun lv t s h1 h3 h => ?_, fun s h => ?_, fun s h => ?_, fun w ks s h => ?_, fun co s h => ?_⟩
    · unfold lineF
      by_cases hv : 3 < lv
      · rw [if_pos hv]; exact hP s (by omega)
      · rw [if_neg hv]
        obtain ⟨q, hq, hl⟩ := hL (lv + 1) s (by omega) (by omega) (by omega)
        obtain ⟨r, hr, hl2⟩ := hW lv q.1 q.2 h1 (by omega) (by omega)
        exact ⟨r, by rw [hq]; exact hr, by omega⟩
    · unfold loopF
      by_cases hv : levelP ts s ≠ lv
      · rw [if_pos hv]; exact ⟨_, rfl, Nat.le_refl _⟩
      · rw [if_neg hv]
        obtain ⟨hfl, p, hp, _⟩ := levelP_lt (ts := ts) (s := s) (by simp at hv; omega)
        rw [hp]
        have hlt : s.at_ < ts.length := (List.getElem?_eq_some_iff.1 hp).1
        have e := left_next (ts := ts) hlt
        have e1 := left_pos (ts := ts) hfl
        obtain ⟨q, hq, hl⟩ := hL (lv + 1) s.next (by omega) (by omega) (by omega)
        obtain ⟨r, hr, hl2⟩ := hW lv (opT p.1.t t q.1) q.2 h1 (by omega) (by omega)
        exact ⟨r, by simp only [hq, Option.bind_some]; exact hr, by omega⟩
    · unfold prefixF
      by_cases hk : markP ts s 0 bMinus = true
      · rw [if_pos hk]
        have e := left_next (ts := ts) (markP_lt hk)
        have e1 := left_pos (ts := ts) (markP_fl hk)
        obtain ⟨q, hq, hl⟩ := hP s.next (by omega)
        exact ⟨_, by rw [hq]; rfl, by show left ts q.2 ≤ _; omega⟩
      · rw [if_neg hk]; exact hO s (by omega)
    · unfold operandF
      by_cases hk : markP ts s 0 bOpen = true
      · rw [if_pos hk]
        have e := left_next (ts := ts) (markP_lt hk)
        have e1 := left_pos (ts := ts) (markP_fl hk)
        obtain ⟨q, hq, hl⟩ := hL 1 s.next (by omega) (by omega) (by omega)
        have hm := left_must (ts := ts) (en := en) (s := q.2) (m := bShut)
        exact ⟨_, by rw [hq]; rfl, by show left ts (mustS ts en q.2 bShut) ≤ _; omega⟩
      · rw [if_neg hk]
        cases hc : curT ts s with
        | none => exact ⟨_, rfl, by show left ts (failS ts en s) ≤ _; rw [left_fail]; omega⟩
        | some x =>
          have hfl : s.fl = false := by
            cases hf : s.fl with
            | false => rfl
            | true => simp [curT, hf] at hc
          have hlt : s.at_ < ts.length := by
            simp only [curT, hfl, Bool.false_eq_true, if_false] at hc
            obtain ⟨p, hp, _⟩ := Option.map_eq_some_iff.1 hc
            exact (List.getElem?_eq_some_iff.1 hp).1
          have e := left_next (ts := ts) hlt
          have e1 := left_pos (ts := ts) hfl
          have hm0 := left_must (ts := ts) (en := en) (s := s.next) (m := bOpen)
          simp only
          by_cases h5 : x.k = 5
          · rw [if_pos h5]; exact ⟨_, rfl, by show left ts (failS ts en s) ≤ _; rw [left_fail]; omega⟩
          rw [if_neg h5]
          by_cases h5 : x.k = 1
          · rw [if_pos h5]; exact ⟨_, rfl, by show left ts s.next ≤ _; omega⟩
          rw [if_neg h5]
          by_cases h5 : x.k = 2
          · rw [if_pos h5]; exact ⟨_, rfl, by show left ts s.next ≤ _; omega⟩
          rw [if_neg h5]
          by_cases h5 : x.k = 3
          · rw [if_pos h5]; exact ⟨_, rfl, by show left ts s.next ≤ _; omega⟩
          rw [if_neg h5]
          by_cases h5 : x.t = bIF
          · rw [if_pos h5]
            obtain ⟨a, ha, la⟩ := hL 1 (mustS ts en s.next bOpen) (by omega) (by omega) (by omega)
            have m1 := left_must (ts := ts) (en := en) (s := a.2) (m := bComma)
            obtain ⟨b, hb, lb⟩ := hL 1 (mustS ts en a.2 bComma) (by omega) (by omega) (by omega)
            have m2 := left_must (ts := ts) (en := en) (s := b.2) (m := bComma)
            obtain ⟨c, hc, lc⟩ := hL 1 (mustS ts en b.2 bComma) (by omega) (by omega) (by omega)
            have m3 := left_must (ts := ts) (en := en) (s := c.2) (m := bShut)
            exact ⟨_, by simp only [ha, hb, hc, Option.bind_some]; rfl, by show left ts (mustS ts en c.2 bShut) ≤ _; omega⟩
          · rw [if_neg h5]
            obtain ⟨a, ha, la⟩ := hA x.t [] (mustS ts en s.next bOpen) (by omega)
            exact ⟨a, ha, by omega⟩
    · unfold argsF
      obtain ⟨q, hq, hl⟩ := hI (decide (w = bCOUNT)) s (by omega)
      simp only [hq, Option.bind_some]
      by_cases hk : markP ts q.2 0 bComma = true
      · rw [if_pos hk]
        have e := left_next (ts := ts) (markP_lt hk)
        have e1 := left_pos (ts := ts) (markP_fl hk)
        obtain ⟨r, hr, hl2⟩ := hA w (ks ++ [q.1]) q.2.next (by omega)
        exact ⟨r, hr, by omega⟩
      · rw [if_neg hk]
        have hm := left_must (ts := ts) (en := en) (s := q.2) (m := bShut)
        exact ⟨_, rfl, by show left ts (mustS ts en q.2 bShut) ≤ _; omega⟩
    · unfold itemF
      by_cases h1 : co = false ∧ (endP ts s = false ∨ markP ts s 1 bColon = false)
      · rw [if_pos h1]
        obtain ⟨q, hq, hl⟩ := hL 1 s (by omega) (by omega) (by omega)
        exact ⟨q, hq, by omega⟩
      rw [if_neg h1]
      by_cases h2 : endP ts s = false
      · rw [if_pos h2]; exact ⟨_, rfl, by show left ts (failS ts en s) ≤ _; rw [left_fail]; omega⟩
      rw [if_neg h2]
      obtain ⟨p, hp⟩ := endP_get (ts := ts) (s := s) (by simpa using h2)
      have hlt : s.at_ < ts.length := (List.getElem?_eq_some_iff.1 hp).1
      have e := left_next (ts := ts) hlt
      have hm0 := left_must (ts := ts) (en := en) (s := s.next) (m := bColon)
      simp only [hp]
      by_cases h3 : markP ts s 1 bColon = false ∧ p.1.k = 3
      · rw [if_pos h3]; exact ⟨_, rfl, by show left ts s.next ≤ _; omega⟩
      rw [if_neg h3]
      by_cases h4 : endP ts (mustS ts en s.next bColon) = false
      · rw [if_pos h4]; exact ⟨_, rfl, by show left ts (failS ts en _) ≤ _; rw [left_fail]; omega⟩
      rw [if_neg h4]
      obtain ⟨p2, hp2⟩ := endP_get (ts := ts) (s := mustS ts en s.next bColon) (by simpa using h4)
      have hlt2 : (mustS ts en s.next bColon).at_ < ts.length := (List.getElem?_eq_some_iff.1 hp2).1
      have e2 := left_next (ts := ts) hlt2
      simp only [hp2]
      split
      · exact ⟨_, rfl, by show left ts (mustS ts en s.next bColon).next ≤ _; omega⟩
      · exact ⟨_, rfl, by show left ts (mustS ts en s.next bColon).next ≤ _; omega⟩
end Go.AL
/-! Contracts: gridironref05.Deep. -/
namespace Go.AL
open Go.Proofs
set_option linter.unusedSimpArgs false
set_option linter.unusedVariables false
mutual
def deepT : Tree → Nat
  | .mk _ _ _ _ _ _ _ ks => deeps ks + 1
def deeps : List Tree → Nat
  | [] => 0
  | t :: ts => max (deepT t) (deeps ts)
end
theorem deeps_append : ∀ (l m : List Tree), deeps (l ++ m) = max (deeps l) (deeps m)
  | [], m => by simp [deeps]
  | t :: l, m => by rw [List.cons_append, deeps, deeps, deeps_append l m]; omega
theorem deeps_take {l : List Tree} {i : Nat} (h : i < l.length) : deeps (l.take (i + 1)) = max (deeps (l.take i)) (deepT l[i]) := by
  rw [List.take_add_one, List.getElem?_eq_getElem h, deeps_append]; simp [deeps]
theorem deeps_mem : ∀ {l : List Tree} {t : Tree}, t ∈ l → deepT t ≤ deeps l
  | [], _, h => by cases h
  | u :: l, t, h => by
    rw [deeps]
    rcases List.mem_cons.1 h with rfl | h
    · omega
    · have := deeps_mem h; omega
theorem avs_get {l : List Tree} {i : Nat} (h : i < l.length) : (avs l)[i]? = some l[i].av := by
  rw [avs_map, List.getElem?_map, List.getElem?_eq_getElem h]; rfl
theorem avs_len (l : List Tree) : (avs l).length = l.length := by rw [avs_map, List.length_map]
mutual
/-- No more kids than a machine can count. -/
def Tree.sh : Tree → Prop
  | .mk _ _ _ _ _ _ _ ks => ks.length ≤ 9223372036854775807 ∧ shs ks
def shs : List Tree → Prop
  | [] => True
  | t :: ts => t.sh ∧ shs ts
end
theorem shs_all : ∀ l : List Tree, shs l ↔ ∀ t ∈ l, t.sh
  | [] => by simp [shs]
  | t :: ts => by rw [shs, shs_all ts]; simp
def DeepP (t : Tree) : Prop := t.sh → deepT t ≤ 1000000000000000 → APure Try.prog 41 [t.av] (vi (deepT t : Nat))
@[simp] theorem cls_true (l : List Tree) : (∀ c, c ∈ avs l → Cl c) = True := eq_true (cls l)
set_option maxHeartbeats 8000000 in
set_option maxRecDepth 100000 in
theorem deep_step (k n a b c d : Int) (w : ByteArray) (ks : List Tree) (ih : ∀ t ∈ ks, DeepP t) : DeepP (.mk k n a b c d w ks) := by
  intro hsh hd
  rw [Tree.sh, shs_all] at hsh
  obtain ⟨hlk, hsh⟩ := hsh
  rw [deepT] at hd ⊢
  rw [Tree.av]
  refine apure_in Try.func41 Try.ntmps41 rfl ?_
  repeat' first | refine aw_N [] trivial trivial ?_ | refine aw_cond rfl (fun h => ?_) (fun h => ?_)
  refine aw_loopW [1, 3, 4] (fun m fr σ => ∃ i M : Nat, i + m = ks.length ∧ σ = mkSt [] [] M ∧ fr = frm 24 [(1, .vel [.agg [vi k, vi n, vi a, vi b, vi c, vi d, vs w, .vsl (avs ks)]] 0 0), (3, vi (deeps (ks.take i) : Nat)), (4, vi (i : Nat))]) ks.length ?_ ?_
  · exact ⟨mkSt [] [] 0, le_mkSt (by simp) (by simp) (by simp [σ0]), 0, 0, by omega, rfl, by simp [deeps]⟩
  · rintro m fr σ ⟨i, M, hi, rfl, rfl⟩
    simp
    have hl := avs_len ks
    by_cases hlt : i < ks.length
    · have hlti : (i : Int) < ks.length := by omega
      obtain ⟨t, ht⟩ : ∃ t, ks[i] = t := ⟨_, rfl⟩
      have hmem : t ∈ ks := ht ▸ List.getElem_mem hlt
      have hdt := deeps_mem hmem
      have hr := ih t hmem (hsh t hmem) (by omega)
      have hg := avs_get hlt
      rw [ht] at hg
      have hla : i < (avs ks).length := by omega
      have hg' : (avs ks)[i] = t.av := by rw [List.getElem?_eq_getElem hla] at hg; exact Option.some.inj hg
      have hmx : max ((deeps (ks.take i) : Nat) : Int) (deepT t : Nat) = (deeps (ks.take (i + 1)) : Nat) := by rw [deeps_take hlt, ht]; omega
      have wi : IntKind.i64.wrap ((i : Int) + 1) = (i : Int) + 1 := wrap_id (by omega) (by omega)
      obtain ⟨tk, tn, ta, tb, tc, td, tw, tks⟩ := t
      rw [Tree.av] at hr hg' hg
      repeat' first | refine aw_N [] (And.intro @hl (And.intro @hlti (And.intro @hla (And.intro @hg (And.intro @hmx @wi))))) (And.intro @hr trivial) ?_ | refine aw_cond rfl (fun h => ?_) (fun h => ?_)
      refine ⟨m - 1, by omega, mkSt [] [] M, le_mkSt (by simp) (by simp) (by simp), i + 1, by omega, ⟨M, rfl⟩, ?_, by omega⟩
      rw [deeps_take hlt, ht]
      split <;> omega
    · obtain rfl : m = 0 := by omega
      have hlti : ¬ (i : Int) < ks.length := by omega
      have htk : ks.take i = ks := List.take_of_length_le (by omega)
      have wd : IntKind.i64.wrap ((deeps ks : Int) + 1) = (deeps ks : Int) + 1 := wrap_id (by omega) (by omega)
      repeat' first | refine aw_N [] (And.intro @hl (And.intro @hlti (And.intro @htk @wd))) trivial ?_ | refine aw_cond rfl (fun h => ?_) (fun h => ?_)
      simp [tupOf]
mutual
theorem deep_ok : ∀ t : Tree, DeepP t
  | .mk k n a b c d w ks => deep_step k n a b c d w ks (deepss_ok ks)
theorem deepss_ok : ∀ (l : List Tree), ∀ t ∈ l, DeepP t
  | [], t, h => by cases h
  | u :: l, t, h => by
    exact (List.mem_cons.1 h).elim (fun e => by rw [e]; exact deep_ok u) (fun h => deepss_ok l t h)
end
end Go.AL
