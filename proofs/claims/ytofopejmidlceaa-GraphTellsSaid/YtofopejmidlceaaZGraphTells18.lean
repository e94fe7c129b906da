/- Parts of the proof of GraphTells: the logic, contracts, plain laws. -/
import Derived.Test.YtofopejmidlceaaZGraphTells17
/-! Contract: gridironref12's Order. -/
namespace Go.AL
open Go.Proofs
set_option linter.unusedSimpArgs false
set_option linter.unusedVariables false
theorem mem_cycL {L : List Lnk} {y : Int} : y ∈ cycL L ↔ y ∈ L.map Prod.fst ∧ onCyc L y = true := by
  unfold cycL; rw [List.mem_filter, nodesL, sortI_mem]
theorem mem_plainL {L : List Lnk} {y : Int} : y ∈ plainL L ↔ y ∈ L.map Prod.fst ∧ onCyc L y = false := by
  unfold plainL; rw [List.mem_filter, nodesL, sortI_mem]
  simp
theorem rdyB_iff (L : List Lnk) (o : List Int) (r : Int) : rdyB L (cycL L) o r = true ↔ (r ∈ plainL L → r ∈ o) := by
  unfold rdyB inG
  have h1 := @mem_cycL L r
  have h2 := @mem_plainL L r
  by_cases hk : r ∈ L.map Prod.fst
  · cases hc : onCyc L r
    · have a : r ∉ cycL L := fun h => by have := (h1.1 h).2; rw [hc] at this; cases this
      have b : r ∈ plainL L := h2.2 ⟨hk, hc⟩
      by_cases ho : r ∈ o <;> simp [hk, a, b, ho]
    · have a : r ∈ cycL L := h1.2 ⟨hk, hc⟩
      have b : r ∉ plainL L := fun h => by have := (h2.1 h).2; rw [hc] at this; cases this
      simp [a, b]
  · have b : r ∉ plainL L := fun h => hk (h2.1 h).1
    simp [hk, b]
theorem may_iff {L : List Lnk} (hn : (L.map Prod.fst).Nodup) {p : Lnk} (hp : p ∈ L) (o : List Int) : (p.2.all fun r => rdyB L (cycL L) o r) = decide (wtL L o p.1 = 0) := by
  have h : (p.2.all fun r => rdyB L (cycL L) o r) = true ↔ wtL L o p.1 = 0 := by
    rw [List.all_eq_true]
    unfold wtL wtc
    rw [List.length_eq_zero_iff, List.filter_eq_nil_iff, redL_of hn hp]
    constructor
    · intro h x hx
      have := (rdyB_iff L o x).1 (h x ((csL_mem _ _).1 hx))
      simpa using this
    · intro h x hx
      refine (rdyB_iff L o x).2 ?_
      have := h x ((csL_mem _ _).2 hx)
      simpa using this
  by_cases h0 : wtL L o p.1 = 0
  · rw [h.2 h0]; simp [h0]
  · rw [decide_eq_false h0]
    cases hc : p.2.all fun r => rdyB L (cycL L) o r
    · rfl
    · exact (h0 (h.1 hc)).elim
noncomputable def rdQ (L : List Lnk) (o : List Int) (y : Int) : Bool := !onCyc L y && !decide (y ∈ o) && decide (wtL L o y = 0)
theorem rdyL_Q (L : List Lnk) (o : List Int) : rdyL L o = (nodesL L).filter fun y => rdQ L o y := by
  unfold rdyL plainL
  rw [List.filter_filter]
  refine List.filter_congr fun y _ => ?_
  unfold rdQ
  cases onCyc L y <;> cases decide (y ∈ o) <;> cases decide (wtL L o y = 0) <;> rfl
theorem rdyL_head {L : List Lnk} {o : List Int} {i : Nat} {n : Int} (hn : (nodesL L)[i]? = some n) (hb : ∀ y ∈ (nodesL L).take i, rdQ L o y = false) (hq : rdQ L o n = true) : (rdyL L o).head? = some n := by
  have e : nodesL L = (nodesL L).take i ++ n :: (nodesL L).drop (i + 1) := by
    rw [← drop_get' hn, List.take_append_drop]
  rw [rdyL_Q, e, List.filter_append, List.filter_eq_nil_iff.2 fun y hy => by rw [hb y hy]; simp, List.filter_cons_of_pos hq]
  rfl
theorem rdyL_none {L : List Lnk} {o : List Int} (hb : ∀ y ∈ nodesL L, rdQ L o y = false) : rdyL L o = [] := by
  rw [rdyL_Q]
  exact List.filter_eq_nil_iff.2 fun y hy => by rw [hb y hy]; simp
def RoI1 (L : List Lnk) (q : Nat) (fr : List AV) (σ : ASt) : Prop := ∃ (o : List Int) (m : Bool) (b M : Nat), (L.length - o.length) + (if m = true then 1 else 0) = q ∧ OrdOk L o ∧ (m = false → rdyL L o = []) ∧ b < M ∧ σ = mkSt [] [(b, o.map vi)] M ∧ fr = frm 71 [(0, .vsl (lks L)), (3, .vsl ((nodesL L).map vi)), (4, .vsl ((cycL L).map vi)), (5, .hsl b 0 o.length), (6, vb m)]
def RoI2 (L : List Lnk) (k : Nat) (q : Nat) (fr : List AV) (σ : ASt) : Prop := ∃ (o : List Int) (m : Bool) (b M i : Nat), i + q = (nodesL L).length ∧ OrdOk L o ∧ (m = true → o.length = k + 1) ∧ (m = false → o.length = k ∧ ∀ y ∈ (nodesL L).take i, rdQ L o y = false) ∧ b < M ∧ σ = mkSt [] [(b, o.map vi)] M ∧ fr = frm 71 [(0, .vsl (lks L)), (3, .vsl ((nodesL L).map vi)), (4, .vsl ((cycL L).map vi)), (5, .hsl b 0 o.length), (6, vb m), (7, vi (i : Nat))]
set_option maxHeartbeats 16000000 in
set_option maxRecDepth 100000 in
theorem rorder_ok {L : List Lnk} (hL : GOk L) : APure Try.prog 16 [.vsl (lks L)] (.vsl ((ordL L).map vi)) := by
  have hvl := lks_len L
  have hLl := hL.len
  have hnl := nodesL_len L
  have hN := rnodes_ok hL
  have hY := rcyclic_ok hL
  have hnv : ((nodesL L).map vi).length = (nodesL L).length := List.length_map _
  have hpl := plainL_len L
  have hcl : (cycL L).length ≤ 1000 := Nat.le_trans (List.length_filter_le _ _) (by omega)
  refine apure_in Try.func16 Try.ntmps16 rfl ?_
  repeat' first | refine aw_N [8] trivial (And.intro @hN (And.intro @hY trivial)) ?_ | refine aw_cond rfl (fun h => ?_) (fun h => ?_)
  refine aw_nilH (i := 5) rfl ?_
  simp -implicitDefEqProofs only [List.set]
  refine aw_loopW [0, 3, 4, 5, 6] (fun q fr σ => RoI1 L q fr σ) (L.length + 1) ?_ ?_
  · exact ⟨mkSt [] [(0, [])] 1, le_mkSt (by simp [ASt.addSl, σ0]) (by simp [ASt.addSl, σ0]) (by simp [ASt.addSl, σ0]), [], true, 0, 1, by simp, .nil L, (fun h => by cases h), by omega, rfl, by simp⟩
  · rintro q0 fr σ ⟨o0, m0, b0, M0, hq0, hO0, hm0, hb0, rfl, rfl⟩
    simp -implicitDefEqProofs
    have hol0 := hO0.len
    cases m0 with
    | false =>
      have hres : o0 = ordL L := hO0.done (hm0 rfl)
      repeat' first | refine aw_M [8] trivial trivial ?_ | refine aw_cond rfl (fun h => ?_) (fun h => ?_)
      all_goals first | (simp [tupOf, hres, List.take_of_length_le]; done) | trace_state
    | true =>
      have hq0' : L.length - o0.length + 1 = q0 := by simpa using hq0
      repeat' first | refine aw_N [8] trivial trivial ?_ | refine aw_cond rfl (fun h => ?_) (fun h => ?_)
      refine aw_loopW [0, 3, 4, 5, 6, 7] (fun q fr σ => RoI2 L o0.length q fr σ) (nodesL L).length ?_ ?_
      · exact ⟨mkSt [] [(b0, o0.map vi)] M0, le_mkSt (by simp) (by simp) (by simp), o0, false, b0, M0, 0, by omega, hO0, (fun h => by cases h), (fun _ => ⟨rfl, by simp⟩), hb0, rfl, by simp⟩
      · clear hq0 hm0
        generalize o0.length = k at *
        clear hO0 hb0 o0 b0 M0
        rintro q fr σ ⟨o, m, b, M, i, hi, hO, hm1, hm2, hbM, rfl, rfl⟩
        simp -implicitDefEqProofs
        have hol := hO.len
        by_cases hlt : i < (nodesL L).length
        · have hlti : (i : Int) < (nodesL L).length := by omega
          have wi : IntKind.i64.wrap ((i : Int) + 1) = (i : Int) + 1 := wrap_id (by omega) (by omega)
          cases m with
          | true =>
            have hok := hm1 rfl
            repeat' first | refine aw_N [8] (And.intro @hlt (And.intro @hlti @hnv)) trivial ?_ | refine aw_cond rfl (fun h => ?_) (fun h => ?_)
            refine ⟨L.length - o.length + 1, by omega, mkSt [] [(b, o.map vi)] M, le_mkSt (by simp) (by simp) (by simp), o, true, b, M, rfl, hO, (fun h => by cases h), hbM, rfl, by simp⟩
          | false =>
            obtain ⟨hk, hs⟩ := hm2 rfl
            obtain ⟨n, hn⟩ : ∃ n, (nodesL L)[i] = n := ⟨_, rfl⟩
            have hng : (nodesL L)[i]? = some n := by rw [List.getElem?_eq_getElem hlt, hn]
            have hnk : n ∈ L.map Prod.fst := by rw [← sortI_mem]; exact List.mem_of_getElem? hng
            obtain ⟨⟨a, l⟩, hp, hpe⟩ := List.mem_map.1 hnk
            simp only at hpe
            subst hpe
            have hf := rfind_ok L a (by omega)
            have hfv := fndV_some hL.nd hp
            simp only at hfv
            have hlk : lnk (a, l) = .agg [vi a, .vsl (l.map vi)] := rfl
            rw [hfv, hlk] at hf
            have hA := rhas_ok (cycL L) a (by omega)
            have hB := rhas_ok o a (by omega)
            have hll := hL.rlen _ hp
            simp only at hll
            have hC := rready_ok hL (a, l) (cycL L) o (by simp; omega) hcl (by omega)
            rw [hlk, may_iff hL.nd hp o] at hC
            simp only at hC
            have hcd : onCyc L a = decide (a ∈ cycL L) := by
              have := @mem_cycL L a
              cases hc : onCyc L a
              · refine (decide_eq_false fun h => ?_).symm
                have := (this.1 h).2; rw [hc] at this; cases this
              · exact (decide_eq_true (this.2 ⟨hnk, hc⟩)).symm
            cases h1 : decide (a ∈ cycL L) <;> cases h2 : decide (a ∈ o) <;> cases h3 : decide (wtL L o a = 0)
            · rw [h1] at hA
              rw [h2] at hB
              rw [h3] at hC
              have hqv : rdQ L o a = false := by unfold rdQ; rw [hcd, h1, h2, h3]; rfl
              repeat' first | refine aw_N [8] (And.intro @hlt (And.intro @hlti (And.intro @hn (And.intro @hng @hnv)))) (And.intro @hf (And.intro @hA trivial)) ?_ | refine aw_cond rfl (fun h => ?_) (fun h => ?_)
              refine awl_lend [] rfl rfl rfl (by kernel_rfl) rfl (args' := [.vsl (o.map vi), vi a]) (by simp [clo, clo1, clo0, List.take_of_length_le]) hB (by simp) (by simp) ?_
              simp -implicitDefEqProofs
              repeat' first | refine aw_N [8] (And.intro @hlt (And.intro @hlti (And.intro @hn (And.intro @hng @hnv)))) trivial ?_ | refine aw_cond rfl (fun h => ?_) (fun h => ?_)
              refine awl_lend [] rfl rfl rfl (by kernel_rfl) rfl (args' := [.vsl (lks L), .agg [vi a, .vsl (l.map vi)], .vsl ((cycL L).map vi), .vsl (o.map vi)]) (by simp [clo, clo1, clo0, List.take_of_length_le]) hC (by simp) (by simp) ?_
              simp -implicitDefEqProofs
              repeat' first | refine aw_N [8] (And.intro @hlt (And.intro @hlti (And.intro @hn (And.intro @hng (And.intro @hnv @wi))))) trivial ?_ | refine aw_cond rfl (fun h => ?_) (fun h => ?_)
              have hs1 : ∀ y ∈ (nodesL L).take (i + 1), rdQ L o y = false := by
                rw [List.take_add_one, hng, Option.toList_some]
                intro y hy
                rcases List.mem_append.1 hy with hy | hy
                · exact hs y hy
                · obtain rfl := List.mem_singleton.1 hy; exact hqv
              exact ⟨q - 1, by omega, mkSt [] [(b, o.map vi)] (M + 1), le_mkSt (by simp) (by simp) (by simp), o, false, b, M + 1, i + 1, by omega, hO, (fun h => by cases h), (fun _ => ⟨hk, hs1⟩), by omega, rfl, by simp⟩
            · rw [h1] at hA
              rw [h2] at hB
              rw [h3] at hC
              have hqv : rdQ L o a = true := by unfold rdQ; rw [hcd, h1, h2, h3]; rfl
              repeat' first | refine aw_N [8] (And.intro @hlt (And.intro @hlti (And.intro @hn (And.intro @hng @hnv)))) (And.intro @hf (And.intro @hA trivial)) ?_ | refine aw_cond rfl (fun h => ?_) (fun h => ?_)
              refine awl_lend [] rfl rfl rfl (by kernel_rfl) rfl (args' := [.vsl (o.map vi), vi a]) (by simp [clo, clo1, clo0, List.take_of_length_le]) hB (by simp) (by simp) ?_
              simp -implicitDefEqProofs
              repeat' first | refine aw_N [8] (And.intro @hlt (And.intro @hlti (And.intro @hn (And.intro @hng @hnv)))) trivial ?_ | refine aw_cond rfl (fun h => ?_) (fun h => ?_)
              refine awl_lend [] rfl rfl rfl (by kernel_rfl) rfl (args' := [.vsl (lks L), .agg [vi a, .vsl (l.map vi)], .vsl ((cycL L).map vi), .vsl (o.map vi)]) (by simp [clo, clo1, clo0, List.take_of_length_le]) hC (by simp) (by simp) ?_
              simp -implicitDefEqProofs
              repeat' first | refine aw_N [8] (And.intro @hlt (And.intro @hlti (And.intro @hn (And.intro @hng (And.intro @hnv @wi))))) trivial ?_ | refine aw_cond rfl (fun h => ?_) (fun h => ?_)
              refine awl_append [] rfl rfl rfl (xs := o.map vi) (by simp) (by simp) rfl (by simp) te23 tet23 tz3 rfl (fun y hy => by obtain ⟨_, _, rfl⟩ := List.mem_map.1 hy; rfl) (by simp) (by simp; omega) (by simp; omega) ?_
              simp -implicitDefEqProofs
              repeat' first | refine aw_N [8] @wi trivial ?_ | refine aw_cond rfl (fun h => ?_) (fun h => ?_)
              have hO1 := hO.step hL.nd (rdyL_head hng hs hqv)
              exact ⟨q - 1, by omega, mkSt [] [(M + 1, (o ++ [a]).map vi)] (M + 2), le_mkSt (by simp) (by simp [List.take_of_length_le, ASt.addSl]) (by simp [ASt.addSl]), o ++ [a], true, M + 1, M + 2, i + 1, by omega, hO1, (fun _ => by simp [hk]), (fun h => by cases h), by omega, rfl, by simp⟩
            · rw [h1] at hA
              rw [h2] at hB
              rw [h3] at hC
              have hqv : rdQ L o a = false := by unfold rdQ; rw [hcd, h1, h2, h3]; rfl
              repeat' first | refine aw_N [8] (And.intro @hlt (And.intro @hlti (And.intro @hn (And.intro @hng @hnv)))) (And.intro @hf (And.intro @hA trivial)) ?_ | refine aw_cond rfl (fun h => ?_) (fun h => ?_)
              refine awl_lend [] rfl rfl rfl (by kernel_rfl) rfl (args' := [.vsl (o.map vi), vi a]) (by simp [clo, clo1, clo0, List.take_of_length_le]) hB (by simp) (by simp) ?_
              simp -implicitDefEqProofs
              repeat' first | refine aw_N [8] (And.intro @hlt (And.intro @hlti (And.intro @hn (And.intro @hng @hnv)))) trivial ?_ | refine aw_cond rfl (fun h => ?_) (fun h => ?_)
              refine awl_lend [] rfl rfl rfl (by kernel_rfl) rfl (args' := [.vsl (lks L), .agg [vi a, .vsl (l.map vi)], .vsl ((cycL L).map vi), .vsl (o.map vi)]) (by simp [clo, clo1, clo0, List.take_of_length_le]) hC (by simp) (by simp) ?_
              simp -implicitDefEqProofs
              repeat' first | refine aw_N [8] (And.intro @hlt (And.intro @hlti (And.intro @hn (And.intro @hng (And.intro @hnv @wi))))) trivial ?_ | refine aw_cond rfl (fun h => ?_) (fun h => ?_)
              have hs1 : ∀ y ∈ (nodesL L).take (i + 1), rdQ L o y = false := by
                rw [List.take_add_one, hng, Option.toList_some]
                intro y hy
                rcases List.mem_append.1 hy with hy | hy
                · exact hs y hy
                · obtain rfl := List.mem_singleton.1 hy; exact hqv
              exact ⟨q - 1, by omega, mkSt [] [(b, o.map vi)] (M + 1), le_mkSt (by simp) (by simp) (by simp), o, false, b, M + 1, i + 1, by omega, hO, (fun h => by cases h), (fun _ => ⟨hk, hs1⟩), by omega, rfl, by simp⟩
            · rw [h1] at hA
              rw [h2] at hB
              rw [h3] at hC
              have hqv : rdQ L o a = false := by unfold rdQ; rw [hcd, h1, h2, h3]; rfl
              repeat' first | refine aw_N [8] (And.intro @hlt (And.intro @hlti (And.intro @hn (And.intro @hng @hnv)))) (And.intro @hf (And.intro @hA trivial)) ?_ | refine aw_cond rfl (fun h => ?_) (fun h => ?_)
              refine awl_lend [] rfl rfl rfl (by kernel_rfl) rfl (args' := [.vsl (o.map vi), vi a]) (by simp [clo, clo1, clo0, List.take_of_length_le]) hB (by simp) (by simp) ?_
              simp -implicitDefEqProofs
              repeat' first | refine aw_N [8] (And.intro @hlt (And.intro @hlti (And.intro @hn (And.intro @hng @hnv)))) trivial ?_ | refine aw_cond rfl (fun h => ?_) (fun h => ?_)
              refine awl_lend [] rfl rfl rfl (by kernel_rfl) rfl (args' := [.vsl (lks L), .agg [vi a, .vsl (l.map vi)], .vsl ((cycL L).map vi), .vsl (o.map vi)]) (by simp [clo, clo1, clo0, List.take_of_length_le]) hC (by simp) (by simp) ?_
              simp -implicitDefEqProofs
              repeat' first | refine aw_N [8] (And.intro @hlt (And.intro @hlti (And.intro @hn (And.intro @hng (And.intro @hnv @wi))))) trivial ?_ | refine aw_cond rfl (fun h => ?_) (fun h => ?_)
              have hs1 : ∀ y ∈ (nodesL L).take (i + 1), rdQ L o y = false := by
                rw [List.take_add_one, hng, Option.toList_some]
                intro y hy
                rcases List.mem_append.1 hy with hy | hy
                · exact hs y hy
                · obtain rfl := List.mem_singleton.1 hy; exact hqv
              exact ⟨q - 1, by omega, mkSt [] [(b, o.map vi)] (M + 1), le_mkSt (by simp) (by simp) (by simp), o, false, b, M + 1, i + 1, by omega, hO, (fun h => by cases h), (fun _ => ⟨hk, hs1⟩), by omega, rfl, by simp⟩
            · rw [h1] at hA
              rw [h2] at hB
              rw [h3] at hC
              have hqv : rdQ L o a = false := by unfold rdQ; rw [hcd, h1, h2, h3]; rfl
              repeat' first | refine aw_N [8] (And.intro @hlt (And.intro @hlti (And.intro @hn (And.intro @hng @hnv)))) (And.intro @hf (And.intro @hA trivial)) ?_ | refine aw_cond rfl (fun h => ?_) (fun h => ?_)
              refine awl_lend [] rfl rfl rfl (by kernel_rfl) rfl (args' := [.vsl (o.map vi), vi a]) (by simp [clo, clo1, clo0, List.take_of_length_le]) hB (by simp) (by simp) ?_
              simp -implicitDefEqProofs
              repeat' first | refine aw_N [8] (And.intro @hlt (And.intro @hlti (And.intro @hn (And.intro @hng @hnv)))) trivial ?_ | refine aw_cond rfl (fun h => ?_) (fun h => ?_)
              refine awl_lend [] rfl rfl rfl (by kernel_rfl) rfl (args' := [.vsl (lks L), .agg [vi a, .vsl (l.map vi)], .vsl ((cycL L).map vi), .vsl (o.map vi)]) (by simp [clo, clo1, clo0, List.take_of_length_le]) hC (by simp) (by simp) ?_
              simp -implicitDefEqProofs
              repeat' first | refine aw_N [8] (And.intro @hlt (And.intro @hlti (And.intro @hn (And.intro @hng (And.intro @hnv @wi))))) trivial ?_ | refine aw_cond rfl (fun h => ?_) (fun h => ?_)
              have hs1 : ∀ y ∈ (nodesL L).take (i + 1), rdQ L o y = false := by
                rw [List.take_add_one, hng, Option.toList_some]
                intro y hy
                rcases List.mem_append.1 hy with hy | hy
                · exact hs y hy
                · obtain rfl := List.mem_singleton.1 hy; exact hqv
              exact ⟨q - 1, by omega, mkSt [] [(b, o.map vi)] (M + 1), le_mkSt (by simp) (by simp) (by simp), o, false, b, M + 1, i + 1, by omega, hO, (fun h => by cases h), (fun _ => ⟨hk, hs1⟩), by omega, rfl, by simp⟩
            · rw [h1] at hA
              rw [h2] at hB
              rw [h3] at hC
              have hqv : rdQ L o a = false := by unfold rdQ; rw [hcd, h1, h2, h3]; rfl
              repeat' first | refine aw_N [8] (And.intro @hlt (And.intro @hlti (And.intro @hn (And.intro @hng @hnv)))) (And.intro @hf (And.intro @hA trivial)) ?_ | refine aw_cond rfl (fun h => ?_) (fun h => ?_)
              refine awl_lend [] rfl rfl rfl (by kernel_rfl) rfl (args' := [.vsl (o.map vi), vi a]) (by simp [clo, clo1, clo0, List.take_of_length_le]) hB (by simp) (by simp) ?_
              simp -implicitDefEqProofs
              repeat' first | refine aw_N [8] (And.intro @hlt (And.intro @hlti (And.intro @hn (And.intro @hng @hnv)))) trivial ?_ | refine aw_cond rfl (fun h => ?_) (fun h => ?_)
              refine awl_lend [] rfl rfl rfl (by kernel_rfl) rfl (args' := [.vsl (lks L), .agg [vi a, .vsl (l.map vi)], .vsl ((cycL L).map vi), .vsl (o.map vi)]) (by simp [clo, clo1, clo0, List.take_of_length_le]) hC (by simp) (by simp) ?_
              simp -implicitDefEqProofs
              repeat' first | refine aw_N [8] (And.intro @hlt (And.intro @hlti (And.intro @hn (And.intro @hng (And.intro @hnv @wi))))) trivial ?_ | refine aw_cond rfl (fun h => ?_) (fun h => ?_)
              have hs1 : ∀ y ∈ (nodesL L).take (i + 1), rdQ L o y = false := by
                rw [List.take_add_one, hng, Option.toList_some]
                intro y hy
                rcases List.mem_append.1 hy with hy | hy
                · exact hs y hy
                · obtain rfl := List.mem_singleton.1 hy; exact hqv
              exact ⟨q - 1, by omega, mkSt [] [(b, o.map vi)] (M + 1), le_mkSt (by simp) (by simp) (by simp), o, false, b, M + 1, i + 1, by omega, hO, (fun h => by cases h), (fun _ => ⟨hk, hs1⟩), by omega, rfl, by simp⟩
            · rw [h1] at hA
              rw [h2] at hB
              rw [h3] at hC
              have hqv : rdQ L o a = false := by unfold rdQ; rw [hcd, h1, h2, h3]; rfl
              repeat' first | refine aw_N [8] (And.intro @hlt (And.intro @hlti (And.intro @hn (And.intro @hng @hnv)))) (And.intro @hf (And.intro @hA trivial)) ?_ | refine aw_cond rfl (fun h => ?_) (fun h => ?_)
              refine awl_lend [] rfl rfl rfl (by kernel_rfl) rfl (args' := [.vsl (o.map vi), vi a]) (by simp [clo, clo1, clo0, List.take_of_length_le]) hB (by simp) (by simp) ?_
              simp -implicitDefEqProofs
              repeat' first | refine aw_N [8] (And.intro @hlt (And.intro @hlti (And.intro @hn (And.intro @hng @hnv)))) trivial ?_ | refine aw_cond rfl (fun h => ?_) (fun h => ?_)
              refine awl_lend [] rfl rfl rfl (by kernel_rfl) rfl (args' := [.vsl (lks L), .agg [vi a, .vsl (l.map vi)], .vsl ((cycL L).map vi), .vsl (o.map vi)]) (by simp [clo, clo1, clo0, List.take_of_length_le]) hC (by simp) (by simp) ?_
              simp -implicitDefEqProofs
              repeat' first | refine aw_N [8] (And.intro @hlt (And.intro @hlti (And.intro @hn (And.intro @hng (And.intro @hnv @wi))))) trivial ?_ | refine aw_cond rfl (fun h => ?_) (fun h => ?_)
              have hs1 : ∀ y ∈ (nodesL L).take (i + 1), rdQ L o y = false := by
                rw [List.take_add_one, hng, Option.toList_some]
                intro y hy
                rcases List.mem_append.1 hy with hy | hy
                · exact hs y hy
                · obtain rfl := List.mem_singleton.1 hy; exact hqv
              exact ⟨q - 1, by omega, mkSt [] [(b, o.map vi)] (M + 1), le_mkSt (by simp) (by simp) (by simp), o, false, b, M + 1, i + 1, by omega, hO, (fun h => by cases h), (fun _ => ⟨hk, hs1⟩), by omega, rfl, by simp⟩
            · rw [h1] at hA
              rw [h2] at hB
              rw [h3] at hC
              have hqv : rdQ L o a = false := by unfold rdQ; rw [hcd, h1, h2, h3]; rfl
              repeat' first | refine aw_N [8] (And.intro @hlt (And.intro @hlti (And.intro @hn (And.intro @hng @hnv)))) (And.intro @hf (And.intro @hA trivial)) ?_ | refine aw_cond rfl (fun h => ?_) (fun h => ?_)
              refine awl_lend [] rfl rfl rfl (by kernel_rfl) rfl (args' := [.vsl (o.map vi), vi a]) (by simp [clo, clo1, clo0, List.take_of_length_le]) hB (by simp) (by simp) ?_
              simp -implicitDefEqProofs
              repeat' first | refine aw_N [8] (And.intro @hlt (And.intro @hlti (And.intro @hn (And.intro @hng @hnv)))) trivial ?_ | refine aw_cond rfl (fun h => ?_) (fun h => ?_)
              refine awl_lend [] rfl rfl rfl (by kernel_rfl) rfl (args' := [.vsl (lks L), .agg [vi a, .vsl (l.map vi)], .vsl ((cycL L).map vi), .vsl (o.map vi)]) (by simp [clo, clo1, clo0, List.take_of_length_le]) hC (by simp) (by simp) ?_
              simp -implicitDefEqProofs
              repeat' first | refine aw_N [8] (And.intro @hlt (And.intro @hlti (And.intro @hn (And.intro @hng (And.intro @hnv @wi))))) trivial ?_ | refine aw_cond rfl (fun h => ?_) (fun h => ?_)
              have hs1 : ∀ y ∈ (nodesL L).take (i + 1), rdQ L o y = false := by
                rw [List.take_add_one, hng, Option.toList_some]
                intro y hy
                rcases List.mem_append.1 hy with hy | hy
                · exact hs y hy
                · obtain rfl := List.mem_singleton.1 hy; exact hqv
              exact ⟨q - 1, by omega, mkSt [] [(b, o.map vi)] (M + 1), le_mkSt (by simp) (by simp) (by simp), o, false, b, M + 1, i + 1, by omega, hO, (fun h => by cases h), (fun _ => ⟨hk, hs1⟩), by omega, rfl, by simp⟩
        · have hlti : ¬ (i : Int) < (nodesL L).length := by omega
          repeat' first | refine aw_N [8] (And.intro @hlti @hnv) trivial ?_ | refine aw_cond rfl (fun h => ?_) (fun h => ?_)
          refine ⟨L.length - o.length + (if m = true then 1 else 0), ?_, mkSt [] [(b, o.map vi)] M, le_mkSt (by simp) (by simp) (by simp), o, m, b, M, rfl, hO, fun e => ?_, hbM, rfl, by simp⟩
          · cases m
            · have := (hm2 rfl).1; simp; omega
            · have := hm1 rfl; simp; omega
          · have := (hm2 e).2
            rw [List.take_of_length_le (by omega)] at this
            exact rdyL_none this
end Go.AL
/-! Contracts: gridironref12's May, gridironref09.Ints, gridironlaw12's fits, of, has. -/
namespace Go.AL
open Go.Proofs
set_option linter.unusedSimpArgs false
set_option linter.unusedVariables false
set_option maxHeartbeats 8000000 in
set_option maxRecDepth 100000 in
theorem rints_ok (l l2 : List Int) (h : l.length ≤ 1000000) (h2 : l2.length ≤ 1000000) : APure Try.prog 10 [.vsl (l.map vi), .vsl (l2.map vi)] (vb (decide (l = l2))) := by
  have hvl : (l.map vi).length = l.length := List.length_map _
  have hvl2 : (l2.map vi).length = l2.length := List.length_map _
  by_cases hlen : l.length = l2.length
  · have hleni : (l.length : Int) = l2.length := by omega
    refine apure_in Try.func10 Try.ntmps10 rfl ?_
    repeat' first | refine aw_W [] (And.intro @hlen (And.intro @hleni (And.intro @hvl @hvl2))) trivial ?_ | refine aw_cond rfl (fun h => ?_) (fun h => ?_)
    refine aw_loopW [0, 1, 5] (fun q fr σ => ∃ i M : Nat, i + q = l.length ∧ l.take i = l2.take i ∧ σ = mkSt [] [] M ∧ fr = frm 26 [(0, .vsl (l.map vi)), (1, .vsl (l2.map vi)), (5, vi (i : Nat))]) l.length ?_ ?_
    · exact ⟨mkSt [] [] 0, le_mkSt (by simp) (by simp) (by simp [σ0]), 0, 0, by omega, by simp, rfl, by simp⟩
    · rintro q fr σ ⟨i, M, hi, hx, rfl, rfl⟩
      simp -implicitDefEqProofs
      by_cases hlt : i < l.length
      · have hlti : (i : Int) < l.length := by omega
        have hlt2 : i < l2.length := by omega
        have hlti2 : (i : Int) < l2.length := by omega
        obtain ⟨t, ht⟩ : ∃ t, l[i] = t := ⟨_, rfl⟩
        have hgt : l[i]? = some t := by rw [List.getElem?_eq_getElem hlt, ht]
        obtain ⟨t2, ht2⟩ : ∃ t, l2[i] = t := ⟨_, rfl⟩
        have hgt2 : l2[i]? = some t2 := by rw [List.getElem?_eq_getElem hlt2, ht2]
        have wi : IntKind.i64.wrap ((i : Int) + 1) = (i : Int) + 1 := wrap_id (by omega) (by omega)
        by_cases hv : t = t2
        · have hx1 : l.take (i + 1) = l2.take (i + 1) := by rw [List.take_add_one, List.take_add_one, hx, hgt, hgt2, hv]
          repeat' first | refine aw_W [] (And.intro @hlt (And.intro @hlti (And.intro @hlt2 (And.intro @hlti2 (And.intro @ht (And.intro @ht2 (And.intro @hgt (And.intro @hgt2 (And.intro @hvl (And.intro @hvl2 (And.intro @wi @hv))))))))))) trivial ?_ | refine aw_cond rfl (fun h => ?_) (fun h => ?_)
          all_goals first | exact ⟨q - 1, by omega, mkSt [] [] M, le_mkSt (by simp) (by simp) (by simp), i + 1, by omega, hx1, ⟨M, rfl⟩, by simp⟩ | trace_state
        · have hne : ¬ l = l2 := fun e => by rw [e, hgt2] at hgt; exact hv (Option.some.inj hgt).symm
          rw [decide_eq_false hne]
          repeat' first | refine aw_W [] (And.intro @hlt (And.intro @hlti (And.intro @hlt2 (And.intro @hlti2 (And.intro @ht (And.intro @ht2 (And.intro @hgt (And.intro @hgt2 (And.intro @hvl (And.intro @hvl2 (And.intro @wi @hv))))))))))) trivial ?_ | refine aw_cond rfl (fun h => ?_) (fun h => ?_)
          all_goals first | rfl | (simp [tupOf]; done) | trace_state
      · have hlti : ¬ (i : Int) < l.length := by omega
        rw [List.take_of_length_le (by omega), List.take_of_length_le (by omega)] at hx
        rw [decide_eq_true hx]
        repeat' first | refine aw_W [] (And.intro @hlti @hvl) trivial ?_ | refine aw_cond rfl (fun h => ?_) (fun h => ?_)
        all_goals first | rfl | (simp [tupOf]; done) | trace_state
  · have hne : ¬ l = l2 := fun e => hlen (by rw [e])
    have hleni : ¬ (l.length : Int) = l2.length := by omega
    rw [decide_eq_false hne]
    refine apure_in Try.func10 Try.ntmps10 rfl ?_
    repeat' first | refine aw_W [] (And.intro @hlen (And.intro @hleni (And.intro @hvl @hvl2))) trivial ?_ | refine aw_cond rfl (fun h => ?_) (fun h => ?_)
    all_goals first | rfl | (simp [tupOf]; done) | trace_state
def lfits (L : List Lnk) : Bool := decide (L.length ≤ 60) && L.all fun p => decide (p.2.length ≤ 60)
set_option maxHeartbeats 8000000 in
set_option maxRecDepth 100000 in
theorem lfits12_ok (L : List Lnk) : APure Try.prog 5 [.vsl (lks L)] (vb (lfits L)) := by
  have hvl := lks_len L
  unfold lfits
  by_cases hlen : L.length ≤ 60
  · have hleni : ¬ (60 : Int) < L.length := by omega
    have hlenn : ¬ 60 < L.length := by omega
    rw [decide_eq_true hlen]
    simp only [Bool.true_and]
    refine apure_in Try.func5 Try.ntmps5 rfl ?_
    repeat' first | refine aw_N [] (And.intro @hleni (And.intro @hlenn @hvl)) trivial ?_ | refine aw_cond rfl (fun h => ?_) (fun h => ?_)
    refine aw_loopW [0, 3] (fun q fr σ => ∃ i M : Nat, i + q = L.length ∧ (∀ p ∈ L.take i, p.2.length ≤ 60) ∧ σ = mkSt [] [] M ∧ fr = frm 20 [(0, .vsl (lks L)), (3, vi (i : Nat))]) L.length ?_ ?_
    · exact ⟨mkSt [] [] 0, le_mkSt (by simp) (by simp) (by simp [σ0]), 0, 0, by omega, by simp, rfl, by simp⟩
    · rintro q fr σ ⟨i, M, hi, hx, rfl, rfl⟩
      simp -implicitDefEqProofs
      by_cases hlt : i < L.length
      · have hlti : (i : Int) < L.length := by omega
        obtain ⟨a, l, hp⟩ : ∃ a l, L[i]? = some (a, l) := ⟨_, _, List.getElem?_eq_getElem hlt⟩
        have hg := lks_get hp
        have hla : i < (lks L).length := by rw [hvl]; exact hlt
        obtain ⟨_, hgl⟩ := List.getElem?_eq_some_iff.1 hg
        have wi : IntKind.i64.wrap ((i : Int) + 1) = (i : Int) + 1 := wrap_id (by omega) (by omega)
        by_cases hv : l.length ≤ 60
        · have hx1 : ∀ p ∈ L.take (i + 1), p.2.length ≤ 60 := by
            rw [List.take_add_one, hp, Option.toList_some]
            intro y hy
            rcases List.mem_append.1 hy with hy | hy
            · exact hx y hy
            · obtain rfl := List.mem_singleton.1 hy; exact hv
          have hvi : ¬ (60 : Int) < l.length := by omega
          have hvn : ¬ 60 < l.length := by omega
          repeat' first | refine aw_N [] (And.intro @hlt (And.intro @hlti (And.intro @hla (And.intro @hg (And.intro @hgl (And.intro @hvl (And.intro @wi (And.intro @hvi @hvn)))))))) trivial ?_ | refine aw_cond rfl (fun h => ?_) (fun h => ?_)
          exact ⟨q - 1, by omega, mkSt [] [] M, le_mkSt (by simp) (by simp) (by simp), i + 1, by omega, (fun x y h => hx1 (x, y) h), ⟨M, rfl⟩, by simp⟩
        · have hm : (L.all fun p => decide (p.2.length ≤ 60)) = false := by
            rw [List.all_eq_false]
            exact ⟨_, List.mem_of_getElem? hp, by simpa using hv⟩
          have hvi : (60 : Int) < l.length := by omega
          have hvn : 60 < l.length := by omega
          rw [hm]
          repeat' first | refine aw_N [] (And.intro @hlt (And.intro @hlti (And.intro @hla (And.intro @hg (And.intro @hgl (And.intro @hvl (And.intro @wi (And.intro @hvi @hvn)))))))) trivial ?_ | refine aw_cond rfl (fun h => ?_) (fun h => ?_)
          all_goals first | rfl | (simp [tupOf]; done) | trace_state
      · have hlti : ¬ (i : Int) < L.length := by omega
        rw [List.take_of_length_le (by omega)] at hx
        have hm : (L.all fun p => decide (p.2.length ≤ 60)) = true := List.all_eq_true.2 fun p hp => decide_eq_true (hx p hp)
        rw [hm]
        repeat' first | refine aw_N [] (And.intro @hlti @hvl) trivial ?_ | refine aw_cond rfl (fun h => ?_) (fun h => ?_)
        all_goals first | rfl | (simp [tupOf]; done) | trace_state
  · have hleni : (60 : Int) < L.length := by omega
    have hlenn : 60 < L.length := by omega
    rw [decide_eq_false hlen]
    simp only [Bool.false_and]
    refine apure_in Try.func5 Try.ntmps5 rfl ?_
    repeat' first | refine aw_N [] (And.intro @hleni (And.intro @hlenn @hvl)) trivial ?_ | refine aw_cond rfl (fun h => ?_) (fun h => ?_)
    all_goals first | rfl | (simp [tupOf]; done) | trace_state
set_option maxHeartbeats 8000000 in
set_option maxRecDepth 100000 in
theorem lof12_ok (L : List Lnk) (hL : L.length ≤ 1000000) : APure Try.prog 8 [.vsl (lks L)] (.vsl (lks L)) := by
  have hvl := lks_len L
  refine apure_in Try.func8 Try.ntmps8 rfl ?_
  repeat' first | refine aw_W [] trivial trivial ?_ | refine aw_cond rfl (fun h => ?_) (fun h => ?_)
  refine aw_nilH (i := 3) rfl ?_
  simp -implicitDefEqProofs only [List.set]
  refine aw_loopW [0, 3, 4] (fun q fr σ => ∃ i b M : Nat, i + q = L.length ∧ b < M ∧ σ = mkSt [] [(b, lks (L.take i))] M ∧ fr = frm 26 [(0, .vsl (lks L)), (3, .hsl b 0 i), (4, vi (i : Nat))]) L.length ?_ ?_
  · exact ⟨mkSt [] [(0, [])] 1, le_mkSt (by simp [ASt.addSl, σ0]) (by simp [ASt.addSl, σ0]) (by simp [ASt.addSl, σ0]), 0, 0, 1, by omega, by omega, by simp [lks], by simp⟩
  · rintro q fr σ ⟨i, b, M, hi, hbM, rfl, rfl⟩
    simp -implicitDefEqProofs
    have hil : i ≤ L.length := by omega
    have hti : (lks (L.take i)).length = i := by rw [lks_len, List.length_take]; omega
    have hsu : lks (L.take (i + 1)) = lks (L.take i) ++ (L[i]?.map lnk).toList := by
      unfold lks
      rw [List.take_add_one, List.map_append]
      cases L[i]? <;> rfl
    by_cases hlt : i < L.length
    · have hlti : (i : Int) < L.length := by omega
      obtain ⟨a, l, hp⟩ : ∃ a l, L[i]? = some (a, l) := ⟨_, _, List.getElem?_eq_getElem hlt⟩
      have hg := lks_get hp
      have hla : i < (lks L).length := by rw [hvl]; exact hlt
      obtain ⟨_, hgl⟩ := List.getElem?_eq_some_iff.1 hg
      have wi : IntKind.i64.wrap ((i : Int) + 1) = (i : Int) + 1 := wrap_id (by omega) (by omega)
      rw [hp] at hsu
      repeat' first | refine aw_W [] (And.intro @hlt (And.intro @hlti (And.intro @hla (And.intro @hg (And.intro @hgl (And.intro @hvl @wi)))))) trivial ?_ | refine aw_cond rfl (fun h => ?_) (fun h => ?_)
      refine zl_append (by simp) rfl rfl rfl (xs := lks (L.take i)) (by simp) (by omega) rfl (by simp) te30 tet30 tz55 rfl ?_ (by simp) (by simp; omega) (by simp; omega) ?_
      · intro y hy
        obtain ⟨p, _, rfl⟩ := List.mem_map.1 hy
        rfl
      simp -implicitDefEqProofs
      repeat' first | refine aw_W [] @wi trivial ?_ | refine aw_cond rfl (fun h => ?_) (fun h => ?_)
      have hlk : lnk (a, l) = .agg [vi a, .vsl (l.map vi)] := rfl
      exact ⟨q - 1, by omega, mkSt [] [(M, lks (L.take (i + 1)))] (M + 1), le_mkSt (by simp) (by simp [hsu, hlk, List.take_of_length_le, hti, ASt.addSl]) (by simp [ASt.addSl]), i + 1, by omega, M, M + 1, by omega, rfl, by simp⟩
    · have hlti : ¬ (i : Int) < L.length := by omega
      obtain rfl : i = L.length := by omega
      rw [List.take_length] at hti ⊢
      repeat' first | refine aw_V [] (And.intro @hlti @hvl) trivial ?_ | refine aw_cond rfl (fun h => ?_) (fun h => ?_)
      all_goals first | (simp [tupOf, hti, hvl, List.take_of_length_le]; done) | trace_state
end Go.AL
/-! Contract: gridironref12's May. -/
namespace Go.AL
open Go.Proofs
set_option linter.unusedSimpArgs false
set_option linter.unusedVariables false
def MyI1 (L : List Lnk) (q : Nat) (fr : List AV) (σ : ASt) : Prop := ∃ i M : Nat, i + q = L.length ∧ (∀ p ∈ L.take i, okLk p = true) ∧ σ = mkSt [] [] M ∧ fr = frm 79 [(0, .vsl (lks L)), (3, vi (i : Nat))]
def MyI2 (L : List Lnk) (i : Nat) (l : List Int) (q : Nat) (fr : List AV) (σ : ASt) : Prop := ∃ j M : Nat, j + q = l.length ∧ (∀ x ∈ l.take j, fitsG x = true) ∧ σ = mkSt [] [] M ∧ fr = frm 79 [(0, .vsl (lks L)), (3, vi (i : Nat)), (4, vi (j : Nat))]
def MyI3 (L : List Lnk) (q : Nat) (fr : List AV) (σ : ASt) : Prop := ∃ i M : Nat, i + q = L.length ∧ ((L.take i).map Prod.fst).Nodup ∧ σ = mkSt [] [] M ∧ fr = frm 79 [(0, .vsl (lks L)), (5, vi (i : Nat))]
def MyI4 (L : List Lnk) (i : Nat) (a : Int) (q : Nat) (fr : List AV) (σ : ASt) : Prop := ∃ j M : Nat, j + q = i ∧ a ∉ (L.take j).map Prod.fst ∧ σ = mkSt [] [] M ∧ fr = frm 79 [(0, .vsl (lks L)), (5, vi (i : Nat)), (6, vi (j : Nat))]
theorem newR_arg {L : List Lnk} {p : Lnk} (hp : p ∈ L) (h : okLk p = false) : newR L = 1 := by
  unfold newR
  rw [if_pos]
  rw [List.all_eq_false]
  exact ⟨p, hp, by simp [h]⟩
theorem newR_ok {L : List Lnk} (h : ∀ p ∈ L, okLk p = true) : newR L = if (L.map Prod.fst).Nodup then 0 else 5 := by
  unfold newR
  rw [if_neg]
  rw [List.all_eq_true.2 h]; decide
theorem fitsG_iff {n : Int} : fitsG n = true ↔ 0 ≤ n ∧ n < 1024 := by simp [fitsG]
set_option maxHeartbeats 16000000 in
set_option maxRecDepth 100000 in
theorem rmay12_ok (L : List Lnk) (hL : L.length ≤ 1000000) (hr : ∀ p ∈ L, p.2.length ≤ 1000000) : APure Try.prog 9 [.vsl (lks L)] (vi (newR L)) := by
  have hvl := lks_len L
  refine apure_in Try.func9 Try.ntmps9 rfl ?_
  repeat' first | refine aw_W [] trivial trivial ?_ | refine aw_cond rfl (fun h => ?_) (fun h => ?_)
  refine aw_loopW [0, 3] (fun q fr σ => MyI1 L q fr σ) L.length ?_ ?_
  · exact ⟨mkSt [] [] 0, le_mkSt (by simp) (by simp) (by simp [σ0]), 0, 0, by omega, by simp, rfl, by simp⟩
  · rintro q fr σ ⟨i, M, hi, hx, rfl, rfl⟩
    simp -implicitDefEqProofs
    by_cases hlt : i < L.length
    · have hlti : (i : Int) < L.length := by omega
      obtain ⟨a, l, hp⟩ : ∃ a l, L[i]? = some (a, l) := ⟨_, _, List.getElem?_eq_getElem hlt⟩
      have hpm := List.mem_of_getElem? hp
      have hg := lks_get hp
      have hla : i < (lks L).length := by rw [hvl]; exact hlt
      obtain ⟨_, hgl⟩ := List.getElem?_eq_some_iff.1 hg
      have wi : IntKind.i64.wrap ((i : Int) + 1) = (i : Int) + 1 := wrap_id (by omega) (by omega)
      have hlv : (l.map vi).length = l.length := List.length_map _
      have hll := hr _ hpm
      simp only at hll
      by_cases ha : a < 0
      · have hres : newR L = 1 := newR_arg hpm (by simp [okLk, fitsG]; omega)
        rw [hres]
        repeat' first | refine aw_W [] (And.intro @hlt (And.intro @hlti (And.intro @hla (And.intro @hg (And.intro @hgl (And.intro @hvl @ha)))))) trivial ?_ | refine aw_cond rfl (fun h => ?_) (fun h => ?_)
        all_goals first | rfl | (simp [tupOf]; done) | trace_state
      · by_cases hb : 1023 < a
        · have hres : newR L = 1 := newR_arg hpm (by simp [okLk, fitsG]; omega)
          rw [hres]
          repeat' first | refine aw_W [] (And.intro @hlt (And.intro @hlti (And.intro @hla (And.intro @hg (And.intro @hgl (And.intro @hvl (And.intro @ha @hb))))))) trivial ?_ | refine aw_cond rfl (fun h => ?_) (fun h => ?_)
          all_goals first | rfl | (simp [tupOf]; done) | trace_state
        · have hfa : fitsG a = true := fitsG_iff.2 ⟨by omega, by omega⟩
          repeat' first | refine aw_W [] (And.intro @hlt (And.intro @hlti (And.intro @hla (And.intro @hg (And.intro @hgl (And.intro @hvl (And.intro @ha @hb))))))) trivial ?_ | refine aw_cond rfl (fun h => ?_) (fun h => ?_)
          refine aw_loopW [0, 3, 4] (fun q fr σ => MyI2 L i l q fr σ) l.length ?_ ?_
          · exact ⟨mkSt [] [] M, le_mkSt (by simp) (by simp) (by simp), 0, M, by omega, by simp, rfl, by simp⟩
          · clear M
            rintro q2 fr σ ⟨j, M, hj, hxj, rfl, rfl⟩
            simp -implicitDefEqProofs
            by_cases hltj : j < l.length
            · have hltji : (j : Int) < l.length := by omega
              obtain ⟨t, ht⟩ : ∃ t, l[j] = t := ⟨_, rfl⟩
              have hgt : l[j]? = some t := by rw [List.getElem?_eq_getElem hltj, ht]
              have wj : IntKind.i64.wrap ((j : Int) + 1) = (j : Int) + 1 := wrap_id (by omega) (by omega)
              by_cases ht0 : t < 0
              · have hres : newR L = 1 := newR_arg hpm (by
                  unfold okLk
                  rw [Bool.and_eq_false_iff]
                  refine .inr (List.all_eq_false.2 ⟨t, List.mem_of_getElem? hgt, ?_⟩)
                  rw [fitsG_iff]; omega)
                rw [hres]
                repeat' first | refine aw_W [] (And.intro @hlt (And.intro @hlti (And.intro @hla (And.intro @hg (And.intro @hgl (And.intro @hvl (And.intro @hltj (And.intro @hltji (And.intro @ht (And.intro @hgt (And.intro @hlv @ht0))))))))))) trivial ?_ | refine aw_cond rfl (fun h => ?_) (fun h => ?_)
                all_goals first | rfl | (simp [tupOf]; done) | trace_state
              · by_cases ht1 : 1023 < t
                · have hres : newR L = 1 := newR_arg hpm (by
                    unfold okLk
                    rw [Bool.and_eq_false_iff]
                    refine .inr (List.all_eq_false.2 ⟨t, List.mem_of_getElem? hgt, ?_⟩)
                    rw [fitsG_iff]; omega)
                  rw [hres]
                  repeat' first | refine aw_W [] (And.intro @hlt (And.intro @hlti (And.intro @hla (And.intro @hg (And.intro @hgl (And.intro @hvl (And.intro @hltj (And.intro @hltji (And.intro @ht (And.intro @hgt (And.intro @hlv (And.intro @ht0 @ht1)))))))))))) trivial ?_ | refine aw_cond rfl (fun h => ?_) (fun h => ?_)
                  all_goals first | rfl | (simp [tupOf]; done) | trace_state
                · have hxj1 : ∀ x ∈ l.take (j + 1), fitsG x = true := by
                    rw [List.take_add_one, hgt, Option.toList_some]
                    intro y hy
                    rcases List.mem_append.1 hy with hy | hy
                    · exact hxj y hy
                    · obtain rfl := List.mem_singleton.1 hy; exact fitsG_iff.2 ⟨by omega, by omega⟩
                  repeat' first | refine aw_W [] (And.intro @hlt (And.intro @hlti (And.intro @hla (And.intro @hg (And.intro @hgl (And.intro @hvl (And.intro @hltj (And.intro @hltji (And.intro @ht (And.intro @hgt (And.intro @hlv (And.intro @ht0 (And.intro @ht1 @wj))))))))))))) trivial ?_ | refine aw_cond rfl (fun h => ?_) (fun h => ?_)
                  exact ⟨q2 - 1, by omega, mkSt [] [] M, le_mkSt (by simp) (by simp) (by simp), j + 1, M, by omega, hxj1, rfl, by simp⟩
            · have hltji : ¬ (j : Int) < l.length := by omega
              rw [List.take_of_length_le (by omega)] at hxj
              have hx1 : ∀ p ∈ L.take (i + 1), okLk p = true := by
                rw [List.take_add_one, hp, Option.toList_some]
                intro y hy
                rcases List.mem_append.1 hy with hy | hy
                · exact hx y hy
                · obtain rfl := List.mem_singleton.1 hy
                  unfold okLk
                  rw [Bool.and_eq_true]
                  exact ⟨hfa, List.all_eq_true.2 hxj⟩
              repeat' first | refine aw_W [] (And.intro @hlt (And.intro @hlti (And.intro @hla (And.intro @hg (And.intro @hgl (And.intro @hvl (And.intro @hltji (And.intro @hlv @wi)))))))) trivial ?_ | refine aw_cond rfl (fun h => ?_) (fun h => ?_)
              exact ⟨q - 1, by omega, mkSt [] [] M, le_mkSt (by simp) (by simp) (by simp), i + 1, M, by omega, hx1, rfl, by simp⟩
    · have hlti : ¬ (i : Int) < L.length := by omega
      rw [List.take_of_length_le (by omega)] at hx
      rw [newR_ok hx]
      repeat' first | refine aw_W [] (And.intro @hlti @hvl) trivial ?_ | refine aw_cond rfl (fun h => ?_) (fun h => ?_)
      refine aw_loopW [0, 5] (fun q fr σ => MyI3 L q fr σ) L.length ?_ ?_
      · exact ⟨mkSt [] [] M, le_mkSt (by simp) (by simp) (by simp), 0, M, by omega, by simp, rfl, by simp⟩
      · clear hlti hlt hi hx M i
        rintro q fr σ ⟨i, M, hi, hx, rfl, rfl⟩
        simp -implicitDefEqProofs
        by_cases hlt : i < L.length
        · have hlti : (i : Int) < L.length := by omega
          obtain ⟨a, l, hp⟩ : ∃ a l, L[i]? = some (a, l) := ⟨_, _, List.getElem?_eq_getElem hlt⟩
          have hg := lks_get hp
          have hla : i < (lks L).length := by rw [hvl]; exact hlt
          obtain ⟨_, hgl⟩ := List.getElem?_eq_some_iff.1 hg
          have wi : IntKind.i64.wrap ((i : Int) + 1) = (i : Int) + 1 := wrap_id (by omega) (by omega)
          repeat' first | refine aw_W [] (And.intro @hlt (And.intro @hlti (And.intro @hla (And.intro @hg (And.intro @hgl @hvl))))) trivial ?_ | refine aw_cond rfl (fun h => ?_) (fun h => ?_)
          refine aw_loopW [0, 5, 6] (fun q fr σ => MyI4 L i a q fr σ) i ?_ ?_
          · exact ⟨mkSt [] [] M, le_mkSt (by simp) (by simp) (by simp), 0, M, by omega, by simp, rfl, by simp⟩
          · clear M
            rintro q2 fr σ ⟨j, M, hj, hxj, rfl, rfl⟩
            simp -implicitDefEqProofs
            by_cases hltj : j < i
            · have hltji : (j : Int) < i := by omega
              obtain ⟨a2, l2, hp2⟩ : ∃ a l, L[j]? = some (a, l) := ⟨_, _, List.getElem?_eq_getElem (by omega)⟩
              have hg2 := lks_get hp2
              have hla2 : j < (lks L).length := by rw [hvl]; omega
              have hjl : (j : Int) < L.length := by omega
              have hjn : j < L.length := by omega
              obtain ⟨_, hgl2⟩ := List.getElem?_eq_some_iff.1 hg2
              have wj : IntKind.i64.wrap ((j : Int) + 1) = (j : Int) + 1 := wrap_id (by omega) (by omega)
              by_cases he : a2 = a
              · have hnn : ¬ (L.map Prod.fst).Nodup := fun hn => by
                  have h1 : (L.map Prod.fst)[j]? = some a := by rw [List.getElem?_map, hp2, ← he]; rfl
                  have h2 : (L.map Prod.fst)[i]? = some a := by rw [List.getElem?_map, hp]; rfl
                  obtain ⟨h3, h4⟩ := List.getElem?_eq_some_iff.1 h1
                  obtain ⟨h5, h6⟩ := List.getElem?_eq_some_iff.1 h2
                  exact (List.pairwise_iff_getElem.1 hn) j i h3 h5 hltj (h4.trans h6.symm)
                rw [if_neg hnn]
                repeat' first | refine aw_W [] (And.intro @hlt (And.intro @hlti (And.intro @hla (And.intro @hg (And.intro @hgl (And.intro @hvl (And.intro @hltj (And.intro @hltji (And.intro @hjl (And.intro @hjn (And.intro @hla2 (And.intro @hg2 (And.intro @hgl2 @he))))))))))))) trivial ?_ | refine aw_cond rfl (fun h => ?_) (fun h => ?_)
                all_goals first | rfl | (simp [tupOf]; done) | trace_state
              · have hxj1 : a ∉ (L.take (j + 1)).map Prod.fst := by
                  rw [List.take_add_one, hp2, Option.toList_some, List.map_append]
                  intro h
                  rcases List.mem_append.1 h with h | h
                  · exact hxj h
                  · simp at h; exact he h.symm
                repeat' first | refine aw_W [] (And.intro @hlt (And.intro @hlti (And.intro @hla (And.intro @hg (And.intro @hgl (And.intro @hvl (And.intro @hltj (And.intro @hltji (And.intro @hjl (And.intro @hjn (And.intro @hla2 (And.intro @hg2 (And.intro @hgl2 (And.intro @he @wj)))))))))))))) trivial ?_ | refine aw_cond rfl (fun h => ?_) (fun h => ?_)
                exact ⟨q2 - 1, by omega, mkSt [] [] M, le_mkSt (by simp) (by simp) (by simp), j + 1, M, by omega, hxj1, rfl, by simp⟩
            · have hltji : ¬ (j : Int) < i := by omega
              obtain rfl : j = i := by omega
              have hx1 : ((L.take (j + 1)).map Prod.fst).Nodup := by
                rw [List.take_add_one, hp, Option.toList_some, List.map_append, List.nodup_append]
                refine ⟨hx, by simp, fun x hx y hy => ?_⟩
                simp at hy
                subst hy
                exact fun e => hxj (e ▸ hx)
              repeat' first | refine aw_W [] (And.intro @hltji @wi) trivial ?_ | refine aw_cond rfl (fun h => ?_) (fun h => ?_)
              exact ⟨q - 1, by omega, mkSt [] [] M, le_mkSt (by simp) (by simp) (by simp), j + 1, M, by omega, hx1, rfl, by simp⟩
        · have hlti : ¬ (i : Int) < L.length := by omega
          rw [List.take_of_length_le (by omega)] at hx
          rw [if_pos hx]
          repeat' first | refine aw_W [] (And.intro @hlti @hvl) trivial ?_ | refine aw_cond rfl (fun h => ?_) (fun h => ?_)
          all_goals first | rfl | (simp [tupOf]; done) | trace_state
end Go.AL
