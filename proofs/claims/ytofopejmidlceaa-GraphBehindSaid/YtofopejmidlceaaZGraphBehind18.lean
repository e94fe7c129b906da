/- Parts of the proof of GraphBehind: the logic, contracts, plain laws. -/
import Derived.Test.YtofopejmidlceaaZGraphBehind17
/-! GraphBehind. -/
namespace Go.AL
open Go.Proofs
set_option linter.unusedSimpArgs false
set_option linter.unusedVariables false
def GbI1 (L : List Lnk) (n : Int) (q : Nat) (fr : List AV) (σ : ASt) : Prop := ∃ i M : Nat, i + q = L.length ∧ σ = mkSt [] [] M ∧ fr = frm 205 [(0, .vsl (lks L)), (1, .p (.int .u16 n)), (6, gV L), (8, .vsl ((ordL L).map vi)), (9, .vsl ((cycL L).map vi)), (10, .vsl ((nodesL L).map vi)), (11, vi (i : Nat))]
def GbI2 (L : List Lnk) (n : Int) (i : Nat) (a : Int) (l : List Int) (q : Nat) (fr : List AV) (σ : ASt) : Prop := ∃ k M : Nat, k + q = l.length ∧ σ = mkSt [] [] M ∧ fr = frm 205 [(0, .vsl (lks L)), (1, .p (.int .u16 n)), (6, gV L), (8, .vsl ((ordL L).map vi)), (9, .vsl ((cycL L).map vi)), (10, .vsl ((nodesL L).map vi)), (11, vi (i : Nat)), (13, vi (plc a (ordL L))), (16, vi (k : Nat))]
def GbI3 (L : List Lnk) (on : Int) (q : Nat) (fr : List AV) (σ : ASt) : Prop := ∃ i M : Nat, i + q = (hangL L [on]).length ∧ σ = mkSt [] [] M ∧ fr = frm 205 [(0, .vsl (lks L)), (6, gV L), (10, .vsl ((nodesL L).map vi)), (17, vi on), (18, .vsl ((hangL L [on]).map vi)), (19, vi (i : Nat))]
def GbI4 (L : List Lnk) (on : Int) (i : Nat) (x : Int) (q : Nat) (fr : List AV) (σ : ASt) : Prop := ∃ k M : Nat, k + q = (hangL L [x]).length ∧ σ = mkSt [] [] M ∧ fr = frm 205 [(0, .vsl (lks L)), (6, gV L), (10, .vsl ((nodesL L).map vi)), (17, vi on), (18, .vsl ((hangL L [on]).map vi)), (19, vi (i : Nat)), (20, .vsl ((hangL L [x]).map vi)), (21, vi (k : Nat))]
def GbI5 (L : List Lnk) (on : Int) (q : Nat) (fr : List AV) (σ : ASt) : Prop := ∃ i M : Nat, i + q = L.length ∧ σ = mkSt [] [] M ∧ fr = frm 205 [(0, .vsl (lks L)), (17, vi on), (18, .vsl ((hangL L [on]).map vi)), (22, vi (i : Nat))]
theorem wf16 {n : Int} (h : (Lit.int .u16 n).wf = true) : 0 ≤ n ∧ n < 65536 := by
  simp [Lit.wf, IntKind.min, IntKind.max, IntKind.signed, IntKind.bits] at h; omega
set_option maxHeartbeats 16000000 in
set_option maxRecDepth 100000 in
theorem graphBehind_ok (L : List Lnk) (n : Int) (hn : 0 ≤ n ∧ n < 65536) : APure Try.prog 4 [.vsl (lks L), .p (.int .u16 n)] (vb true) := by
  have hA := alive12_ok
  have hF := lfits12_ok L
  have hvl := lks_len L
  cases hf : lfits L with
  | false =>
    rw [hf] at hF
    refine apure_in Try.func4 Try.ntmps4 rfl ?_
    repeat' first | refine aw_W [] trivial (And.intro @hF (And.intro @hA trivial)) ?_ | refine aw_cond rfl (fun h => ?_) (fun h => ?_)
    all_goals first | rfl | (simp [tupOf]; done) | trace_state
  | true =>
    rw [hf] at hF
    obtain ⟨hl, hr⟩ := lfits_of hf
    have hN := gnew_ok L (by omega) (fun p hp => by have := hr p hp; omega)
    by_cases h0 : newR L = 0
    · have hL := newR_zero h0 (by omega) (fun p hp => by have := hr p hp; omega)
      rw [if_pos h0] at hN
      have hnl := nodesL_len L
      have hcl : (cycL L).length ≤ 60 := Nat.le_trans (List.length_filter_le _ _) (by omega)
      have hol := (ordL_ok hL.nd).1.len
      have hpl := plainL_len L
      have a1 := gnodes_ok hL
      have b1 := gcyclic_ok hL
      have c1 := gorder_ok hL
      have hsum := ordL_len hL.nd
      have hsumi : IntKind.i64.wrap (((ordL L).length : Int) + (cycL L).length) = L.length := by rw [wrap_id (by omega) (by omega)]; omega
      have hsn : ((ordL L).length : Int) + (cycL L).length = L.length := by omega
      have hv1 : ((ordL L).map vi).length = (ordL L).length := List.length_map _
      have hv2 : ((cycL L).map vi).length = (cycL L).length := List.length_map _
      have hv3 : ((nodesL L).map vi).length = (nodesL L).length := List.length_map _
      have hwL : IntKind.i64.wrap (L.length : Int) = L.length := wrap_id (by omega) (by omega)
      refine apure_in Try.func4 Try.ntmps4 rfl ?_
      repeat' first | refine aw_W [] (And.intro @hvl (And.intro @hv1 (And.intro @hv2 (And.intro @hv3 (And.intro @hnl (And.intro @hsumi (And.intro @hsum (And.intro @hsn @hwL)))))))) (And.intro @hF (And.intro @hN (And.intro @a1 (And.intro @b1 (And.intro @c1 trivial))))) ?_ | refine aw_cond rfl (fun h => ?_) (fun h => ?_)
      refine aw_loopW [0, 1, 6, 8, 9, 10, 11] (fun q fr σ => GbI1 L n q fr σ) L.length ?_ ?_
      · exact ⟨mkSt [] [] 0, le_mkSt (by simp) (by simp) (by simp [σ0]), 0, 0, by omega, rfl, by simp⟩
      · rintro q fr σ ⟨i, M, hi, rfl, rfl⟩
        simp -implicitDefEqProofs
        by_cases hlt : i < L.length
        · have hlti : (i : Int) < L.length := by omega
          obtain ⟨a, l, hp⟩ : ∃ a l, L[i]? = some (a, l) := ⟨_, _, List.getElem?_eq_getElem hlt⟩
          have hpm := List.mem_of_getElem? hp
          have hg := lks_get hp
          have hla : i < (lks L).length := by rw [hvl]; exact hlt
          obtain ⟨_, hgl⟩ := List.getElem?_eq_some_iff.1 hg
          have wi : IntKind.i64.wrap ((i : Int) + 1) = (i : Int) + 1 := wrap_id (by omega) (by omega)
          have hlr := hr _ hpm
          simp only at hlr
          have hh := ghang_ok hL [a] (by simp)
          simp only [List.map_cons, List.map_nil] at hh
          have hhl := hangL_len L [a]
          have p1 := lhas12_ok (ordL L) a (by omega)
          have p2 := lhas12_ok (cycL L) a (by omega)
          have p3 := lhas12_ok (hangL L [a]) a (by omega)
          have p4 := lhas12_ok (nodesL L) a (by omega)
          have hak : a ∈ L.map Prod.fst := List.mem_map.2 ⟨_, hpm, rfl⟩
          have q4 : ¬ plc a (nodesL L) < 0 := by
            rw [plc_neg, nodesL, sortI_mem]; exact fun h => h hak
          have q3 : plc a (hangL L [a]) < 0 ↔ onCyc L a = false := by
            rw [plc_neg, hangL_mem, ← onCyc_iff]; simp
          have q2 : plc a (cycL L) < 0 ↔ onCyc L a = false := by
            rw [plc_neg, mem_cycL]; simp [hak]
          have q1 : plc a (ordL L) < 0 ↔ onCyc L a = true := by
            rw [plc_neg, ordL_mem hL.nd, mem_plainL]; simp [hak]
          have hah : ∀ x ∈ l, a ∈ ordL L → plc x (ordL L) < plc a (ordL L) := fun x hx ho => ord_ahead hL.nd hpm ho hx
          have q1' : ¬ plc a (ordL L) < 0 → a ∈ ordL L := fun h => by
            rw [plc_neg] at h; exact Classical.not_not.1 h
          cases hc : onCyc L a with
          | true =>
            simp [hc] at q1 q2 q3
            have r2 : ¬ plc a (cycL L) < 0 := by omega
            have r3 : ¬ plc a (hangL L [a]) < 0 := by omega
            have r1 : ¬ 0 ≤ plc a (ordL L) := by omega
            repeat' first | refine aw_W [] (And.intro @hlt (And.intro @hlti (And.intro @hla (And.intro @hg (And.intro @hgl (And.intro @hvl (And.intro @q1 (And.intro @r1 (And.intro @r2 (And.intro @r3 @q4)))))))))) (And.intro @hh (And.intro @p1 (And.intro @p2 (And.intro @p3 (And.intro @p4 trivial))))) ?_ | refine aw_cond rfl (fun h => ?_) (fun h => ?_)
            refine aw_loopW [0, 1, 6, 8, 9, 10, 11, 13, 16] (fun q fr σ => GbI2 L n i a l q fr σ) l.length ?_ ?_
            · exact ⟨mkSt [] [] M, le_mkSt (by simp) (by simp) (by simp), 0, M, by omega, rfl, by simp⟩
            · clear M
              rintro q2 fr σ ⟨k, M, hk, rfl, rfl⟩
              simp -implicitDefEqProofs
              by_cases hltk : k < l.length
              · have hltki : (k : Int) < l.length := by omega
                repeat' first | refine aw_W [] (And.intro @hlt (And.intro @hlti (And.intro @hla (And.intro @hg (And.intro @hgl (And.intro @hvl (And.intro @hltk (And.intro @hltki (And.intro @r1 @wi))))))))) trivial ?_ | refine aw_cond rfl (fun h => ?_) (fun h => ?_)
                exact ⟨q - 1, by omega, mkSt [] [] M, le_mkSt (by simp) (by simp) (by simp), i + 1, M, by omega, rfl, by simp⟩
              · have hltki : ¬ (k : Int) < l.length := by omega
                repeat' first | refine aw_W [] (And.intro @hlt (And.intro @hlti (And.intro @hla (And.intro @hg (And.intro @hgl (And.intro @hvl (And.intro @hltk (And.intro @hltki (And.intro @r1 @wi))))))))) trivial ?_ | refine aw_cond rfl (fun h => ?_) (fun h => ?_)
                exact ⟨q - 1, by omega, mkSt [] [] M, le_mkSt (by simp) (by simp) (by simp), i + 1, M, by omega, rfl, by simp⟩
          | false =>
            simp [hc] at q1 q2 q3
            have r1 : ¬ plc a (ordL L) < 0 := by omega
            have ho := q1' r1
            repeat' first | refine aw_W [] (And.intro @hlt (And.intro @hlti (And.intro @hla (And.intro @hg (And.intro @hgl (And.intro @hvl (And.intro @q1 (And.intro @r1 (And.intro @q2 (And.intro @q3 @q4)))))))))) (And.intro @hh (And.intro @p1 (And.intro @p2 (And.intro @p3 (And.intro @p4 trivial))))) ?_ | refine aw_cond rfl (fun h => ?_) (fun h => ?_)
            refine aw_loopW [0, 1, 6, 8, 9, 10, 11, 13, 16] (fun q fr σ => GbI2 L n i a l q fr σ) l.length ?_ ?_
            · exact ⟨mkSt [] [] M, le_mkSt (by simp) (by simp) (by simp), 0, M, by omega, rfl, by simp⟩
            · clear M
              rintro q2 fr σ ⟨k, M, hk, rfl, rfl⟩
              simp -implicitDefEqProofs
              by_cases hltk : k < l.length
              · have hltki : (k : Int) < l.length := by omega
                obtain ⟨x, hx⟩ : ∃ x, l[k] = x := ⟨_, rfl⟩
                have hxg : l[k]? = some x := by rw [List.getElem?_eq_getElem hltk, hx]
                have hxa := hah x (List.mem_of_getElem? hxg) ho
                have hxa' : ¬ plc a (ordL L) ≤ plc x (ordL L) := by omega
                have p5 := lhas12_ok (ordL L) x (by omega)
                have wk : IntKind.i64.wrap ((k : Int) + 1) = (k : Int) + 1 := wrap_id (by omega) (by omega)
                have hlv : (l.map vi).length = l.length := List.length_map _
                repeat' first | refine aw_W [] (And.intro @hlt (And.intro @hlti (And.intro @hla (And.intro @hg (And.intro @hgl (And.intro @hvl (And.intro @hltk (And.intro @hltki (And.intro @hx (And.intro @hxg (And.intro @hlv (And.intro @q1 (And.intro @hxa' @wk))))))))))))) (And.intro @p5 trivial) ?_ | refine aw_cond rfl (fun h => ?_) (fun h => ?_)
                exact ⟨q2 - 1, by omega, mkSt [] [] M, le_mkSt (by simp) (by simp) (by simp), k + 1, M, by omega, rfl, by simp⟩
              · have hltki : ¬ (k : Int) < l.length := by omega
                repeat' first | refine aw_W [] (And.intro @hlt (And.intro @hlti (And.intro @hla (And.intro @hg (And.intro @hgl (And.intro @hvl (And.intro @hltk (And.intro @hltki (And.intro @q1 @wi))))))))) trivial ?_ | refine aw_cond rfl (fun h => ?_) (fun h => ?_)
                exact ⟨q - 1, by omega, mkSt [] [] M, le_mkSt (by simp) (by simp) (by simp), i + 1, M, by omega, rfl, by simp⟩
        · have hlti : ¬ (i : Int) < L.length := by omega
          repeat' first | refine aw_W [] (And.intro @hlti @hvl) trivial ?_ | refine aw_cond rfl (fun h => ?_) (fun h => ?_)
          generalize IntKind.i64.wrap (n.tmod 1024) = on
          clear hlti hlt hi
          have hh := ghang_ok hL [on] (by simp)
          simp only [List.map_cons, List.map_nil] at hh
          have hhl := hangL_len L [on]
          have hhv : ((hangL L [on]).map vi).length = (hangL L [on]).length := List.length_map _
          have hhm := hangL_mem L [on]
          have hhs := hangL_lt hL.nd [on]
          repeat' first | refine aw_W [] trivial (And.intro @hh trivial) ?_ | refine aw_cond rfl (fun h => ?_) (fun h => ?_)
          refine aw_loopW [0, 6, 10, 17, 18, 19] (fun q fr σ => GbI3 L on q fr σ) (hangL L [on]).length ?_ ?_
          · exact ⟨mkSt [] [] M, le_mkSt (by simp) (by simp) (by simp), 0, M, by omega, rfl, by simp⟩
          · clear M
            rintro q fr σ ⟨i, M, hi, rfl, rfl⟩
            simp -implicitDefEqProofs
            by_cases hlt : i < (hangL L [on]).length
            · have hlti : (i : Int) < (hangL L [on]).length := by omega
              obtain ⟨x, hx⟩ : ∃ x, (hangL L [on])[i] = x := ⟨_, rfl⟩
              have hxg : (hangL L [on])[i]? = some x := by rw [List.getElem?_eq_getElem hlt, hx]
              have hxH := (hhm x).1 (List.mem_of_getElem? hxg)
              have wi : IntKind.i64.wrap ((i : Int) + 1) = (i : Int) + 1 := wrap_id (by omega) (by omega)
              have hh2 := ghang_ok hL [x] (by simp)
              simp only [List.map_cons, List.map_nil] at hh2
              have hhl2 := hangL_len L [x]
              have hhv2 : ((hangL L [x]).map vi).length = (hangL L [x]).length := List.length_map _
              have hhm2 := hangL_mem L [x]
              have p4 := lhas12_ok (nodesL L) x (by omega)
              have q4 : ¬ plc x (nodesL L) < 0 := by
                rw [plc_neg, nodesL, sortI_mem]; exact fun h => h hxH.node
              repeat' first | refine aw_W [] (And.intro @hlt (And.intro @hlti (And.intro @hx (And.intro @hxg @hhv)))) (And.intro @hh2 trivial) ?_ | refine aw_cond rfl (fun h => ?_) (fun h => ?_)
              refine aw_loopW [0, 6, 10, 17, 18, 19, 20, 21] (fun q fr σ => GbI4 L on i x q fr σ) (hangL L [x]).length ?_ ?_
              · exact ⟨mkSt [] [] M, le_mkSt (by simp) (by simp) (by simp), 0, M, by omega, rfl, by simp⟩
              · clear M
                rintro q2 fr σ ⟨k, M, hk, rfl, rfl⟩
                simp -implicitDefEqProofs
                by_cases hltk : k < (hangL L [x]).length
                · have hltki : (k : Int) < (hangL L [x]).length := by omega
                  obtain ⟨y, hy⟩ : ∃ y, (hangL L [x])[k] = y := ⟨_, rfl⟩
                  have hyg : (hangL L [x])[k]? = some y := by rw [List.getElem?_eq_getElem hltk, hy]
                  have hyH := (hhm2 y).1 (List.mem_of_getElem? hyg)
                  have p5 := lhas12_ok (hangL L [on]) y (by omega)
                  have q5 : ¬ plc y (hangL L [on]) < 0 := by
                    rw [plc_neg]; exact fun h => h ((hhm y).2 (hyH.trans hxH))
                  have wk : IntKind.i64.wrap ((k : Int) + 1) = (k : Int) + 1 := wrap_id (by omega) (by omega)
                  repeat' first | refine aw_W [] (And.intro @hltk (And.intro @hltki (And.intro @hy (And.intro @hyg (And.intro @hhv2 (And.intro @q5 @wk)))))) (And.intro @p5 trivial) ?_ | refine aw_cond rfl (fun h => ?_) (fun h => ?_)
                  exact ⟨q2 - 1, by omega, mkSt [] [] M, le_mkSt (by simp) (by simp) (by simp), k + 1, M, by omega, rfl, by simp⟩
                · have hltki : ¬ (k : Int) < (hangL L [x]).length := by omega
                  rcases Nat.eq_zero_or_pos i with hi0 | hi0
                  · subst hi0
                    have w1 : IntKind.i64.wrap 1 = 1 := wrap_id (by omega) (by omega)
                    repeat' first | refine aw_W [] (And.intro @hltki (And.intro @hhv2 (And.intro @hlt (And.intro @hlti (And.intro @hx (And.intro @hxg (And.intro @hhv (And.intro @q4 @w1)))))))) (And.intro @p4 trivial) ?_ | refine aw_cond rfl (fun h => ?_) (fun h => ?_)
                    exact ⟨q - 1, by omega, mkSt [] [] M, le_mkSt (by simp) (by simp) (by simp), 1, M, by omega, rfl, by simp [w1]⟩
                  · obtain ⟨j, hij⟩ : ∃ j, i = j + 1 := ⟨i - 1, by omega⟩
                    have hlj : j < (hangL L [on]).length := by omega
                    have hlji : (j : Int) < (hangL L [on]).length := by omega
                    obtain ⟨z, hz⟩ : ∃ z, (hangL L [on])[j] = z := ⟨_, rfl⟩
                    have hzg : (hangL L [on])[j]? = some z := by rw [List.getElem?_eq_getElem hlj, hz]
                    have hzx : z < x := by
                      rw [← hz, ← hx]
                      exact (List.pairwise_iff_getElem.1 hhs) j i hlj hlt (by omega)
                    have hzx' : ¬ x ≤ z := by omega
                    have hj0 : (0 : Int) < (i : Int) := by omega
                    have hjw : IntKind.i64.wrap ((i : Int) - 1) = (j : Int) := by rw [wrap_id (by omega) (by omega)]; omega
                    clear hij
                    repeat' first | refine aw_W [] (And.intro @hltki (And.intro @hhv2 (And.intro @hlt (And.intro @hlti (And.intro @hx (And.intro @hxg (And.intro @hhv (And.intro @q4 (And.intro @wi (And.intro @hlj (And.intro @hlji (And.intro @hz (And.intro @hzg (And.intro @hzx' (And.intro @hi0 (And.intro @hj0 @hjw)))))))))))))))) (And.intro @p4 trivial) ?_ | refine aw_cond rfl (fun h => ?_) (fun h => ?_)
                    exact ⟨q - 1, by omega, mkSt [] [] M, le_mkSt (by simp) (by simp) (by simp), i + 1, M, by omega, rfl, by simp⟩
            · have hlti : ¬ (i : Int) < (hangL L [on]).length := by omega
              repeat' first | refine aw_W [] (And.intro @hlti @hhv) trivial ?_ | refine aw_cond rfl (fun h => ?_) (fun h => ?_)
              clear hlti hlt hi
              refine aw_loopW [0, 17, 18, 22] (fun q fr σ => GbI5 L on q fr σ) L.length ?_ ?_
              · exact ⟨mkSt [] [] M, le_mkSt (by simp) (by simp) (by simp), 0, M, by omega, rfl, by simp⟩
              · clear M
                rintro q fr σ ⟨i, M, hi, rfl, rfl⟩
                simp -implicitDefEqProofs
                by_cases hlt : i < L.length
                · have hlti : (i : Int) < L.length := by omega
                  obtain ⟨a, l, hp⟩ : ∃ a l, L[i]? = some (a, l) := ⟨_, _, List.getElem?_eq_getElem hlt⟩
                  have hpm := List.mem_of_getElem? hp
                  have hg := lks_get hp
                  have hla : i < (lks L).length := by rw [hvl]; exact hlt
                  obtain ⟨_, hgl⟩ := List.getElem?_eq_some_iff.1 hg
                  have wi : IntKind.i64.wrap ((i : Int) + 1) = (i : Int) + 1 := wrap_id (by omega) (by omega)
                  have hlr := hr _ hpm
                  simp only at hlr
                  have p6 := lhas12_ok l on (by omega)
                  have p7 := lhas12_ok (hangL L [on]) a (by omega)
                  by_cases hm : on ∈ l
                  · have q6 : 0 ≤ plc on l := by
                      have := mt plc_neg.1 (fun h => h hm); omega
                    have q7 : ¬ plc a (hangL L [on]) < 0 := by
                      rw [plc_neg]
                      exact fun h => h ((hhm a).2 (.base _ hpm on hm (by simp)))
                    repeat' first | refine aw_W [] (And.intro @hlt (And.intro @hlti (And.intro @hla (And.intro @hg (And.intro @hgl (And.intro @hvl (And.intro @q6 (And.intro @q7 @wi)))))))) (And.intro @p6 (And.intro @p7 trivial)) ?_ | refine aw_cond rfl (fun h => ?_) (fun h => ?_)
                    exact ⟨q - 1, by omega, mkSt [] [] M, le_mkSt (by simp) (by simp) (by simp), i + 1, M, by omega, rfl, by simp⟩
                  · have q6 : ¬ 0 ≤ plc on l := by
                      have := plc_neg.2 hm; omega
                    repeat' first | refine aw_W [] (And.intro @hlt (And.intro @hlti (And.intro @hla (And.intro @hg (And.intro @hgl (And.intro @hvl (And.intro @q6 @wi))))))) (And.intro @p6 (And.intro @p7 trivial)) ?_ | refine aw_cond rfl (fun h => ?_) (fun h => ?_)
                    exact ⟨q - 1, by omega, mkSt [] [] M, le_mkSt (by simp) (by simp) (by simp), i + 1, M, by omega, rfl, by simp⟩
                · have hlti : ¬ (i : Int) < L.length := by omega
                  repeat' first | refine aw_W [] (And.intro @hlti @hvl) (And.intro @hA trivial) ?_ | refine aw_cond rfl (fun h => ?_) (fun h => ?_)
                  all_goals first | rfl | (simp [tupOf]; done) | trace_state
    · rw [if_neg h0] at hN
      generalize newR L = r at *
      refine apure_in Try.func4 Try.ntmps4 rfl ?_
      repeat' first | refine aw_W [] @h0 (And.intro @hF (And.intro @hA (And.intro @hN trivial))) ?_ | refine aw_cond rfl (fun h => ?_) (fun h => ?_)
      all_goals first | rfl | (simp [tupOf]; done) | trace_state
theorem GraphBehind_all (x : AV) (n : Int) (hx : HasT Try.prog 22 x) (hn : (Lit.int .u16 n).wf = true) :
    APure Try.prog 4 [x, .p (.int .u16 n)] (vb true) := by
  obtain ⟨L, rfl⟩ := lnks_has hx
  exact graphBehind_ok L n (wf16 hn)
end Go.AL
