/- Parts of the proof of ArenaPlays: the logic, contracts, plain laws. -/
import Derived.Test.YtofopejmidlceaaDoorZArenaPlays23
import Derived.Test.YtofopejmidlceaaDoorZArenaPlays12
/-! gridironlaw09.ArenaPlays. -/
namespace Go.AL
open Go.Proofs
set_option linter.unusedSimpArgs false
set_option linter.unusedVariables false
def BgR (room : Int) (σ : ASt) (r : AV) (τ : ASt) : Prop := r = .ptr (σ.next + 2) 0 ∧ ∃ j1 j2, j1 ≠ j2 ∧ σ.next ≤ j1 ∧ j1 < σ.next + 2 ∧ σ.next ≤ j2 ∧ j2 < σ.next + 2 ∧ τ.next = σ.next + 3 ∧ τ.bx = upd σ.bx (σ.next + 2) (some [vi room, .hsl j1 0 1, .hsl j2 0 1]) ∧ τ.mp = σ.mp ∧ τ.sl j1 = some [nd0] ∧ τ.sl j2 = some [vb false]
set_option maxHeartbeats 8000000 in
set_option maxRecDepth 100000 in
theorem rbegin_ok (room : Int) (σ : ASt) : ACall Tryd.prog 8 [vi room] σ (BgR room σ) := by
  refine acall_of Tryd.func8 Tryd.ntmps8 rfl ?_
  simp only [List.length_cons, List.length_nil, List.cons_append, List.nil_append, List.replicate]
  repeat' first | refine aw_N [] trivial trivial ?_ | refine aw_cond rfl (fun h => ?_) (fun h => ?_)
  refine aw_of_awo draws (awo_split 1 2 (by decide) (by decide) (by decide) ?_ ?_)
  case refine_1 =>
    simp only [aft, List.modify_succ_cons, List.modify_zero_cons, aftE, List.push_toArray, List.cons_append, List.nil_append]
    refine awo_perm [0, 1, 2, 3, 4, 5] (by decide +kernel) ?_
    simp only [permL, renO, List.getD_cons_zero, List.getD_cons_succ, Option.map_none, Option.map_some]
    refine awo_zrun [4, 5, 7] [] (by decide +kernel) ?_
    simp -implicitDefEqProofs
    repeat first | refine zcurL (by decide +kernel) ?_ | refine zcurH (by decide +kernel) ?_ | refine zcurL' (by decide +kernel) ?_ | refine zcurH' (by decide +kernel) ?_
    refine zl_makeS (by simp) rfl rfl (n := 1) rfl rfl te54 tet54 tz43 rfl (by omega) (by omega) (by omega) ?_
    simp -implicitDefEqProofs
    repeat first | refine zcurL (by decide +kernel) ?_ | refine zcurH (by decide +kernel) ?_ | refine zcurL' (by decide +kernel) ?_ | refine zcurH' (by decide +kernel) ?_
    repeat' first | refine aw_W [] trivial trivial ?_ | refine aw_cond rfl (fun h => ?_) (fun h => ?_)
    refine zl_makeS (by simp) rfl rfl (n := 1) rfl rfl te61 tet61 tz4 rfl (by omega) (by omega) (by omega) ?_
    simp -implicitDefEqProofs
    repeat first | refine zcurL (by decide +kernel) ?_ | refine zcurH (by decide +kernel) ?_ | refine zcurL' (by decide +kernel) ?_ | refine zcurH' (by decide +kernel) ?_
    repeat' first | refine aw_W [] trivial trivial ?_ | refine aw_cond rfl (fun h => ?_) (fun h => ?_)
    exact ⟨by simp [tupOf], σ.next, σ.next + 1, by omega, by omega, by omega, by omega, by omega, rfl, rfl, rfl, by simp [upd, nd0], by simp [upd]⟩
  case refine_2 =>
    simp only [aft, List.modify_succ_cons, List.modify_zero_cons, aftE, List.push_toArray, List.cons_append, List.nil_append]
    refine awo_perm [0, 2, 1, 3, 4, 5] (by decide +kernel) ?_
    simp only [permL, renO, List.getD_cons_zero, List.getD_cons_succ, Option.map_none, Option.map_some]
    refine awo_zrun [4, 5, 7] [] (by decide +kernel) ?_
    simp -implicitDefEqProofs
    repeat first | refine zcurL (by decide +kernel) ?_ | refine zcurH (by decide +kernel) ?_ | refine zcurL' (by decide +kernel) ?_ | refine zcurH' (by decide +kernel) ?_
    refine zl_makeS (by simp) rfl rfl (n := 1) rfl rfl te61 tet61 tz4 rfl (by omega) (by omega) (by omega) ?_
    simp -implicitDefEqProofs
    repeat first | refine zcurL (by decide +kernel) ?_ | refine zcurH (by decide +kernel) ?_ | refine zcurL' (by decide +kernel) ?_ | refine zcurH' (by decide +kernel) ?_
    repeat' first | refine aw_W [] trivial trivial ?_ | refine aw_cond rfl (fun h => ?_) (fun h => ?_)
    refine zl_makeS (by simp) rfl rfl (n := 1) rfl rfl te54 tet54 tz43 rfl (by omega) (by omega) (by omega) ?_
    simp -implicitDefEqProofs
    repeat first | refine zcurL (by decide +kernel) ?_ | refine zcurH (by decide +kernel) ?_ | refine zcurL' (by decide +kernel) ?_ | refine zcurH' (by decide +kernel) ?_
    repeat' first | refine aw_W [] trivial trivial ?_ | refine aw_cond rfl (fun h => ?_) (fun h => ?_)
    exact ⟨by simp [tupOf], σ.next + 1, σ.next, by omega, by omega, by omega, by omega, by omega, rfl, rfl, rfl, by simp [upd, nd0], by simp [upd]⟩
set_option maxHeartbeats 8000000 in
set_option maxRecDepth 100000 in
theorem aputN_ok (x : AV) : APure Tryd.prog 18 [.p (.pointer none), x] (.tup [.p (.slice none 0 0), vi 1]) := by
  refine apure_in Tryd.func18 Tryd.ntmps18 rfl ?_
  repeat' first | refine aw_W [7, 10] trivial trivial ?_ | refine aw_cond rfl (fun h => ?_) (fun h => ?_)
  all_goals first | rfl | (simp [tupOf]; done) | trace_state
theorem cl_acA (a : Ac) : Cl (acA a) := .agg _ fun c hc => by
  simp only [List.mem_cons, List.not_mem_nil, or_false] at hc
  rcases hc with rfl | rfl | rfl
  · exact .p _
  · exact .vsl _ (cl_nds _)
  · exact cl_vis _
@[simp] theorem cl_acA' (a : Ac) : Cl (acA a) = True := eq_true (cl_acA a)
def PlI (room : Nat) (l : List Ac) (q : Nat) (fr : List AV) (σ : ASt) : Prop := ∃ (i : Nat) (M : Nods) (N : Nms) (c : Int) (nds : List Nd) (is : List Bool) (j1 j2 m : Nat), i + q = l.length ∧ Both room M N c nds is ∧ LwN j1 j2 [] m ∧ σ = lwS room (esK ndA M) (esT vi N) c nds is j1 j2 [] m ∧
  fr = frm 177 [(0, vi (room : Nat)), (1, .vsl (l.map acA)), (4, vb false), (6, .ptr 2 0), (8, .ptr 5 0), (9, vi (i : Nat))]
def PlJ (room : Nat) (M : Nods) (N : Nms) (c : Int) (nds : List Nd) (is : List Bool) (q : Nat) (fr : List AV) (σ : ASt) : Prop := ∃ (i j1 j2 m : Nat), i + q = (livL M).length ∧ LwN j1 j2 [] m ∧ σ = lwS room (esK ndA M) (esT vi N) c nds is j1 j2 [] m ∧
  fr = frm 177 [(4, vb false), (6, .ptr 2 0), (8, .ptr 5 0), (12, .vsl ((livL M).map vi)), (13, vi (i : Nat))]
set_option maxHeartbeats 16000000 in
set_option maxRecDepth 100000 in
theorem plays9_ok (room : Int) (hroom : -9223372036854775808 ≤ room ∧ room ≤ 9223372036854775807) (l : List Ac) (hll : l.length ≤ 9223372036854775807) (hin : ∀ a ∈ l, AcIn a) : APure Tryd.prog 3 [vi room, .vsl (l.map acA)] (vb true) := by
  have hf := fits9_ok l hll hin
  have hlv : (l.map acA).length = l.length := List.length_map _
  cases hfit : fits9 l with
  | false =>
    rw [hfit] at hf
    refine apure_in Tryd.func3 Tryd.ntmps3 rfl ?_
    repeat' first | refine aw_N [14, 16, 24] trivial (And.intro @hf (And.intro @alive9_ok trivial)) ?_ | refine aw_cond rfl (fun h => ?_) (fun h => ?_)
    all_goals first | rfl | (simp [tupOf]; done) | trace_state
  | true =>
    rw [hfit] at hf
    have hok : ∀ a ∈ l, AcOk a := fitA_ok l 0 0 (by simp [fits9] at hfit; exact hfit.2) hin
    have hl200 : l.length ≤ 200 := by simp [fits9] at hfit; exact hfit.1
    by_cases h0 : room < 0
    · have hN := anewE_ok room (.inl h0)
      refine apure_in Tryd.func3 Tryd.ntmps3 rfl ?_
      repeat' first | refine aw_N [14, 16, 24] @h0 (And.intro @hf (And.intro @alive9_ok (And.intro @hN trivial))) ?_ | refine aw_cond rfl (fun h => ?_) (fun h => ?_)
      all_goals first | rfl | (simp [tupOf]; done) | trace_state
    · by_cases h1 : 65536 < room
      · have hN := anewE_ok room (.inr h1)
        refine apure_in Tryd.func3 Tryd.ntmps3 rfl ?_
        repeat' first | refine aw_N [14, 16, 24] (And.intro @h0 @h1) (And.intro @hf (And.intro @alive9_ok (And.intro @hN trivial))) ?_ | refine aw_cond rfl (fun h => ?_) (fun h => ?_)
        all_goals first | rfl | (simp [tupOf]; done) | trace_state
      · obtain ⟨R, rfl⟩ : ∃ R : Nat, room = R := ⟨room.toNat, by omega⟩
        have hR : R ≤ 65536 := by omega
        refine apure_in Tryd.func3 Tryd.ntmps3 rfl ?_
        repeat' first | refine aw_N [14, 16, 24] trivial (And.intro @hf trivial) ?_ | refine aw_cond rfl (fun h => ?_) (fun h => ?_)
        refine awl_cons rfl (opq_call rfl rfl rfl ((anew_ok R (by omega) _).mono fun r τ ⟨e1, e2⟩ => ?_))
        subst e1 e2
        refine AWL.less (τ := laS R (esK ndA []) (esT vi []) 1 [] [] 3) (le_laS (by simp [ASt.addMp, ASt.addBx, σ0]) (by simp [ASt.addMp, ASt.addBx, σ0, esK, upd]) (by simp [ASt.addMp, ASt.addBx, σ0, esT, upd]) (by simp) (by simp) (by simp [ASt.addMp, ASt.addBx, σ0])) ?_
        refine awl_run' [14, 16, 24] ?_
        simp -implicitDefEqProofs
        have h0n : ¬ (R : Int) < 0 := by omega
        repeat' first | refine aw_N [14, 16, 24] (And.intro @h0 (And.intro @h1 @h0n)) trivial ?_ | refine aw_cond rfl (fun h => ?_) (fun h => ?_)
        refine awl_cons rfl (opq_call rfl rfl rfl ((rbegin_ok R _).mono fun r τ hq => ?_))
        obtain ⟨e1, j1, j2, p1, p2, p3, p4, p5, p6, p7, p8, p9, p10⟩ := hq
        simp at e1 p2 p3 p4 p5 p6 p7 p8
        subst e1
        have j21 : ¬ j2 = j1 := fun e => p1 e.symm
        refine awl_softSl j1 (xs := [nd0]) (xs' := [ndA ndZ]) p9 (soft_nd []) ?_
        refine AWL.less (τ := lwS R (esK ndA []) (esT vi []) 1 [ndZ] [false] j1 j2 [] 6) (le_lwS (by simp [ASt.setSl, p7]) (by simp [ASt.setSl, p7]) (by simp [ASt.setSl, p8]) (by simp [ASt.setSl, p8]) (by simp [ASt.setSl]) (by simp [ASt.setSl, upd, j21, p10]) (by simp) (by simp [ASt.setSl, p6])) ?_
        refine awl_run' [14, 16, 24] ?_
        simp -implicitDefEqProofs
        repeat' first | refine aw_N [14, 16, 24] trivial trivial ?_ | refine aw_cond rfl (fun h => ?_) (fun h => ?_)
        refine aw_loopW [0, 1, 4, 6, 8, 9] (fun q fr σ => PlI R l q fr σ) l.length ?_ ?_
        · exact ⟨_, le_same _, 0, [], [], 1, [ndZ], [false], j1, j2, 6, by omega, Both.start R, ⟨by omega, by omega, p1, by omega, by simp, by simp⟩, rfl, by simp⟩
        · clear p1 p2 p3 p4 p5 p6 p7 p8 p9 p10 j21 j1 j2
          rintro q fr σ ⟨i, M, N, c, nds, is, j1, j2, m, hi, hB, hn, rfl, rfl⟩
          simp -implicitDefEqProofs
          by_cases hlt : i < l.length
          · have hlti : (i : Int) < l.length := by omega
            obtain ⟨a, ha1⟩ : ∃ a, l[i] = a := ⟨_, rfl⟩
            have hag : l[i]? = some a := by rw [List.getElem?_eq_getElem hlt, ha1]
            have hnd : acA a = .agg [.p (.int .u8 a.k), .vsl (a.l.map ndA), .vsl (a.roots.map vi)] := rfl
            have wi : IntKind.i64.wrap ((i : Int) + 1) = (i : Int) + 1 := wrap_id (by omega) (by omega)
            repeat' first | refine aw_N [14, 16, 24] (And.intro @hlt (And.intro @hlti (And.intro @ha1 (And.intro @hag (And.intro @hlv @hnd))))) trivial ?_ | refine aw_cond rfl (fun h => ?_) (fun h => ?_)
            rw [← hnd]
            refine awl_cons rfl (opq_call rfl rfl rfl ((step09_ok hB hR hn a (hok a (List.mem_of_getElem? hag))).mono fun r τ hq => ?_))
            clear hB hn M N c nds is j1 j2 m
            obtain ⟨rfl, M, N, c, nds, is, j1, j2, m, hB, hn, hle⟩ := hq
            refine AWL.less hle ?_
            refine awl_run' [14, 16, 24] ?_
            simp -implicitDefEqProofs
            repeat' first | refine aw_N [14, 16, 24] trivial trivial ?_ | refine aw_cond rfl (fun h => ?_) (fun h => ?_)
            have hLl := livL_len M
            have hLk := hB.ai.klen
            have hli := rints_ok (livL M) (livL M) (by omega) (by omega)
            rw [decide_eq_true rfl] at hli
            refine awl_cons rfl (opq_call rfl rfl rfl ((acR (aliveL_ok M N R c hB.ai) (by simp) (cl_vis _) (cl_esN _) (cl_esT _) hn).mono fun r τ ⟨e1, e2⟩ => ?_))
            subst e1 e2
            refine awl_run' [14, 16, 24] ?_
            simp -implicitDefEqProofs
            repeat' first | refine aw_N [14, 16, 24] trivial trivial ?_ | refine aw_cond rfl (fun h => ?_) (fun h => ?_)
            refine awl_cons rfl (opq_call rfl rfl rfl ((RCr.call (rcLive hB hR) (by simp) (cl_vis _) (rcat_lwS hn)).mono fun r τ ⟨e1, e2⟩ => ?_))
            subst e1 e2
            refine awl_run' [14, 16, 24] ?_
            simp -implicitDefEqProofs
            repeat' first | refine aw_N [14, 16, 24] trivial (And.intro @hli trivial) ?_ | refine aw_cond rfl (fun h => ?_) (fun h => ?_)
            refine awl_unopt 84 (c := .ptr 2 0) rfl ?_
            simp -implicitDefEqProofs only [List.set]
            refine awl_cons rfl (opq_call rfl rfl rfl ((acR (alen_ok M (esT vi N) R c) (by simp) (.p _) (cl_esN _) (cl_esT _) hn).mono fun r τ ⟨e1, e2⟩ => ?_))
            subst e1 e2
            refine awl_run' [14, 16, 24] ?_
            simp -implicitDefEqProofs
            refine awl_unopt 86 (c := .ptr 5 0) rfl ?_
            simp -implicitDefEqProofs only [List.set]
            refine awl_cons rfl (opq_call rfl rfl rfl ((RCr.call (rcLive hB hR) (by simp) (cl_vis _) (rcat_lwS hn)).mono fun r τ ⟨e1, e2⟩ => ?_))
            subst e1 e2
            refine awl_run' [14, 16, 24] ?_
            simp -implicitDefEqProofs
            simp -implicitDefEqProofs [hLl]
            refine awl_unopt 92 (c := .ptr 2 0) rfl ?_
            simp -implicitDefEqProofs only [List.set]
            refine awl_cons rfl (opq_call rfl rfl rfl ((acR (aroom_ok (esK ndA M) (esT vi N) R c) (by simp) (.p _) (cl_esN _) (cl_esT _) hn).mono fun r τ ⟨e1, e2⟩ => ?_))
            subst e1 e2
            refine awl_run' [14, 16, 24] ?_
            simp -implicitDefEqProofs
            repeat' first | refine aw_N [14, 16, 24] @wi trivial ?_ | refine aw_cond rfl (fun h => ?_) (fun h => ?_)
            exact ⟨q - 1, by omega, _, le_same _, i + 1, M, N, c, nds, is, j1, j2, m, by omega, hB, hn, rfl, by simp⟩
          · have hlti : ¬ (i : Int) < l.length := by omega
            repeat' first | refine aw_N [14, 16, 24] (And.intro @hlti @hlv) trivial ?_ | refine aw_cond rfl (fun h => ?_) (fun h => ?_)
            have hLl := livL_len M
            have hLk := hB.ai.klen
            have hlv2 : ((livL M).map vi).length = (livL M).length := List.length_map _
            refine awl_cons rfl (opq_call rfl rfl rfl ((RCr.call (rcLive hB hR) (by simp) (cl_vis _) (rcat_lwS hn)).mono fun r τ ⟨e1, e2⟩ => ?_))
            subst e1 e2
            refine awl_run' [14, 16, 24] ?_
            simp -implicitDefEqProofs
            repeat' first | refine aw_N [14, 16, 24] trivial trivial ?_ | refine aw_cond rfl (fun h => ?_) (fun h => ?_)
            refine aw_loopW [4, 6, 8, 12, 13] (fun q fr σ => PlJ R M N c nds is q fr σ) (livL M).length ?_ ?_
            · exact ⟨_, le_same _, 0, j1, j2, m, by omega, hn, rfl, by simp⟩
            · clear hi hlt hlti
              rintro q fr σ ⟨i, j1, j2, m, hi, hn, rfl, rfl⟩
              simp -implicitDefEqProofs
              by_cases hlt : i < (livL M).length
              · have hlti : (i : Int) < (livL M).length := by omega
                obtain ⟨k, hk1⟩ : ∃ k, (livL M)[i] = k := ⟨_, rfl⟩
                have hkg : (livL M)[i]? = some k := by rw [List.getElem?_eq_getElem hlt, hk1]
                have wi : IntKind.i64.wrap ((i : Int) + 1) = (i : Int) + 1 := wrap_id (by omega) (by omega)
                obtain ⟨x, hg⟩ : ∃ x, gotK M k = some x := by
                  have := mem_livL.1 (List.mem_of_getElem? hkg)
                  cases e : gotK M k with
                  | none => rw [e] at this; cases this
                  | some x => exact ⟨x, rfl⟩
                have hxo := (hB.ai.pos _ x hg).2.2
                have hs := same09_ok x x (by have := hxo.rl; omega) (by have := hxo.rl; omega) (by have := hxo.nl; omega) (by have := hxo.nl; omega)
                have hxd : ndA x = .agg [vi x.k, .vsl (x.refs.map vi), .vsl (x.nums.map vi), vs x.text] := rfl
                have c1 := aget_ok M (esT vi N) (cl_esT N) R c k x hg hxo
                have c2 := rcGet hB k x hg
                rw [decide_eq_true rfl] at hs
                rw [hxd] at hs c1 c2
                have g1 := hn.l1
                have g2 := hn.l2
                have g3 := hn.mm
                have m2 : ¬ m = 2 := by omega
                have m5 : ¬ m = 5 := by omega
                have m3 : ¬ m + 1 = m := by omega
                have m6 : ¬ m + 1 = 2 := by omega
                have m7 : ¬ m + 1 = 5 := by omega
                have m8 : ¬ 2 = m + 1 := by omega
                have m9 : ¬ 5 = m + 1 := by omega
                have n12 : ¬ j2 = j1 := fun e => hn.n e.symm
                repeat' first | refine aw_N [14, 16, 24] (And.intro @hlt (And.intro @hlti (And.intro @hk1 (And.intro @hkg @hlv2)))) trivial ?_ | refine aw_cond rfl (fun h => ?_) (fun h => ?_)
                refine awl_cons rfl (opq_call rfl rfl rfl ((acR c1 (cl_one (.p _)) (cl_tup2 (by rw [← hxd]; exact cl_ndA x) (.p _)) (cl_esN _) (cl_esT _) hn).mono fun r τ ⟨e1, e2⟩ => ?_))
                subst e1 e2
                refine awl_run' [14, 16, 24] ?_
                simp -implicitDefEqProofs
                repeat' first | refine aw_N [14, 16, 24] (And.intro @hlt (And.intro @hlti (And.intro @hk1 (And.intro @hkg (And.intro @hlv2 (And.intro @m2 @m5)))))) trivial ?_ | refine aw_cond rfl (fun h => ?_) (fun h => ?_)
                have hn' : LwN j1 j2 [(m, [vi x.k, .vsl (x.refs.map vi), .vsl (x.nums.map vi), vs x.text])] (m + 1) := ⟨by omega, by omega, hn.n, by omega, by simp; omega, by simp⟩
                refine AWL.less (τ := lwS R (esK ndA M) (esT vi N) c nds is j1 j2 [(m, [vi x.k, .vsl (x.refs.map vi), .vsl (x.nums.map vi), vs x.text])] (m + 1)) (le_lwS (by simp [upd, Ne.symm m2]) (by simp [upd, Ne.symm m5]) (by simp) (by simp) (by simp) (by simp [n12]) (by simp [upd]) (by simp)) ?_
                refine awl_cons rfl (opq_call rfl rfl rfl ((RCr.call c2 (cl_one (.p _)) (cl_tup2 (by rw [← hxd]; exact cl_ndA x) (.p _)) (rcat_lwS hn')).mono fun r τ ⟨e1, e2⟩ => ?_))
                subst e1 e2
                refine awl_run' [14, 16, 24] ?_
                simp -implicitDefEqProofs
                repeat' first | refine aw_N [14, 16, 24] (And.intro @m2 (And.intro @m5 (And.intro @m3 (And.intro @m6 (And.intro @m7 @wi))))) (And.intro @hs trivial) ?_ | refine aw_cond rfl (fun h => ?_) (fun h => ?_)
                exact ⟨q - 1, by omega, lwS R (esK ndA M) (esT vi N) c nds is j1 j2 [] (m + 2), le_lwS (by simp [upd, Ne.symm m2, m8]) (by simp [upd, Ne.symm m5, m9]) (by simp) (by simp) (by simp) (by simp [n12]) (by simp) (by simp), i + 1, j1, j2, m + 2, by omega, ⟨by omega, by omega, hn.n, by omega, by simp, by simp⟩, rfl, by simp⟩
              · have hlti : ¬ (i : Int) < (livL M).length := by omega
                have p1 := aputN_ok (.p (.slice none 0 0))
                have p2 := asweepN_ok (.p (.slice none 0 0))
                have p3 := agetN_ok 1
                have p4 := areachN_ok (.vsl [vi 1])
                have c0 := cl_nd0
                rw [show nd0 = .agg [vi 0, .p (.slice none 0 0), .p (.slice none 0 0), vs ⟨#[]⟩] from rfl] at p3 c0
                repeat' first | refine aw_N [14, 16, 24] (And.intro @hlti @hlv2) (And.intro @p1 (And.intro @p2 (And.intro @p3 trivial))) ?_ | refine aw_cond rfl (fun h => ?_) (fun h => ?_)
                repeat' first | refine aw_N [14, 16, 24] trivial (And.intro @alive9_ok (And.intro @alenN_ok (And.intro @aroomN_ok (And.intro @aliveN_ok (And.intro @p4 trivial))))) ?_ | refine aw_cond rfl (fun h => ?_) (fun h => ?_)
                all_goals first | rfl | (simp [tupOf]; done) | (simp [tupOf, wrap_id]; done) | trace_state
end Go.AL
/-! ArenaPlays, for its row. -/
namespace Go.AL
open Go.Proofs
set_option linter.unusedSimpArgs false
set_option linter.unusedVariables false
set_option maxRecDepth 100000 in
theorem ints_has {n : Nat} {x : AV} (h : hasF Tryd.prog n 33 x) : ∃ l : List Int, x = .vsl (l.map vi) ∧ l.length ≤ 9223372036854775807 ∧ ∀ z ∈ l, -9223372036854775808 ≤ z ∧ z ≤ 9223372036854775807 := by
  obtain ⟨m, xs, rfl, rfl, hx, hy⟩ := has_slice h Tryd.underlying33
  obtain ⟨l, rfl, hl⟩ := list_of (f := vi) (r := fun z => -9223372036854775808 ≤ z ∧ z ≤ 9223372036854775807) (fun y hy => by
    obtain ⟨z, rfl, hz⟩ := has_i64 hy Tryd.underlying3
    exact ⟨z, rfl, hz.1, hz.2⟩) xs hy
  exact ⟨l, rfl, by simpa using hx, hl⟩
set_option maxRecDepth 100000 in
theorem node_has {n : Nat} {x : AV} (h : hasF Tryd.prog n 40 x) : ∃ y : Nd, x = ndA y ∧ NdIn y := by
  obtain ⟨m, cs, rfl, rfl, hl, hf⟩ := has_struct h Tryd.underlying40
  rw [show Tryd.prog.cellsOf 40 = 4 by kernel_rfl] at hl
  have c1 : Tryd.prog.cellsOf 3 = 1 := by kernel_rfl
  have c2 : Tryd.prog.cellsOf 33 = 1 := by kernel_rfl
  have c3 : Tryd.prog.cellsOf 9 = 1 := by kernel_rfl
  simp only [List.mem_cons, List.not_mem_nil, or_false, forall_eq_or_imp, forall_eq] at hf
  obtain ⟨⟨y0, h0, e0⟩, ⟨y1, h1, e1⟩, ⟨y2, h2, e2⟩, y3, h3, e3⟩ := hf
  obtain ⟨k, rfl, hk⟩ := has_i64 h0 Tryd.underlying3
  obtain ⟨rs, rfl, hr1, hr2⟩ := ints_has h1
  obtain ⟨ns, rfl, hn1, hn2⟩ := ints_has h2
  obtain ⟨s, rfl, hs⟩ := has_str h3 Tryd.underlying9
  match cs, hl with
  | [x0, x1, x2, x3], _ =>
    simp only [c1, c2, c3, List.drop_zero, List.take_succ_cons, List.take_zero, List.drop_succ_cons, List.cons.injEq, and_true, AV.cells] at e0 e1 e2 e3
    subst e0; subst e1; subst e2; subst e3
    exact ⟨⟨k, rs, ns, s⟩, rfl, ⟨hk.1, hk.2⟩, hr2, hn2, hr1, hn1, hs⟩
set_option maxRecDepth 100000 in
theorem act9_has {n : Nat} {x : AV} (h : hasF Tryd.prog n 35 x) : ∃ a : Ac, x = acA a ∧ AcIn a := by
  obtain ⟨m, cs, rfl, rfl, hl, hf⟩ := has_struct h Tryd.underlying35
  rw [show Tryd.prog.cellsOf 35 = 3 by kernel_rfl] at hl
  have c1 : Tryd.prog.cellsOf 5 = 1 := by kernel_rfl
  have c2 : Tryd.prog.cellsOf 33 = 1 := by kernel_rfl
  have c3 : Tryd.prog.cellsOf 32 = 1 := by kernel_rfl
  simp only [List.mem_cons, List.not_mem_nil, or_false, forall_eq_or_imp, forall_eq] at hf
  obtain ⟨⟨y0, h0, e0⟩, ⟨y1, h1, e1⟩, y2, h2, e2⟩ := hf
  obtain ⟨k, rfl, hk⟩ := has_int h0 Tryd.underlying5
  obtain ⟨m', xs, rfl, rfl, hx, hy⟩ := has_slice h1 Tryd.underlying32
  obtain ⟨l, rfl, hl1⟩ := list_of (f := ndA) (r := NdIn) (fun y hy => node_has hy) xs hy
  obtain ⟨rs, rfl, hr1, hr2⟩ := ints_has h2
  match cs, hl with
  | [x0, x1, x2], _ =>
    simp only [c1, c2, c3, List.drop_zero, List.take_succ_cons, List.take_zero, List.drop_succ_cons, List.cons.injEq, and_true, AV.cells] at e0 e1 e2
    subst e0; subst e1; subst e2
    simp only [Lit.wf, IntKind.min, IntKind.max, IntKind.signed, IntKind.bits, Bool.and_eq_true, decide_eq_true_eq] at hk
    simp at hk
    exact ⟨⟨k, l, rs⟩, rfl, ⟨hk.1, by show k < 256; omega⟩, hl1, hr2, by simpa using hx, hr1⟩
theorem acts9_has {x : AV} (h : HasT Tryd.prog 22 x) : ∃ l : List Ac, x = .vsl (l.map acA) ∧ l.length ≤ 9223372036854775807 ∧ ∀ a ∈ l, AcIn a := by
  obtain ⟨n, h⟩ := h
  obtain ⟨m, xs, rfl, rfl, hx, hy⟩ := has_slice h Tryd.underlying22
  obtain ⟨l, rfl, hl⟩ := list_of (f := acA) (r := AcIn) (fun y hy => act9_has hy) xs hy
  exact ⟨l, rfl, by simpa using hx, hl⟩
theorem ArenaPlays_all (room : Int) (x : AV) (hr : (Lit.int .i64 room).wf = true) (hx : HasT Tryd.prog 22 x) :
    APure Tryd.prog 3 [vi room, x] (vb true) := by
  obtain ⟨l, rfl, hl, hp⟩ := acts9_has hx
  have h := In64.of_wf hr
  exact plays9_ok room ⟨h.1, h.2⟩ l hl hp
end Go.AL
