/- Parts of the proof of ShapeBack: the logic, contracts, plain laws. -/
import Derived.Test.YtadahjmamgidnaaZShapeBack29
/-! gridironlaw06.ShapeBack. -/
namespace Go.AL
open Go.Proofs
set_option linter.unusedSimpArgs false
set_option linter.unusedVariables false
theorem cnt_tsz : ∀ t, cntT (-1) t = tszT t := by
  refine Tree.byKids fun k n a b c d w ks ih => ?_
  rw [cntT, tszT, if_pos (.inl (by decide)), Nat.add_comm]
  congr 1
  induction ks with
  | nil => rfl
  | cons u l ih2 => rw [cnts, tszs, ih u List.mem_cons_self, ih2 fun t ht => ih t (List.mem_cons_of_mem _ ht)]
def hasL (px py : Int) (l : List (Int × Int)) : Bool := l.any fun p => decide (p.1 = px) && decide (p.2 = py)
set_option maxHeartbeats 16000000 in
set_option maxRecDepth 100000 in
theorem shapeBack_ok (t : Tree) (bx by_ px py : Int) (h : t.sh) (hb : In64 bx) (hc : In64 by_) : APure Try.prog 4 [t.av, place bx by_, place px py] (vb true) := by
  have hA := alive6_ok
  have hF := fits5_ok t h
  by_cases hf : fitsB t = true
  · rw [hf] at hF
    have hz : tszT t ≤ 1000000000 := by
      unfold fitsB at hf
      simp only [Bool.and_eq_true, decide_eq_true_eq] at hf
      omega
    have hX := rright5_ok t h (by have := deep_le_size t; omega)
    by_cases hr : rightB t = true
    · rw [hr] at hX
      have hm := rightB_may hr
      have hS := sShiftD t bx by_ hb hc h hz
      rw [if_pos hr, if_pos hr] at hS
      have hru := right_moved bx by_ t hr
      have hsu := moved_sh bx by_ t h
      have hsz := size_moved bx by_ t hm
      obtain ⟨hbd, hbo⟩ := bads_moved bx by_ t hm
      have hzu : tszT (movedT bx by_ t) ≤ 1000000000 := by rw [← cnt_tsz, hsz, cnt_tsz]; exact hz
      have hR := sReadsD t h
      rw [if_pos hr] at hR
      have hRu := sReadsD (movedT bx by_ t) hsu
      rw [if_pos hru] at hRu
      have hZ := sSizeD t h hz
      have hZu := sSizeD (movedT bx by_ t) hsu hzu
      rw [if_pos hr] at hZ
      rw [if_pos hru, hsz] at hZu
      have hB := sBadsD t h hz
      have hBu := sBadsD (movedT bx by_ t) hsu hzu
      rw [if_pos hr] at hB
      rw [if_pos hru] at hBu
      have hU := fun p q => sUsesD t p q h
      simp only [hr, Bool.true_and] at hU
      obtain ⟨L, hL⟩ : ∃ L, L = gridP (usesN t) 1024 := ⟨_, rfl⟩
      obtain ⟨M, hM⟩ : ∃ M, M = gridP (usesN (movedT bx by_ t)) 1024 := ⟨_, rfl⟩
      have hLm : ∀ p, p ∈ L ↔ usesB p.1 p.2 t = true := fun p => by rw [hL]; exact mem_reads t p
      have hLs : L.Pairwise fun a b => pidx a < pidx b := by rw [hL]; exact gridP_sorted _ _ (Nat.le_refl _)
      have hLl : L.length ≤ 1024 := by rw [hL]; exact gridP_len _ _
      have hLi : ∀ p ∈ L, InP p := fun p hp => uses_in t p.1 p.2 ((hLm p).1 hp)
      have hML0 : L = [] → M = [] := fun e => by
        rw [hM, reads_none bx by_ t hm (by rw [← hL]; exact e), ← hL, e]
      have hMs : okM bx by_ t = true → M = shl bx by_ L := fun e => by rw [hM, hL]; exact reads_moved bx by_ t hm e
      have hSm : okM bx by_ t = true → L ≠ [] → -16 < bx ∧ bx < 16 ∧ -64 < by_ ∧ by_ < 64 := fun e1 e2 => by
        obtain ⟨p, l, e3⟩ := List.exists_cons_of_ne_nil e2
        exact ok_small bx by_ t e1 p.1 p.2 ((hLm p).1 (by rw [e3]; exact List.mem_cons_self))
      have hBk : okM bx by_ t = true → In64 (-bx) → In64 (-by_) → APure Try.prog 10 [(movedT bx by_ t).av, place (-bx) (-by_)] (.tup [t.av, vi 0]) := fun e e1 e2 => by
        have := sShiftD (movedT bx by_ t) (-bx) (-by_) e1 e2 hsu hzu
        rw [if_pos hru, if_pos hru, back_moved bx by_ t hm e] at this
        exact this
      have hE := rsame5_ok t h t
      rw [sameB_iff.2 rfl] at hE
      rw [← hL] at hR
      rw [← hM] at hRu
      obtain ⟨u, hu⟩ : ∃ u, u = movedT bx by_ t := ⟨_, rfl⟩
      rw [← hu] at hS hRu hZu hBu hBk
      obtain ⟨uk, un, ua, ub, uc, ud, uw, uks⟩ := u
      obtain ⟨BD, hBD⟩ : ∃ BD, BD = cntT 2 t := ⟨_, rfl⟩
      obtain ⟨BU, hBU⟩ : ∃ BU, BU = cntT 2 (movedT bx by_ t) := ⟨_, rfl⟩
      rw [← hBD] at hB hbd hbo
      rw [← hu] at hBU
      rw [← hBU] at hBu
      rw [← hu, ← hBU] at hbd hbo
      obtain ⟨SZ, hSZ⟩ : ∃ SZ : Int, SZ = ((cntT (-1) t : Nat) : Int) := ⟨_, rfl⟩
      rw [← hSZ] at hZ hZu
      obtain ⟨k, n, a, b, c, d, w, ks⟩ := t
      rw [Tree.av] at hS hRu hZu hBu hF hX hR hZ hB hE ⊢
      rw [Tree.av] at hS
      simp only [Tree.av] at hU hBk
      have hnb : ¬ (BU : Int) < BD := by omega
      refine apure_of Try.func4 Try.ntmps4 rfl ?_
      simp only [List.length_cons, List.length_nil, List.cons_append, List.nil_append, List.replicate]
      repeat' (first
        | refine aw_seq ?_
        | ((first | refine aw_run [9, 17] ?_ | refine aw_ymix [9, 17] draws (by decide +kernel) ?_); try simp -implicitDefEqProofs (maxSteps := 1000000) [hnb])
        | ((first | refine aw_zrun [9, 17] [] draws (by decide +kernel) (by decide +kernel) ?_ | refine zl_skip (by simp) rfl ?_ | refine zl_pure_guard (by simp) rfl rfl rfl (by first | assumption | kernel_rfl) rfl (fun hc => by first | exact hF | exact hA | exact hX | exact hS | exact hR | exact hRu | exact hZ | exact hZu | exact hB | exact hBu) (by simp) (by simp) (by simp) ?_ | refine zl_pure (by simp) rfl rfl rfl (by first | assumption | kernel_rfl) rfl (by first | exact hF | exact hA | exact hX | exact hS | exact hR | exact hRu | exact hZ | exact hZu | exact hB | exact hBu) (by simp) (by simp) ?_); try simp -implicitDefEqProofs (maxSteps := 1000000) [hnb]; repeat first | refine zcurL (by decide +kernel) ?_ | refine zcurH (by decide +kernel) ?_ | refine zcurL' (by decide +kernel) ?_ | refine zcurH' (by decide +kernel) ?_)
        | ((first | refine aw_yrun draws (by kernel_rfl) ?_ | refine awl_skip' [9, 17] rfl ?_ | refine yl_skip rfl ?_ | refine awl_pure_guard [9, 17] rfl rfl rfl (by first | assumption | kernel_rfl) rfl (fun hc => by first | exact hF | exact hA | exact hX | exact hS | exact hR | exact hRu | exact hZ | exact hZu | exact hB | exact hBu) (by simp) (by simp) (by simp) ?_ | refine yl_pureG rfl rfl rfl (by first | assumption | kernel_rfl) rfl (fun hc => by first | exact hF | exact hA | exact hX | exact hS | exact hR | exact hRu | exact hZ | exact hZu | exact hB | exact hBu) (by simp) (by simp) (by simp) ?_ | refine awl_pure' [9, 17] rfl rfl rfl (by first | assumption | kernel_rfl) rfl (by first | exact hF | exact hA | exact hX | exact hS | exact hR | exact hRu | exact hZ | exact hZu | exact hB | exact hBu) (by simp) (by simp) ?_ | refine yl_pure rfl rfl rfl (by first | assumption | kernel_rfl) rfl (by first | exact hF | exact hA | exact hX | exact hS | exact hR | exact hRu | exact hZ | exact hZu | exact hB | exact hBu) (by simp) (by simp) ?_ | refine aw_skip ?_ | refine aw_exit ?_); try simp -implicitDefEqProofs (maxSteps := 1000000) [hnb])
        | (refine aw_cond rfl (fun h => ?_) (fun h => ?_) <;> try (with_reducible first | exact ff_tt h | exact tt_ff h))
        | refine aw_block ?_
        | refine aw_ret (ret_of (.inr rfl) (by simp [Try.results4]; rfl) (Fin.of ?_))
        | refine ret_of (.inl rfl) (by simp [Try.results4]; rfl) (Fin.of ?_))
      refine aw_loopW [3, 4, 5, 9, 11, 12, 13, 14] (fun q fr σ => ∃ i N : Nat, i + q = L.length ∧ σ = mkSt [(0, [vi uk, vi un, vi ua, vi ub, vi uc, vi ud, vs uw, .vsl (avs uks)])] [] N ∧ fr = frm 187 [(3, .vel [.agg [vi k, vi n, vi a, vi b, vi c, vi d, vs w, .vsl (avs ks)]] 0 0), (4, .vel [place bx by_] 0 0), (5, .vel [place px py] 0 0), (9, .ptr 0 0), (11, .vsl (L.map pl)), (12, .vsl (M.map pl)), (13, vb (hasL px py (L.take i))), (14, vi (i : Nat))]) L.length ?_ ?_
      · exact ⟨_, le_mkSt (bs := [(0, [vi uk, vi un, vi ua, vi ub, vi uc, vi ud, vs uw, .vsl (avs uks)])]) (ss := []) (n := 1) (by simp [σ0]) (by simp) (by simp [σ0]), 0, 1, by omega, rfl, by simp [hasL]⟩
      · rintro q fr σ ⟨i, N, hi, rfl, rfl⟩
        simp -implicitDefEqProofs
        by_cases hlt : i < L.length
        · have hlti : (i : Int) < L.length := by omega
          have hli2 : (i : Int) < ((L.map pl).length : Int) := by rw [List.length_map]; exact hlti
          obtain ⟨P, hP⟩ : ∃ P, L[i] = P := ⟨_, rfl⟩
          have hPm : P ∈ L := hP ▸ List.getElem_mem hlt
          have hUi := hU P.1 P.2
          rw [(hLm P).1 hPm] at hUi
          have hPi := hLi P hPm
          have hg : L[i]? = some P := by rw [List.getElem?_eq_getElem hlt, hP]
          have wi : IntKind.i64.wrap ((i : Int) + 1) = (i : Int) + 1 := wrap_id (by omega) (by omega)
          have hhn : hasL px py (L.take (i + 1)) = (hasL px py (L.take i) || (decide (P.1 = px) && decide (P.2 = py))) := by
            unfold hasL
            rw [List.take_add_one, hg, List.any_append]; simp
          generalize hasL px py (L.take i) = hs at *
          obtain ⟨Px, Py⟩ := P
          by_cases hi0 : i = 0
          · have hi0i : ¬ 0 < (i : Int) := by omega
            have hi0n : ¬ 0 < i := by omega
            have wm : IntKind.i64.wrap ((i : Int) - 1) = -1 := by rw [hi0]; rfl
            repeat' (first
              | refine aw_seq ?_
              | ((first | refine aw_run [9, 17] ?_ | refine aw_ymix [9, 17] draws (by decide +kernel) ?_); try simp -implicitDefEqProofs (maxSteps := 1000000) [hlti, hli2, hg, wi, pl, hi0i, hi0n, wm])
              | ((first | refine aw_zrun [9, 17] [] draws (by decide +kernel) (by decide +kernel) ?_ | refine zl_skip (by simp) rfl ?_ | refine zl_pure_guard (by simp) rfl rfl rfl (by first | assumption | kernel_rfl) rfl (fun hc => by first | exact hUi) (by simp) (by simp) (by simp) ?_ | refine zl_pure (by simp) rfl rfl rfl (by first | assumption | kernel_rfl) rfl (by first | exact hUi) (by simp) (by simp) ?_); try simp -implicitDefEqProofs (maxSteps := 1000000) [hlti, hli2, hg, wi, pl, hi0i, hi0n, wm]; repeat first | refine zcurL (by decide +kernel) ?_ | refine zcurH (by decide +kernel) ?_ | refine zcurL' (by decide +kernel) ?_ | refine zcurH' (by decide +kernel) ?_)
              | ((first | refine aw_yrun draws (by kernel_rfl) ?_ | refine awl_skip' [9, 17] rfl ?_ | refine yl_skip rfl ?_ | refine awl_pure_guard [9, 17] rfl rfl rfl (by first | assumption | kernel_rfl) rfl (fun hc => by first | exact hUi) (by simp) (by simp) (by simp) ?_ | refine yl_pureG rfl rfl rfl (by first | assumption | kernel_rfl) rfl (fun hc => by first | exact hUi) (by simp) (by simp) (by simp) ?_ | refine awl_pure' [9, 17] rfl rfl rfl (by first | assumption | kernel_rfl) rfl (by first | exact hUi) (by simp) (by simp) ?_ | refine yl_pure rfl rfl rfl (by first | assumption | kernel_rfl) rfl (by first | exact hUi) (by simp) (by simp) ?_ | refine aw_skip ?_ | refine aw_exit ?_); try simp -implicitDefEqProofs (maxSteps := 1000000) [hlti, hli2, hg, wi, pl, hi0i, hi0n, wm])
              | (refine aw_cond rfl (fun h => ?_) (fun h => ?_) <;> try (with_reducible first | exact ff_tt h | exact tt_ff h))
              | refine aw_block ?_
              | refine aw_ret (ret_of (.inr rfl) (by simp [Try.results4]; rfl) (Fin.of ?_))
              | refine ret_of (.inl rfl) (by simp [Try.results4]; rfl) (Fin.of ?_))
            exact ⟨q - 1, by omega, mkSt [(0, [vi uk, vi un, vi ua, vi ub, vi uc, vi ud, vs uw, .vsl (avs uks)])] [] N, le_mkSt (by simp) (by simp) (Nat.le_refl _), i + 1, by omega, ⟨_, rfl⟩, hhn.symm, by omega⟩
          · have hi0i : 0 < (i : Int) := by omega
            have hi0n : 0 < i := by omega
            have hlt1 : i - 1 < L.length := by omega
            obtain ⟨Q, hQ⟩ : ∃ Q, L[i - 1] = Q := ⟨_, rfl⟩
            have hQm : Q ∈ L := hQ ▸ List.getElem_mem hlt1
            have hQi := hLi Q hQm
            have hg1 : L[i - 1]? = some Q := by rw [List.getElem?_eq_getElem hlt1, hQ]
            have wi1 : IntKind.i64.wrap ((i : Int) - 1) = ((i - 1 : Nat) : Int) := by rw [wrap_id (by omega) (by omega)]; omega
            have hlt2 : pidx Q < pidx (Px, Py) := by
              have := List.pairwise_iff_getElem.1 hLs (i - 1) i hlt1 hlt (by omega)
              rw [hQ, hP] at this; exact this
            obtain ⟨Qx, Qy⟩ := Q
            have hx1 := rindex_ok Qx Qy
            have hx2 := rindex_ok Px Py
            have r1 : rightP Qx Qy = true := hQi
            have r2 : rightP Px Py = true := hPi
            rw [if_pos r1] at hx1
            rw [if_pos r2] at hx2
            have q1 := hQi.lt
            have q2 := hPi.lt
            have hlt3 : ¬ Py * 16 + Px ≤ Qy * 16 + Qx := by unfold pidx at hlt2; simp only at hlt2 q1 q2; omega
            repeat' (first
              | refine aw_seq ?_
              | ((first | refine aw_run [9, 17] ?_ | refine aw_ymix [9, 17] draws (by decide +kernel) ?_); try simp -implicitDefEqProofs (maxSteps := 1000000) [hlti, hli2, hg, wi, pl, hi0i, hi0n, wi1, hg1, hlt3])
              | ((first | refine aw_zrun [9, 17] [] draws (by decide +kernel) (by decide +kernel) ?_ | refine zl_skip (by simp) rfl ?_ | refine zl_pure_guard (by simp) rfl rfl rfl (by first | assumption | kernel_rfl) rfl (fun hc => by first | exact hUi | exact hx1 | exact hx2) (by simp) (by simp) (by simp) ?_ | refine zl_pure (by simp) rfl rfl rfl (by first | assumption | kernel_rfl) rfl (by first | exact hUi | exact hx1 | exact hx2) (by simp) (by simp) ?_); try simp -implicitDefEqProofs (maxSteps := 1000000) [hlti, hli2, hg, wi, pl, hi0i, hi0n, wi1, hg1, hlt3]; repeat first | refine zcurL (by decide +kernel) ?_ | refine zcurH (by decide +kernel) ?_ | refine zcurL' (by decide +kernel) ?_ | refine zcurH' (by decide +kernel) ?_)
              | ((first | refine aw_yrun draws (by kernel_rfl) ?_ | refine awl_skip' [9, 17] rfl ?_ | refine yl_skip rfl ?_ | refine awl_pure_guard [9, 17] rfl rfl rfl (by first | assumption | kernel_rfl) rfl (fun hc => by first | exact hUi | exact hx1 | exact hx2) (by simp) (by simp) (by simp) ?_ | refine yl_pureG rfl rfl rfl (by first | assumption | kernel_rfl) rfl (fun hc => by first | exact hUi | exact hx1 | exact hx2) (by simp) (by simp) (by simp) ?_ | refine awl_pure' [9, 17] rfl rfl rfl (by first | assumption | kernel_rfl) rfl (by first | exact hUi | exact hx1 | exact hx2) (by simp) (by simp) ?_ | refine yl_pure rfl rfl rfl (by first | assumption | kernel_rfl) rfl (by first | exact hUi | exact hx1 | exact hx2) (by simp) (by simp) ?_ | refine aw_skip ?_ | refine aw_exit ?_); try simp -implicitDefEqProofs (maxSteps := 1000000) [hlti, hli2, hg, wi, pl, hi0i, hi0n, wi1, hg1, hlt3])
              | (refine aw_cond rfl (fun h => ?_) (fun h => ?_) <;> try (with_reducible first | exact ff_tt h | exact tt_ff h))
              | refine aw_block ?_
              | refine aw_ret (ret_of (.inr rfl) (by simp [Try.results4]; rfl) (Fin.of ?_))
              | refine ret_of (.inl rfl) (by simp [Try.results4]; rfl) (Fin.of ?_))
            exact ⟨q - 1, by omega, mkSt [(0, [vi uk, vi un, vi ua, vi ub, vi uc, vi ud, vs uw, .vsl (avs uks)])] [] N, le_mkSt (by simp) (by simp) (Nat.le_refl _), i + 1, by omega, ⟨_, rfl⟩, hhn.symm, by omega⟩
        · have hlti : ¬ (i : Int) < L.length := by omega
          rw [List.take_of_length_le (by omega)]
          have hlll : ((L.map pl).length : Int) = L.length := by rw [List.length_map]
          have hall : hasL px py L = usesB px py (.mk k n a b c d w ks) := by
            apply Bool.eq_iff_iff.2
            rw [← hLm (px, py)]
            unfold hasL
            simp only [List.any_eq_true, Bool.and_eq_true, decide_eq_true_eq]
            exact ⟨fun ⟨p, hp, h1, h2⟩ => by rw [← h1, ← h2]; exact hp, fun hp => ⟨(px, py), hp, rfl, rfl⟩⟩
          have hUp := hU px py
          rw [hall]
          generalize usesB px py (.mk k n a b c d w ks) = us at *
          by_cases hBB : BU = BD
          · have hBBi : (BU : Int) = BD := by omega
            have hok := hbo.1 hBB
            by_cases hL0 : L.length = 0
            · have hL0i : (L.length : Int) = 0 := by omega
              have hi00 : ¬ (i : Int) < 0 := by omega
              have hLn : L = [] := List.length_eq_zero_iff.1 hL0
              have hMn := hML0 hLn
              repeat' (first
                | refine aw_seq ?_
                | ((first | refine aw_run [9, 17] ?_ | refine aw_ymix [9, 17] draws (by decide +kernel) ?_); try simp -implicitDefEqProofs (maxSteps := 1000000) [hlti, hBBi, hL0i, hlll, hi00])
                | ((first | refine aw_zrun [9, 17] [] draws (by decide +kernel) (by decide +kernel) ?_ | refine zl_skip (by simp) rfl ?_ | refine zl_pure_guard (by simp) rfl rfl rfl (by first | assumption | kernel_rfl) rfl (fun hc => by first | exact hUp | exact hBu | exact hB | exact hA) (by simp) (by simp) (by simp) ?_ | refine zl_pure (by simp) rfl rfl rfl (by first | assumption | kernel_rfl) rfl (by first | exact hUp | exact hBu | exact hB | exact hA) (by simp) (by simp) ?_); try simp -implicitDefEqProofs (maxSteps := 1000000) [hlti, hBBi, hL0i, hlll, hi00]; repeat first | refine zcurL (by decide +kernel) ?_ | refine zcurH (by decide +kernel) ?_ | refine zcurL' (by decide +kernel) ?_ | refine zcurH' (by decide +kernel) ?_)
                | ((first | refine aw_yrun draws (by kernel_rfl) ?_ | refine awl_skip' [9, 17] rfl ?_ | refine yl_skip rfl ?_ | refine awl_pure_guard [9, 17] rfl rfl rfl (by first | assumption | kernel_rfl) rfl (fun hc => by first | exact hUp | exact hBu | exact hB | exact hA) (by simp) (by simp) (by simp) ?_ | refine yl_pureG rfl rfl rfl (by first | assumption | kernel_rfl) rfl (fun hc => by first | exact hUp | exact hBu | exact hB | exact hA) (by simp) (by simp) (by simp) ?_ | refine awl_pure' [9, 17] rfl rfl rfl (by first | assumption | kernel_rfl) rfl (by first | exact hUp | exact hBu | exact hB | exact hA) (by simp) (by simp) ?_ | refine yl_pure rfl rfl rfl (by first | assumption | kernel_rfl) rfl (by first | exact hUp | exact hBu | exact hB | exact hA) (by simp) (by simp) ?_ | refine aw_skip ?_ | refine aw_exit ?_); try simp -implicitDefEqProofs (maxSteps := 1000000) [hlti, hBBi, hL0i, hlll, hi00])
                | (refine aw_cond rfl (fun h => ?_) (fun h => ?_) <;> try (with_reducible first | exact ff_tt h | exact tt_ff h))
                | refine aw_block ?_
                | refine aw_ret (ret_of (.inr rfl) (by simp [Try.results4]; rfl) (Fin.of ?_))
                | refine ret_of (.inl rfl) (by simp [Try.results4]; rfl) (Fin.of ?_))
              simp [tupOf, hMn]
            · have hL0i : ¬ (L.length : Int) = 0 := by omega
              have hLn : ¬ L = [] := fun e => hL0 (by rw [e]; rfl)
              obtain ⟨s1, s2, s3, s4⟩ := hSm hok hLn
              have hMe := hMs hok
              have hMl : M.length = L.length := by rw [hMe]; simp [shl]
              have hMli : (M.length : Int) = L.length := by rw [hMl]
              have hMgt : ∀ j (h : j < L.length), M[j]? = some (L[j].1 + bx, L[j].2 + by_) := fun j h => by rw [hMe]; simp [shl, h]
              have hBk2 := hBk hok ⟨by omega, by omega⟩ ⟨by omega, by omega⟩
              have wn1 : IntKind.i64.wrap (-bx) = -bx := wrap_id (by omega) (by omega)
              have wn2 : IntKind.i64.wrap (-by_) = -by_ := wrap_id (by omega) (by omega)
              clear hML0 hMs hSm hBk hMe
              repeat' (first
                | refine aw_seq ?_
                | ((first | refine aw_run [9, 17] ?_ | refine aw_ymix [9, 17] draws (by decide +kernel) ?_); try simp -implicitDefEqProofs (maxSteps := 1000000) [hlti, hBBi, hL0i, hlll, hLn, hMli])
                | ((first | refine aw_zrun [9, 17] [] draws (by decide +kernel) (by decide +kernel) ?_ | refine zl_skip (by simp) rfl ?_ | refine zl_pure_guard (by simp) rfl rfl rfl (by first | assumption | kernel_rfl) rfl (fun hc => by first | exact hUp | exact hBu | exact hB | exact hA) (by simp) (by simp) (by simp) ?_ | refine zl_pure (by simp) rfl rfl rfl (by first | assumption | kernel_rfl) rfl (by first | exact hUp | exact hBu | exact hB | exact hA) (by simp) (by simp) ?_); try simp -implicitDefEqProofs (maxSteps := 1000000) [hlti, hBBi, hL0i, hlll, hLn, hMli]; repeat first | refine zcurL (by decide +kernel) ?_ | refine zcurH (by decide +kernel) ?_ | refine zcurL' (by decide +kernel) ?_ | refine zcurH' (by decide +kernel) ?_)
                | ((first | refine aw_yrun draws (by kernel_rfl) ?_ | refine awl_skip' [9, 17] rfl ?_ | refine yl_skip rfl ?_ | refine awl_pure_guard [9, 17] rfl rfl rfl (by first | assumption | kernel_rfl) rfl (fun hc => by first | exact hUp | exact hBu | exact hB | exact hA) (by simp) (by simp) (by simp) ?_ | refine yl_pureG rfl rfl rfl (by first | assumption | kernel_rfl) rfl (fun hc => by first | exact hUp | exact hBu | exact hB | exact hA) (by simp) (by simp) (by simp) ?_ | refine awl_pure' [9, 17] rfl rfl rfl (by first | assumption | kernel_rfl) rfl (by first | exact hUp | exact hBu | exact hB | exact hA) (by simp) (by simp) ?_ | refine yl_pure rfl rfl rfl (by first | assumption | kernel_rfl) rfl (by first | exact hUp | exact hBu | exact hB | exact hA) (by simp) (by simp) ?_ | refine aw_skip ?_ | refine aw_exit ?_); try simp -implicitDefEqProofs (maxSteps := 1000000) [hlti, hBBi, hL0i, hlll, hLn, hMli])
                | (refine aw_cond rfl (fun h => ?_) (fun h => ?_) <;> try (with_reducible first | exact ff_tt h | exact tt_ff h))
                | refine aw_block ?_
                | refine aw_ret (ret_of (.inr rfl) (by simp [Try.results4]; rfl) (Fin.of ?_))
                | refine ret_of (.inl rfl) (by simp [Try.results4]; rfl) (Fin.of ?_))
              refine aw_loopW [3, 4, 9, 11, 12, 16] (fun q fr σ => ∃ j N : Nat, j + q = L.length ∧ σ = mkSt [(0, [vi uk, vi un, vi ua, vi ub, vi uc, vi ud, vs uw, .vsl (avs uks)])] [] N ∧ fr = frm 187 [(3, .vel [.agg [vi k, vi n, vi a, vi b, vi c, vi d, vs w, .vsl (avs ks)]] 0 0), (4, .vel [place bx by_] 0 0), (9, .ptr 0 0), (11, .vsl (L.map pl)), (12, .vsl (M.map pl)), (16, vi (j : Nat))]) L.length ?_ ?_
              · exact ⟨_, le_mkSt (bs := [(0, [vi uk, vi un, vi ua, vi ub, vi uc, vi ud, vs uw, .vsl (avs uks)])]) (ss := []) (n := N) (by simp) (by simp) (by simp), 0, N, by omega, rfl, by simp⟩
              · rintro q2 fr σ ⟨j, N2, hj, rfl, rfl⟩
                simp -implicitDefEqProofs
                by_cases hlt2 : j < L.length
                · have hltj : (j : Int) < L.length := by omega
                  obtain ⟨P, hP⟩ : ∃ P, L[j] = P := ⟨_, rfl⟩
                  have hg : L[j]? = some P := by rw [List.getElem?_eq_getElem hlt2, hP]
                  have hg2 := hMgt j hlt2
                  rw [hP] at hg2
                  have hPi := (hLi P (hP ▸ List.getElem_mem hlt2)).lt
                  have hPr : rightP P.1 P.2 = true := hLi P (hP ▸ List.getElem_mem hlt2)
                  simp only [rightP, Bool.and_eq_true, decide_eq_true_eq] at hPr
                  have wj : IntKind.i64.wrap ((j : Int) + 1) = (j : Int) + 1 := wrap_id (by omega) (by omega)
                  obtain ⟨Px, Py⟩ := P
                  simp only at hPr hg2
                  have w1 : IntKind.i64.wrap (Px + bx - Px) = bx := by rw [show Px + bx - Px = bx by omega]; exact wrap_id (by omega) (by omega)
                  have w2 : IntKind.i64.wrap (Py + by_ - Py) = by_ := by rw [show Py + by_ - Py = by_ by omega]; exact wrap_id (by omega) (by omega)
                  have w3 : IntKind.i64.wrap bx = bx := wrap_id (by omega) (by omega)
                  have w4 : IntKind.i64.wrap by_ = by_ := wrap_id (by omega) (by omega)
                  repeat' (first
                    | refine aw_seq ?_
                    | ((first | refine aw_run [9, 17] ?_ | refine aw_ymix [9, 17] draws (by decide +kernel) ?_); try simp -implicitDefEqProofs (maxSteps := 1000000) [hltj, hg, hg2, pl, wj, w1, w2, w3, w4])
                    | ((first | refine aw_zrun [9, 17] [] draws (by decide +kernel) (by decide +kernel) ?_ | refine zl_skip (by simp) rfl ?_); try simp -implicitDefEqProofs (maxSteps := 1000000) [hltj, hg, hg2, pl, wj, w1, w2, w3, w4]; repeat first | refine zcurL (by decide +kernel) ?_ | refine zcurH (by decide +kernel) ?_ | refine zcurL' (by decide +kernel) ?_ | refine zcurH' (by decide +kernel) ?_)
                    | ((first | refine aw_yrun draws (by kernel_rfl) ?_ | refine awl_skip' [9, 17] rfl ?_ | refine yl_skip rfl ?_ | refine aw_skip ?_ | refine aw_exit ?_); try simp -implicitDefEqProofs (maxSteps := 1000000) [hltj, hg, hg2, pl, wj, w1, w2, w3, w4])
                    | (refine aw_cond rfl (fun h => ?_) (fun h => ?_) <;> try (with_reducible first | exact ff_tt h | exact tt_ff h))
                    | refine aw_block ?_
                    | refine aw_ret (ret_of (.inr rfl) (by simp [Try.results4]; rfl) (Fin.of ?_))
                    | refine ret_of (.inl rfl) (by simp [Try.results4]; rfl) (Fin.of ?_))
                  exact ⟨q2 - 1, by omega, mkSt [(0, [vi uk, vi un, vi ua, vi ub, vi uc, vi ud, vs uw, .vsl (avs uks)])] [] N2, le_mkSt (by simp) (by simp) (Nat.le_refl _), j + 1, by omega, ⟨_, rfl⟩, by omega⟩
                · have hltj : ¬ (j : Int) < L.length := by omega
                  repeat' (first
                    | refine aw_seq ?_
                    | ((first | refine aw_run [9, 17] ?_ | refine aw_ymix [9, 17] draws (by decide +kernel) ?_); try simp -implicitDefEqProofs (maxSteps := 1000000) [hltj, wn1, wn2])
                    | ((first | refine aw_zrun [9, 17] [] draws (by decide +kernel) (by decide +kernel) ?_ | refine zl_skip (by simp) rfl ?_ | refine zl_pure_guard (by simp) rfl rfl rfl (by first | assumption | kernel_rfl) rfl (fun hc => by first | exact hBk2 | exact hE | exact hA) (by simp) (by simp) (by simp) ?_ | refine zl_pure (by simp) rfl rfl rfl (by first | assumption | kernel_rfl) rfl (by first | exact hBk2 | exact hE | exact hA) (by simp) (by simp) ?_); try simp -implicitDefEqProofs (maxSteps := 1000000) [hltj, wn1, wn2]; repeat first | refine zcurL (by decide +kernel) ?_ | refine zcurH (by decide +kernel) ?_ | refine zcurL' (by decide +kernel) ?_ | refine zcurH' (by decide +kernel) ?_)
                    | ((first | refine aw_yrun draws (by kernel_rfl) ?_ | refine awl_skip' [9, 17] rfl ?_ | refine yl_skip rfl ?_ | refine awl_pure_guard [9, 17] rfl rfl rfl (by first | assumption | kernel_rfl) rfl (fun hc => by first | exact hBk2 | exact hE | exact hA) (by simp) (by simp) (by simp) ?_ | refine yl_pureG rfl rfl rfl (by first | assumption | kernel_rfl) rfl (fun hc => by first | exact hBk2 | exact hE | exact hA) (by simp) (by simp) (by simp) ?_ | refine awl_pure' [9, 17] rfl rfl rfl (by first | assumption | kernel_rfl) rfl (by first | exact hBk2 | exact hE | exact hA) (by simp) (by simp) ?_ | refine yl_pure rfl rfl rfl (by first | assumption | kernel_rfl) rfl (by first | exact hBk2 | exact hE | exact hA) (by simp) (by simp) ?_ | refine aw_skip ?_ | refine aw_exit ?_); try simp -implicitDefEqProofs (maxSteps := 1000000) [hltj, wn1, wn2])
                    | (refine aw_cond rfl (fun h => ?_) (fun h => ?_) <;> try (with_reducible first | exact ff_tt h | exact tt_ff h))
                    | refine aw_block ?_
                    | refine aw_ret (ret_of (.inr rfl) (by simp [Try.results4]; rfl) (Fin.of ?_))
                    | refine ret_of (.inl rfl) (by simp [Try.results4]; rfl) (Fin.of ?_))
                  simp [tupOf]
          · have hBBi : ¬ (BU : Int) = BD := by omega
            repeat' (first
              | refine aw_seq ?_
              | ((first | refine aw_run [9, 17] ?_ | refine aw_ymix [9, 17] draws (by decide +kernel) ?_); try simp -implicitDefEqProofs (maxSteps := 1000000) [hlti, hBBi, hlll])
              | ((first | refine aw_zrun [9, 17] [] draws (by decide +kernel) (by decide +kernel) ?_ | refine zl_skip (by simp) rfl ?_ | refine zl_pure_guard (by simp) rfl rfl rfl (by first | assumption | kernel_rfl) rfl (fun hc => by first | exact hUp | exact hBu | exact hB | exact hA) (by simp) (by simp) (by simp) ?_ | refine zl_pure (by simp) rfl rfl rfl (by first | assumption | kernel_rfl) rfl (by first | exact hUp | exact hBu | exact hB | exact hA) (by simp) (by simp) ?_); try simp -implicitDefEqProofs (maxSteps := 1000000) [hlti, hBBi, hlll]; repeat first | refine zcurL (by decide +kernel) ?_ | refine zcurH (by decide +kernel) ?_ | refine zcurL' (by decide +kernel) ?_ | refine zcurH' (by decide +kernel) ?_)
              | ((first | refine aw_yrun draws (by kernel_rfl) ?_ | refine awl_skip' [9, 17] rfl ?_ | refine yl_skip rfl ?_ | refine awl_pure_guard [9, 17] rfl rfl rfl (by first | assumption | kernel_rfl) rfl (fun hc => by first | exact hUp | exact hBu | exact hB | exact hA) (by simp) (by simp) (by simp) ?_ | refine yl_pureG rfl rfl rfl (by first | assumption | kernel_rfl) rfl (fun hc => by first | exact hUp | exact hBu | exact hB | exact hA) (by simp) (by simp) (by simp) ?_ | refine awl_pure' [9, 17] rfl rfl rfl (by first | assumption | kernel_rfl) rfl (by first | exact hUp | exact hBu | exact hB | exact hA) (by simp) (by simp) ?_ | refine yl_pure rfl rfl rfl (by first | assumption | kernel_rfl) rfl (by first | exact hUp | exact hBu | exact hB | exact hA) (by simp) (by simp) ?_ | refine aw_skip ?_ | refine aw_exit ?_); try simp -implicitDefEqProofs (maxSteps := 1000000) [hlti, hBBi, hlll])
              | (refine aw_cond rfl (fun h => ?_) (fun h => ?_) <;> try (with_reducible first | exact ff_tt h | exact tt_ff h))
              | refine aw_block ?_
              | refine aw_ret (ret_of (.inr rfl) (by simp [Try.results4]; rfl) (Fin.of ?_))
              | refine ret_of (.inl rfl) (by simp [Try.results4]; rfl) (Fin.of ?_))
            by_cases hLn : L = []
            · have hMn := hML0 hLn
              simp [tupOf, hMn]
            · have : 0 < L.length := List.length_pos_iff.2 hLn
              simp [tupOf, this]
    · rw [eq_false_of_ne_true hr] at hX
      obtain ⟨k, n, a, b, c, d, w, ks⟩ := t
      rw [Tree.av] at hF hX ⊢
      refine apure_of Try.func4 Try.ntmps4 rfl ?_
      simp only [List.length_cons, List.length_nil, List.cons_append, List.nil_append, List.replicate]
      repeat' (first
        | refine aw_seq ?_
        | ((first | refine aw_run [9, 17] ?_ | refine aw_ymix [9, 17] draws (by decide +kernel) ?_); try simp -implicitDefEqProofs (maxSteps := 1000000))
        | ((first | refine aw_zrun [9, 17] [] draws (by decide +kernel) (by decide +kernel) ?_ | refine zl_skip (by simp) rfl ?_ | refine zl_pure_guard (by simp) rfl rfl rfl (by first | assumption | kernel_rfl) rfl (fun hc => by first | exact hF | exact hA | exact hX) (by simp) (by simp) (by simp) ?_ | refine zl_pure (by simp) rfl rfl rfl (by first | assumption | kernel_rfl) rfl (by first | exact hF | exact hA | exact hX) (by simp) (by simp) ?_); try simp -implicitDefEqProofs (maxSteps := 1000000); repeat first | refine zcurL (by decide +kernel) ?_ | refine zcurH (by decide +kernel) ?_ | refine zcurL' (by decide +kernel) ?_ | refine zcurH' (by decide +kernel) ?_)
        | ((first | refine aw_yrun draws (by kernel_rfl) ?_ | refine awl_skip' [9, 17] rfl ?_ | refine yl_skip rfl ?_ | refine awl_pure_guard [9, 17] rfl rfl rfl (by first | assumption | kernel_rfl) rfl (fun hc => by first | exact hF | exact hA | exact hX) (by simp) (by simp) (by simp) ?_ | refine yl_pureG rfl rfl rfl (by first | assumption | kernel_rfl) rfl (fun hc => by first | exact hF | exact hA | exact hX) (by simp) (by simp) (by simp) ?_ | refine awl_pure' [9, 17] rfl rfl rfl (by first | assumption | kernel_rfl) rfl (by first | exact hF | exact hA | exact hX) (by simp) (by simp) ?_ | refine yl_pure rfl rfl rfl (by first | assumption | kernel_rfl) rfl (by first | exact hF | exact hA | exact hX) (by simp) (by simp) ?_ | refine aw_skip ?_ | refine aw_exit ?_); try simp -implicitDefEqProofs (maxSteps := 1000000))
        | (refine aw_cond rfl (fun h => ?_) (fun h => ?_) <;> try (with_reducible first | exact ff_tt h | exact tt_ff h))
        | refine aw_block ?_
        | refine aw_ret (ret_of (.inr rfl) (by simp [Try.results4]; rfl) (Fin.of ?_))
        | refine ret_of (.inl rfl) (by simp [Try.results4]; rfl) (Fin.of ?_))
      all_goals first | (simp [tupOf]; done) | trace_state
  · rw [eq_false_of_ne_true hf] at hF
    obtain ⟨k, n, a, b, c, d, w, ks⟩ := t
    rw [Tree.av] at hF ⊢
    refine apure_of Try.func4 Try.ntmps4 rfl ?_
    simp only [List.length_cons, List.length_nil, List.cons_append, List.nil_append, List.replicate]
    repeat' (first
      | refine aw_seq ?_
      | ((first | refine aw_run [9, 17] ?_ | refine aw_ymix [9, 17] draws (by decide +kernel) ?_); try simp -implicitDefEqProofs (maxSteps := 1000000))
      | ((first | refine aw_zrun [9, 17] [] draws (by decide +kernel) (by decide +kernel) ?_ | refine zl_skip (by simp) rfl ?_ | refine zl_pure_guard (by simp) rfl rfl rfl (by first | assumption | kernel_rfl) rfl (fun hc => by first | exact hF | exact hA) (by simp) (by simp) (by simp) ?_ | refine zl_pure (by simp) rfl rfl rfl (by first | assumption | kernel_rfl) rfl (by first | exact hF | exact hA) (by simp) (by simp) ?_); try simp -implicitDefEqProofs (maxSteps := 1000000); repeat first | refine zcurL (by decide +kernel) ?_ | refine zcurH (by decide +kernel) ?_ | refine zcurL' (by decide +kernel) ?_ | refine zcurH' (by decide +kernel) ?_)
      | ((first | refine aw_yrun draws (by kernel_rfl) ?_ | refine awl_skip' [9, 17] rfl ?_ | refine yl_skip rfl ?_ | refine awl_pure_guard [9, 17] rfl rfl rfl (by first | assumption | kernel_rfl) rfl (fun hc => by first | exact hF | exact hA) (by simp) (by simp) (by simp) ?_ | refine yl_pureG rfl rfl rfl (by first | assumption | kernel_rfl) rfl (fun hc => by first | exact hF | exact hA) (by simp) (by simp) (by simp) ?_ | refine awl_pure' [9, 17] rfl rfl rfl (by first | assumption | kernel_rfl) rfl (by first | exact hF | exact hA) (by simp) (by simp) ?_ | refine yl_pure rfl rfl rfl (by first | assumption | kernel_rfl) rfl (by first | exact hF | exact hA) (by simp) (by simp) ?_ | refine aw_skip ?_ | refine aw_exit ?_); try simp -implicitDefEqProofs (maxSteps := 1000000))
      | (refine aw_cond rfl (fun h => ?_) (fun h => ?_) <;> try (with_reducible first | exact ff_tt h | exact tt_ff h))
      | refine aw_block ?_
      | refine aw_ret (ret_of (.inr rfl) (by simp [Try.results4]; rfl) (Fin.of ?_))
      | refine ret_of (.inl rfl) (by simp [Try.results4]; rfl) (Fin.of ?_))
    all_goals first | (simp [tupOf]; done) | trace_state
theorem ShapeBack_all (x : AV) (b0 b1 c0 c1 : Int) (hx : HasT Try.prog 29 x) (h0 : (Lit.int .i64 b0).wf = true) (h1 : (Lit.int .i64 b1).wf = true) (h2 : (Lit.int .i64 c0).wf = true) (h3 : (Lit.int .i64 c1).wf = true) :
    APure Try.prog 4 [x, place b0 b1, place c0 c1] (vb true) := by
  obtain ⟨n, hx⟩ := hx
  obtain ⟨t, rfl, ht⟩ := tree_has n x hx
  exact shapeBack_ok t b0 b1 c0 c1 (in_sh t ht) (.of_wf h0) (.of_wf h1)
end Go.AL
