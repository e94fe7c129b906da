/- Parts of the proof of MonoTells: the logic, contracts, plain laws. -/
import Derived.Test.YtadahjmamgidnaaZMonoTells26
/-! Contracts: mono's sheet, its kids, its ops. -/
namespace Go.AL
open Go.Proofs
set_option linter.unusedSimpArgs false
set_option linter.unusedVariables false
set_option maxRecDepth 100000 in
theorem shT : tmapS Try.prog 89 = some (24, 44) := by kernel_rfl
set_option maxRecDepth 100000 in
theorem shK (x y : Int) : keyok Try.prog 24 [vi x, vi y] = true := by simp [keyok]
set_option maxRecDepth 100000 in
theorem shE (x y a b : Int) : aeqF Try.prog 5 24 (.agg [vi x, vi y]) (.agg [vi a, vi b]) = some (decide (x = a) && decide (y = b)) := by simp
def kys (l : List (Int × Int × Int)) : List AV := l.map fun p => .agg [vi p.1, vi p.2.1]
def kvs (l : List (Int × Int × Int)) : List AV := l.map fun p => vi p.2.2
def shv (l : List (Int × Int × Int)) : AV := .vmp (kys l) (kvs l)
@[simp] theorem cl_shv (l : List (Int × Int × Int)) : Cl (shv l) = True := eq_true (.vmp _ _ (fun c hc => by
  obtain ⟨p, _, rfl⟩ := List.mem_map.1 hc
  exact .agg _ (by simp)) (fun c hc => by
  obtain ⟨p, _, rfl⟩ := List.mem_map.1 hc
  exact .p _))
def ixK : List (Int × Int × Int) → Int → Int → Nat → Option Nat
  | [], _, _, _ => none
  | (a, b, w) :: l, x, y, i => if x = a ∧ y = b then some i else ixK l x y (i + 1)
def gotK : List (Int × Int × Int) → Int → Int → Int
  | [], _, _ => 0
  | (a, b, w) :: l, x, y => if x = a ∧ y = b then w else gotK l x y
theorem shF (x y : Int) : ∀ (l : List (Int × Int × Int)) (i : Nat), vfind Try.prog 24 (.agg [vi x, vi y]) (kys l) i = some (ixK l x y i)
  | [], i => rfl
  | (a, b, w) :: l, i => by
    have ih := shF x y l (i + 1)
    have e : kys ((a, b, w) :: l) = .agg [vi a, vi b] :: kys l := rfl
    rw [e, vfind, shE, ixK]
    by_cases h : x = a ∧ y = b
    · rw [if_pos h]; simp [h.1, h.2]
    · rw [if_neg h, show (decide (x = a) && decide (y = b)) = false by simpa using h]
      exact ih
theorem shI (x y : Int) : ∀ (l : List (Int × Int × Int)) (i : Nat), match ixK l x y i with
    | none => gotK l x y = 0
    | some j => i ≤ j ∧ (kvs l)[j - i]? = some (vi (gotK l x y))
  | [], i => rfl
  | (a, b, w) :: l, i => by
    have ih := shI x y l (i + 1)
    rw [ixK, gotK]
    by_cases h : x = a ∧ y = b
    · rw [if_pos h, if_pos h]
      exact ⟨Nat.le_refl _, by simp [kvs]⟩
    · rw [if_neg h, if_neg h]
      cases hq : ixK l x y (i + 1) with
      | none => rw [hq] at ih; exact ih
      | some j =>
        rw [hq] at ih
        obtain ⟨h1, h2⟩ := ih
        refine ⟨by omega, ?_⟩
        rw [show j - i = (j - (i + 1)) + 1 by omega]
        exact h2
theorem shG (l : List (Int × Int × Int)) (x y : Int) : vgot Try.prog 44 (kvs l) (ixK l x y 0) (vi (gotK l x y)) := by
  have := shI x y l 0
  unfold vgot
  cases hq : ixK l x y 0 with
  | none => rw [hq] at this; simp only at this ⊢; rw [this]; exact tz44
  | some j => rw [hq] at this; exact this.2
theorem join1_ok (a : Int) : APure Try.prog 28 [.vsl [vi a]] (vi (joinW [a])) := join_ok [a] (by simp)
theorem join2_ok (a b : Int) : APure Try.prog 28 [.vsl [vi a, vi b]] (vi (joinW [a, b])) := join_ok [a, b] (by simp)
theorem still2_ok (a b : Int) : APure Try.prog 107 [.vsl [vi a, vi b]] (vi (if joinW [a, b] = 0 then 0 else 3)) := still_ok [a, b] (by simp)
def MWayP (L : List (Int × Int × Int)) (t : Tree) : Prop := t.In → mayB t = true → APure Try.prog 56 [shv L, t.av] (vi (wayT (gotK L) t))
set_option maxHeartbeats 16000000 in
set_option maxRecDepth 100000 in
theorem mop_ok (L : List (Int × Int × Int)) (k n a b c d : Int) (w : ByteArray) (u v : Tree) (A B : Int) (p q : Bool) (M N : Int) (hA : InW A) (hB : InW B)
    (hu : APure Try.prog 56 [shv L, u.av] (vi A)) (hv : APure Try.prog 56 [shv L, v.av] (vi B))
    (cu : APure Try.prog 105 [u.av] (.tup [vi M, vb p])) (cv : APure Try.prog 105 [v.av] (.tup [vi N, vb q])) :
    APure Try.prog 82 [shv L, .agg [vi k, vi n, vi a, vi b, vi c, vi d, vs w, .vsl (avs [u, v])]] (vi (opW w A B p M q N)) := by
  have e1 := joinW2 (b := B) hA
  have e2 := joinW2 (b := flipW B) hA
  have e3 := joinW2 (b := flipW A) hB
  have e4 := st_join hA hB
  unfold opW byW
  rw [← e1, ← e2, ← e3, ← e4]
  obtain ⟨uk, un, ua, ub, uc, ud, uw, uks⟩ := u
  obtain ⟨vk, vn, va, vb', vc, vd, vw, vks⟩ := v
  rw [Tree.av] at hu hv cu cv
  simp only [avs, Tree.av]
  clear e1 e2 e3 e4
  refine apure_of Try.func82 Try.ntmps82 rfl ?_
  simp only [List.length_cons, List.length_nil, List.cons_append, List.nil_append, List.replicate]
  repeat' (first
    | refine aw_seq ?_
    | ((first | refine aw_run [] ?_ | refine aw_ymix [] draws (by decide +kernel) ?_); try simp -implicitDefEqProofs (maxSteps := 1000000))
    | ((first | refine aw_zrun [] [] draws (by decide +kernel) (by decide +kernel) ?_ | refine zl_skip (by simp) rfl ?_ | refine zl_pure_guard (by simp) rfl rfl rfl (by first | assumption | kernel_rfl) rfl (fun hc => by first | exact hu | exact hv | exact cu | exact cv | exact join2_ok _ _ | exact flip_ok _ | exact times_ok _ _ | exact still2_ok _ _) (by simp) (by simp) (by simp) ?_ | refine zl_pure (by simp) rfl rfl rfl (by first | assumption | kernel_rfl) rfl (by first | exact hu | exact hv | exact cu | exact cv | exact join2_ok _ _ | exact flip_ok _ | exact times_ok _ _ | exact still2_ok _ _) (by simp) (by simp) ?_); try simp -implicitDefEqProofs (maxSteps := 1000000); repeat first | refine zcurL (by decide +kernel) ?_ | refine zcurH (by decide +kernel) ?_ | refine zcurL' (by decide +kernel) ?_ | refine zcurH' (by decide +kernel) ?_)
    | ((first | refine aw_yrun draws (by kernel_rfl) ?_ | refine awl_skip' [] rfl ?_ | refine yl_skip rfl ?_ | refine awl_pure_guard [] rfl rfl rfl (by first | assumption | kernel_rfl) rfl (fun hc => by first | exact hu | exact hv | exact cu | exact cv | exact join2_ok _ _ | exact flip_ok _ | exact times_ok _ _ | exact still2_ok _ _) (by simp) (by simp) (by simp) ?_ | refine yl_pureG rfl rfl rfl (by first | assumption | kernel_rfl) rfl (fun hc => by first | exact hu | exact hv | exact cu | exact cv | exact join2_ok _ _ | exact flip_ok _ | exact times_ok _ _ | exact still2_ok _ _) (by simp) (by simp) (by simp) ?_ | refine awl_pure' [] rfl rfl rfl (by first | assumption | kernel_rfl) rfl (by first | exact hu | exact hv | exact cu | exact cv | exact join2_ok _ _ | exact flip_ok _ | exact times_ok _ _ | exact still2_ok _ _) (by simp) (by simp) ?_ | refine yl_pure rfl rfl rfl (by first | assumption | kernel_rfl) rfl (by first | exact hu | exact hv | exact cu | exact cv | exact join2_ok _ _ | exact flip_ok _ | exact times_ok _ _ | exact still2_ok _ _) (by simp) (by simp) ?_ | refine aw_skip ?_ | refine aw_exit ?_); try simp -implicitDefEqProofs (maxSteps := 1000000))
    | (refine aw_cond rfl (fun h => ?_) (fun h => ?_) <;> try (with_reducible first | exact ff_tt h | exact tt_ff h))
    | refine aw_block ?_
    | refine aw_ret (ret_of (.inr rfl) (by simp [Try.results82]; rfl) (Fin.of ?_))
    | refine ret_of (.inl rfl) (by simp [Try.results82]; rfl) (Fin.of ?_))
  all_goals first | (simp_all [tupOf]; done) | trace_state
end Go.AL
/-! Contracts: (mono.sheet).of, mono.Of. -/
namespace Go.AL
open Go.Proofs
set_option linter.unusedSimpArgs false
set_option linter.unusedVariables false
theorem vis_snoc (l : List Int) (w : Int) : vis (l ++ [w]) = vis l ++ [vi w] := by simp [vis]
set_option maxHeartbeats 16000000 in
set_option maxRecDepth 100000 in
theorem mkids_ok (L : List (Int × Int × Int)) (k n a b c d : Int) (w : ByteArray) (ks : List Tree) (W : List Int) (hlk : ks.length ≤ 1000000000) (hWl : W.length = ks.length)
    (hr : ∀ (i : Nat) (t : Tree), ks[i]? = some t → ∃ x, W[i]? = some x ∧ APure Try.prog 56 [shv L, t.av] (vi x)) :
    APure Try.prog 83 [shv L, .agg [vi k, vi n, vi a, vi b, vi c, vi d, vs w, .vsl (avs ks)]] (.vsl (vis W)) := by
  have hl := avs_len ks
  refine apure_of Try.func83 Try.ntmps83 rfl ?_
  simp only [List.length_cons, List.length_nil, List.cons_append, List.nil_append, List.replicate]
  repeat' (first
    | refine aw_seq ?_
    | (refine aw_run [7] ?_; try simp -implicitDefEqProofs (maxSteps := 1000000) [hl])
    | ((first | refine awl_skip' [7] rfl ?_ | refine aw_skip ?_ | refine aw_exit ?_); try simp -implicitDefEqProofs (maxSteps := 1000000) [hl])
    | (refine aw_cond rfl (fun h => ?_) (fun h => ?_) <;> try (with_reducible first | exact ff_tt h | exact tt_ff h))
    | refine aw_block ?_
    | refine aw_ret (ret_of (.inr rfl) (by simp [Try.results83]; rfl) (Fin.of ?_))
    | refine ret_of (.inl rfl) (by simp [Try.results83]; rfl) (Fin.of ?_))
  refine aw_open (i := 5) rfl ?_
  refine aw_loopW [0, 5, 9, 10, 11] (fun q fr σ => ∃ k' m i : Nat, i + q = ks.length ∧ k' < m ∧ σ = mkSt [] [(k', vis (W.take i))] m ∧ fr = frm 23 [(0, shv L), (5, .hsl k' 0 i), (9, .vsl (avs ks)), (10, vi ks.length), (11, vi (i : Nat))]) ks.length ?_ ?_
  · refine ⟨_, le_mkSt (bs := []) (ss := [(0, [])]) (n := 1) (by simp) (by simp) (by decide), 0, 1, 0, by omega, by decide, by simp [vis], ?_⟩
    simp [hl, σ0]
  · rintro q fr σ ⟨k', m, i, hi, hkm, rfl, rfl⟩
    simp -implicitDefEqProofs
    have hvl : (vis (W.take i)).length = min i W.length := by rw [vis_len, List.length_take]
    by_cases hlt : i < ks.length
    · have hlti : (i : Int) < ks.length := by omega
      obtain ⟨t, ht⟩ : ∃ t, ks[i]? = some t := ⟨_, List.getElem?_eq_getElem hlt⟩
      obtain ⟨x, hx, hc⟩ := hr i t ht
      have hg := avs_get hlt
      rw [show ks[i] = t by rw [List.getElem?_eq_getElem hlt] at ht; exact Option.some.inj ht] at hg
      have hla : i < (avs ks).length := by omega
      have wi : IntKind.i64.wrap ((i : Int) + 1) = (i : Int) + 1 := wrap_id (by omega) (by omega)
      have hvn : vis (W.take (i + 1)) = vis (W.take i) ++ [vi x] := by rw [List.take_add_one, hx]; exact vis_snoc _ _
      have hvi : (vis (W.take i)).length = i := by omega
      have hVc : ∀ y ∈ vis (W.take i), y.cells.length = 1 := fun y hy => by obtain ⟨p, _, rfl⟩ := List.mem_map.1 hy; rfl
      generalize vis (W.take i) = V at *
      obtain ⟨tk, tn, ta, tb, tc, td, tw, tks⟩ := t
      rw [Tree.av] at hc hg
      repeat' (first
        | refine aw_seq ?_
        | (refine aw_run [7] ?_; try simp -implicitDefEqProofs (maxSteps := 1000000) [hlti, hl, hla, hg, wi])
        | ((first | refine awl_skip' [7] rfl ?_ | refine awl_pure_guard [7] rfl rfl rfl (by first | assumption | kernel_rfl) rfl (fun hc => by first | exact hc) (by simp) (by simp) (by simp) ?_ | refine awl_pure' [7] rfl rfl rfl (by first | assumption | kernel_rfl) rfl (by first | exact hc) (by simp) (by simp) ?_ | refine aw_skip ?_ | refine aw_exit ?_); try simp -implicitDefEqProofs (maxSteps := 1000000) [hlti, hl, hla, hg, wi])
        | (refine aw_cond rfl (fun h => ?_) (fun h => ?_) <;> try (with_reducible first | exact ff_tt h | exact tt_ff h))
        | refine aw_block ?_
        | refine aw_ret (ret_of (.inr rfl) (by simp [Try.results83]; rfl) (Fin.of ?_))
        | refine ret_of (.inl rfl) (by simp [Try.results83]; rfl) (Fin.of ?_))
      refine awl_append [7] rfl rfl rfl (xs := V) (by simp) (by omega) rfl (by simp) te45 tet45 tz44 rfl hVc (by simp) (by simp; omega) (by simp; omega) ?_
      simp -implicitDefEqProofs
      repeat' (first
        | refine aw_seq ?_
        | (refine aw_run [7] ?_; try simp -implicitDefEqProofs (maxSteps := 1000000) [wi])
        | ((first | refine awl_skip' [7] rfl ?_ | refine aw_skip ?_ | refine aw_exit ?_); try simp -implicitDefEqProofs (maxSteps := 1000000) [wi])
        | (refine aw_cond rfl (fun h => ?_) (fun h => ?_) <;> try (with_reducible first | exact ff_tt h | exact tt_ff h))
        | refine aw_block ?_
        | refine aw_ret (ret_of (.inr rfl) (by simp [Try.results83]; rfl) (Fin.of ?_))
        | refine ret_of (.inl rfl) (by simp [Try.results83]; rfl) (Fin.of ?_))
      refine ⟨q - 1, by omega, _, le_mkSt (bs := []) (ss := [(m + 1, V.take i ++ [vi x])]) (n := m + 2) (by simp) (by simp) (Nat.le_refl _), m + 1, m + 2, i + 1, by omega, by omega, ?_, ?_⟩
      · rw [hvn, List.take_of_length_le (by omega)]
      · simp
    · have hlti : ¬ (i : Int) < ks.length := by omega
      obtain rfl : i = ks.length := by omega
      rw [List.take_of_length_le (by omega)] at *
      refine aw_freeze (b := k') (xs := vis W) (by simp) ?_
      simp -implicitDefEqProofs [frz, frz1, frz0]
      repeat' (first
        | refine aw_seq ?_
        | (refine aw_run [7] ?_; try simp -implicitDefEqProofs (maxSteps := 1000000) [hlti, hl])
        | ((first | refine awl_skip' [7] rfl ?_ | refine aw_skip ?_ | refine aw_exit ?_); try simp -implicitDefEqProofs (maxSteps := 1000000) [hlti, hl])
        | (refine aw_cond rfl (fun h => ?_) (fun h => ?_) <;> try (with_reducible first | exact ff_tt h | exact tt_ff h))
        | refine aw_block ?_
        | refine aw_ret (ret_of (.inr rfl) (by simp [Try.results83]; rfl) (Fin.of ?_))
        | refine ret_of (.inl rfl) (by simp [Try.results83]; rfl) (Fin.of ?_))
      simp [tupOf, vis_len, hWl, List.take_of_length_le]
set_option maxHeartbeats 16000000 in
set_option maxRecDepth 100000 in
theorem mcells_ok (L : List (Int × Int × Int)) (k n a b c d : Int) (w : ByteArray) (ks : List Tree) (hk : k = 1 ∨ k = 6) :
    APure Try.prog 56 [shv L, (Tree.mk k n a b c d w ks).av] (vi (joinW ((gridL a b c d).map fun p => gotK L p.1 p.2))) := by
  rcases hk with rfl | rfl
  all_goals
    rw [Tree.av]
    have hc := cells_ok a b c d
    have hL := gridL_len1 a b c d
    generalize gridL a b c d = G at *
    have hLm : (G.map pl).length = G.length := List.length_map _
    obtain ⟨W, hW⟩ : ∃ W, W = G.map fun p => gotK L p.1 p.2 := ⟨_, rfl⟩
    have hWl : W.length = G.length := by rw [hW, List.length_map]
    rw [← hW]
    refine apure_of Try.func56 Try.ntmps56 rfl ?_
    simp only [List.length_cons, List.length_nil, List.cons_append, List.nil_append, List.replicate]
    repeat' (first
      | refine aw_seq ?_
      | (refine aw_run [7] ?_; try simp -implicitDefEqProofs (maxSteps := 1000000) [hLm])
      | ((first | refine awl_skip' [7] rfl ?_ | refine awl_pure_guard [7] rfl rfl rfl (by first | assumption | kernel_rfl) rfl (fun hc => by first | exact hc) (by simp) (by simp) (by simp) ?_ | refine awl_pure' [7] rfl rfl rfl (by first | assumption | kernel_rfl) rfl (by first | exact hc) (by simp) (by simp) ?_ | refine aw_skip ?_ | refine aw_exit ?_); try simp -implicitDefEqProofs (maxSteps := 1000000) [hLm])
      | (refine aw_cond rfl (fun h => ?_) (fun h => ?_) <;> try (with_reducible first | exact ff_tt h | exact tt_ff h))
      | refine aw_block ?_
      | refine aw_ret (ret_of (.inr rfl) (by simp [Try.results56]; rfl) (Fin.of ?_))
      | refine ret_of (.inl rfl) (by simp [Try.results56]; rfl) (Fin.of ?_))
    refine aw_loopW [0, 5, 16, 17, 18] (fun q fr σ => ∃ i N : Nat, i + q = G.length ∧ σ = mkSt [] [] N ∧ fr = frm 65 [(0, shv L), (5, vi (joinW (W.take i))), (16, .vsl (G.map pl)), (17, vi G.length), (18, vi (i : Nat))]) G.length ?_ ?_
    · exact ⟨_, le_mkSt (bs := []) (ss := []) (n := 0) (by simp) (by simp) (by simp [σ0]), 0, 0, by omega, rfl, by simp [joinW, hLm]⟩
    · rintro q fr σ ⟨i, N, hi, rfl, rfl⟩
      simp -implicitDefEqProofs
      by_cases hlt : i < G.length
      · have hlti : (i : Int) < G.length := by omega
        obtain ⟨⟨x, y⟩, hp⟩ : ∃ p, G[i]? = some p := ⟨_, List.getElem?_eq_getElem hlt⟩
        have hg : (G.map pl)[i]? = some (.agg [vi x, vi y]) := by rw [List.getElem?_map, hp]; rfl
        have wi : IntKind.i64.wrap ((i : Int) + 1) = (i : Int) + 1 := wrap_id (by omega) (by omega)
        have hWi : W[i]? = some (gotK L x y) := by rw [hW, List.getElem?_map, hp]; rfl
        have hjn : joinW (W.take (i + 1)) = joinW [joinW (W.take i), gotK L x y] := by
          rw [List.take_add_one, hWi, joinW2 (joinW_in _)]; exact joinW_snoc _ _
        have hlook := shG L x y
        generalize gotK L x y = ap at *
        generalize joinW (W.take i) = jw at *
        repeat' (first
          | refine aw_seq ?_
          | (refine aw_run [7] ?_; try simp -implicitDefEqProofs (maxSteps := 1000000) [hlti, hLm, hg, hp, wi])
          | ((first | refine awl_skip' [7] rfl ?_ | refine aw_skip ?_ | refine aw_exit ?_); try simp -implicitDefEqProofs (maxSteps := 1000000) [hlti, hLm, hg, hp, wi])
          | (refine aw_cond rfl (fun h => ?_) (fun h => ?_) <;> try (with_reducible first | exact ff_tt h | exact tt_ff h))
          | refine aw_block ?_
          | refine aw_ret (ret_of (.inr rfl) (by simp [Try.results56]; rfl) (Fin.of ?_))
          | refine ret_of (.inl rfl) (by simp [Try.results56]; rfl) (Fin.of ?_))
        refine awl_lookupV [7] rfl rfl shT rfl rfl (shK _ _) (shF _ _ _ _) hlook ?_
        simp -implicitDefEqProofs
        repeat' (first
          | refine aw_seq ?_
          | (refine aw_run [7] ?_; try simp -implicitDefEqProofs (maxSteps := 1000000) [hlti, hLm, hg, hp, wi])
          | ((first | refine awl_skip' [7] rfl ?_ | refine awl_pure_guard [7] rfl rfl rfl (by first | assumption | kernel_rfl) rfl (fun hc => by first | exact join2_ok _ _) (by simp) (by simp) (by simp) ?_ | refine awl_pure' [7] rfl rfl rfl (by first | assumption | kernel_rfl) rfl (by first | exact join2_ok _ _) (by simp) (by simp) ?_ | refine aw_skip ?_ | refine aw_exit ?_); try simp -implicitDefEqProofs (maxSteps := 1000000) [hlti, hLm, hg, hp, wi])
          | (refine aw_cond rfl (fun h => ?_) (fun h => ?_) <;> try (with_reducible first | exact ff_tt h | exact tt_ff h))
          | refine aw_block ?_
          | refine aw_ret (ret_of (.inr rfl) (by simp [Try.results56]; rfl) (Fin.of ?_))
          | refine ret_of (.inl rfl) (by simp [Try.results56]; rfl) (Fin.of ?_))
        exact ⟨q - 1, by omega, mkSt [] [] (N + 1), le_mkSt (by simp) (by simp) (by simp), i + 1, by omega, ⟨_, rfl⟩, hjn.symm, by omega⟩
      · have hlti : ¬ (i : Int) < G.length := by omega
        rw [List.take_of_length_le (by omega)]
        repeat' (first
          | refine aw_seq ?_
          | (refine aw_run [7] ?_; try simp -implicitDefEqProofs (maxSteps := 1000000) [hlti, hLm])
          | ((first | refine awl_skip' [7] rfl ?_ | refine aw_skip ?_ | refine aw_exit ?_); try simp -implicitDefEqProofs (maxSteps := 1000000) [hlti, hLm])
          | (refine aw_cond rfl (fun h => ?_) (fun h => ?_) <;> try (with_reducible first | exact ff_tt h | exact tt_ff h))
          | refine aw_block ?_
          | refine aw_ret (ret_of (.inr rfl) (by simp [Try.results56]; rfl) (Fin.of ?_))
          | refine ret_of (.inl rfl) (by simp [Try.results56]; rfl) (Fin.of ?_))
        all_goals first | (simp [tupOf]; done) | trace_state
end Go.AL
/-! Contracts: (mono.sheet).of, mono.Of. -/
namespace Go.AL
open Go.Proofs
set_option linter.unusedSimpArgs false
set_option linter.unusedVariables false
def msT (b : Nat) (es : List (AV × AV)) (n : Nat) : ASt := ⟨fun _ => none, fun c => if c = b then some es else none, fun _ => none, n⟩
@[simp] theorem msT_bx (b es n) (c : Nat) : (msT b es n).bx c = none := rfl
@[simp] theorem msT_mp (b es n) (c : Nat) : (msT b es n).mp c = if c = b then some es else none := rfl
@[simp] theorem msT_sl (b es n) (c : Nat) : (msT b es n).sl c = none := rfl
@[simp] theorem msT_next (b es n) : (msT b es n).next = n := rfl
theorem le_msT {σ : ASt} {b es n} (h : σ.mp b = some es) (hn : σ.next ≤ n) : (msT b es n).Le σ where
  bx := fun c _ e => by cases e
  mp := fun c es' e => by
    simp only [msT_mp] at e
    split at e
    · rename_i hb; subst hb; rw [h]; exact e
    · cases e
  sl := fun c _ e => by cases e
  next := hn
@[simp] theorem cl_vmpK (l : List (Int × Int × Int)) : Cl (.vmp (kys l) (kvs l)) = True := cl_shv l
@[simp] theorem cl_kys (l : List (Int × Int × Int)) : (∀ c ∈ kys l, Cl c) = True := eq_true fun c hc => by
  obtain ⟨p, _, rfl⟩ := List.mem_map.1 hc
  exact .agg _ (by simp)
@[simp] theorem cl_kvs (l : List (Int × Int × Int)) : (∀ c ∈ kvs l, Cl c) = True := eq_true fun c hc => by
  obtain ⟨p, _, rfl⟩ := List.mem_map.1 hc
  exact .p _
theorem joinW1' (v : Int) : joinW [v] = cleanW v := by unfold joinW cleanW; simp only [List.foldl]; unfold twoW; repeat' split <;> omega
def addK (M : List (Int × Int × Int)) (p : Int × Int × Int) : List (Int × Int × Int) := if (ixK M p.1 p.2.1 0).isSome = true then M else M ++ [(p.1, p.2.1, cleanW p.2.2)]
def kes (M : List (Int × Int × Int)) : List (AV × AV) := M.map fun p => (.agg [vi p.1, vi p.2.1], vi p.2.2)
theorem kes_fst (M) : (kes M).map Prod.fst = kys M := by simp [kes, kys]
theorem kes_snd (M) : (kes M).map Prod.snd = kvs M := by simp [kes, kvs]
set_option maxHeartbeats 16000000 in
set_option maxRecDepth 100000 in
theorem mOf_ok (t : Tree) (rb : Bool) (l : List (Int × Int × Int)) (W : Int) (hlen : l.length ≤ 1000000000) (hR : APure Try.prog 41 [t.av] (vb rb))
    (hw : rb = true → APure Try.prog 56 [shv (l.foldl addK []), t.av] (vi W)) :
    APure Try.prog 25 [t.av, .vsl (kns l)] (vi (if rb = true then W else 3)) := by
  have hl := kns_len l
  obtain ⟨k, n, a, b, c, d, w, ks⟩ := t
  rw [Tree.av] at hR hw ⊢
  cases rb with
  | false =>
    refine apure_of Try.func25 Try.ntmps25 rfl ?_
    simp only [List.length_cons, List.length_nil, List.cons_append, List.nil_append, List.replicate]
    repeat' (first
      | refine aw_seq ?_
      | ((first | refine aw_run [7] ?_ | refine aw_ymix [7] draws (by decide +kernel) ?_); try simp -implicitDefEqProofs (maxSteps := 1000000))
      | ((first | refine aw_zrun [7] [] draws (by decide +kernel) (by decide +kernel) ?_ | refine zl_skip (by simp) rfl ?_ | refine zl_pure_guard (by simp) rfl rfl rfl (by first | assumption | kernel_rfl) rfl (fun hc => by first | exact hR) (by simp) (by simp) (by simp) ?_ | refine zl_pure (by simp) rfl rfl rfl (by first | assumption | kernel_rfl) rfl (by first | exact hR) (by simp) (by simp) ?_); try simp -implicitDefEqProofs (maxSteps := 1000000); repeat first | refine zcurL (by decide +kernel) ?_ | refine zcurH (by decide +kernel) ?_ | refine zcurL' (by decide +kernel) ?_ | refine zcurH' (by decide +kernel) ?_)
      | ((first | refine aw_yrun draws (by kernel_rfl) ?_ | refine awl_skip' [7] rfl ?_ | refine yl_skip rfl ?_ | refine awl_pure_guard [7] rfl rfl rfl (by first | assumption | kernel_rfl) rfl (fun hc => by first | exact hR) (by simp) (by simp) (by simp) ?_ | refine yl_pureG rfl rfl rfl (by first | assumption | kernel_rfl) rfl (fun hc => by first | exact hR) (by simp) (by simp) (by simp) ?_ | refine awl_pure' [7] rfl rfl rfl (by first | assumption | kernel_rfl) rfl (by first | exact hR) (by simp) (by simp) ?_ | refine yl_pure rfl rfl rfl (by first | assumption | kernel_rfl) rfl (by first | exact hR) (by simp) (by simp) ?_ | refine aw_skip ?_ | refine aw_exit ?_); try simp -implicitDefEqProofs (maxSteps := 1000000))
      | (refine aw_cond rfl (fun h => ?_) (fun h => ?_) <;> try (with_reducible first | exact ff_tt h | exact tt_ff h))
      | refine aw_block ?_
      | refine aw_ret (ret_of (.inr rfl) (by simp [Try.results25]; rfl) (Fin.of ?_))
      | refine ret_of (.inl rfl) (by simp [Try.results25]; rfl) (Fin.of ?_))
    all_goals first | (simp [tupOf]; done) | trace_state
  | true =>
    have hw := hw rfl
    refine apure_of Try.func25 Try.ntmps25 rfl ?_
    simp only [List.length_cons, List.length_nil, List.cons_append, List.nil_append, List.replicate]
    repeat' (first
      | refine aw_seq ?_
      | ((first | refine aw_run [7] ?_ | refine aw_ymix [7] draws (by decide +kernel) ?_); try simp -implicitDefEqProofs (maxSteps := 1000000))
      | ((first | refine aw_zrun [7] [] draws (by decide +kernel) (by decide +kernel) ?_ | refine zl_skip (by simp) rfl ?_ | refine zl_pure_guard (by simp) rfl rfl rfl (by first | assumption | kernel_rfl) rfl (fun hc => by first | exact hR) (by simp) (by simp) (by simp) ?_ | refine zl_pure (by simp) rfl rfl rfl (by first | assumption | kernel_rfl) rfl (by first | exact hR) (by simp) (by simp) ?_); try simp -implicitDefEqProofs (maxSteps := 1000000); repeat first | refine zcurL (by decide +kernel) ?_ | refine zcurH (by decide +kernel) ?_ | refine zcurL' (by decide +kernel) ?_ | refine zcurH' (by decide +kernel) ?_)
      | ((first | refine aw_yrun draws (by kernel_rfl) ?_ | refine awl_skip' [7] rfl ?_ | refine yl_skip rfl ?_ | refine awl_pure_guard [7] rfl rfl rfl (by first | assumption | kernel_rfl) rfl (fun hc => by first | exact hR) (by simp) (by simp) (by simp) ?_ | refine yl_pureG rfl rfl rfl (by first | assumption | kernel_rfl) rfl (fun hc => by first | exact hR) (by simp) (by simp) (by simp) ?_ | refine awl_pure' [7] rfl rfl rfl (by first | assumption | kernel_rfl) rfl (by first | exact hR) (by simp) (by simp) ?_ | refine yl_pure rfl rfl rfl (by first | assumption | kernel_rfl) rfl (by first | exact hR) (by simp) (by simp) ?_ | refine aw_skip ?_ | refine aw_exit ?_); try simp -implicitDefEqProofs (maxSteps := 1000000))
      | (refine aw_cond rfl (fun h => ?_) (fun h => ?_) <;> try (with_reducible first | exact ff_tt h | exact tt_ff h))
      | refine aw_block ?_
      | refine aw_ret (ret_of (.inr rfl) (by simp [Try.results25]; rfl) (Fin.of ?_))
      | refine ret_of (.inl rfl) (by simp [Try.results25]; rfl) (Fin.of ?_))
    refine awl_makeMap [] rfl rfl ?_
    simp -implicitDefEqProofs
    repeat' (first
      | refine aw_seq ?_
      | ((first | refine aw_run [7] ?_ | refine aw_ymix [7] draws (by decide +kernel) ?_); try simp -implicitDefEqProofs (maxSteps := 1000000) [hl])
      | ((first | refine aw_zrun [7] [] draws (by decide +kernel) (by decide +kernel) ?_ | refine zl_skip (by simp) rfl ?_); try simp -implicitDefEqProofs (maxSteps := 1000000) [hl]; repeat first | refine zcurL (by decide +kernel) ?_ | refine zcurH (by decide +kernel) ?_ | refine zcurL' (by decide +kernel) ?_ | refine zcurH' (by decide +kernel) ?_)
      | ((first | refine aw_yrun draws (by kernel_rfl) ?_ | refine awl_skip' [7] rfl ?_ | refine yl_skip rfl ?_ | refine aw_skip ?_ | refine aw_exit ?_); try simp -implicitDefEqProofs (maxSteps := 1000000) [hl])
      | (refine aw_cond rfl (fun h => ?_) (fun h => ?_) <;> try (with_reducible first | exact ff_tt h | exact tt_ff h))
      | refine aw_block ?_
      | refine aw_ret (ret_of (.inr rfl) (by simp [Try.results25]; rfl) (Fin.of ?_))
      | refine ret_of (.inl rfl) (by simp [Try.results25]; rfl) (Fin.of ?_))
    refine aw_loopW [2, 5, 14, 15, 16] (fun q fr σ => ∃ B i N : Nat, i + q = l.length ∧ B < N ∧ σ = msT B (kes ((l.take i).foldl addK [])) N ∧ fr = frm 40 [(2, .vel [.agg [vi k, vi n, vi a, vi b, vi c, vi d, vs w, .vsl (avs ks)]] 0 0), (5, .map B), (14, .vsl (kns l)), (15, vi l.length), (16, vi (i : Nat))]) l.length ?_ ?_
    · exact ⟨_, le_msT (b := 0) (es := []) (n := 1) (by simp) (by simp), 0, 0, 1, by omega, by omega, rfl, by simp⟩
    · rintro q fr σ ⟨B, i, N, hi, hBN, rfl, rfl⟩
      simp -implicitDefEqProofs
      have hmk : ∀ M (x y : Int), vfind Try.prog 24 (.agg [vi x, vi y]) ((kes M).map Prod.fst) 0 = some (ixK M x y 0) := fun M x y => by rw [kes_fst]; exact shF x y M 0
      have hmg : ∀ M (x y : Int), vgot Try.prog 44 ((kes M).map Prod.snd) (ixK M x y 0) (vi (gotK M x y)) := fun M x y => by rw [kes_snd]; exact shG M x y
      have hnv : ∀ M, ∀ p ∈ kes M, p.1 ≠ noV := fun M p hp => by obtain ⟨q, _, rfl⟩ := List.mem_map.1 hp; simp [noV]
      by_cases hlt : i < l.length
      · have hlti : (i : Int) < l.length := by omega
        obtain ⟨⟨x, y, v⟩, hp⟩ : ∃ p, l[i]? = some p := ⟨_, List.getElem?_eq_getElem hlt⟩
        have hg := kns_get hp
        have hla : i < (kns l).length := by omega
        have wi : IntKind.i64.wrap ((i : Int) + 1) = (i : Int) + 1 := wrap_id (by omega) (by omega)
        generalize hM : (l.take i).foldl addK [] = M at *
        repeat' (first
          | refine aw_seq ?_
          | ((first | refine aw_run [7] ?_ | refine aw_ymix [7] draws (by decide +kernel) ?_); try simp -implicitDefEqProofs (maxSteps := 1000000) [hlti, hl, hla, hg, wi])
          | ((first | refine aw_zrun [7] [] draws (by decide +kernel) (by decide +kernel) ?_ | refine zl_skip (by simp) rfl ?_); try simp -implicitDefEqProofs (maxSteps := 1000000) [hlti, hl, hla, hg, wi]; repeat first | refine zcurL (by decide +kernel) ?_ | refine zcurH (by decide +kernel) ?_ | refine zcurL' (by decide +kernel) ?_ | refine zcurH' (by decide +kernel) ?_)
          | ((first | refine aw_yrun draws (by kernel_rfl) ?_ | refine awl_skip' [7] rfl ?_ | refine yl_skip rfl ?_ | refine aw_skip ?_ | refine aw_exit ?_); try simp -implicitDefEqProofs (maxSteps := 1000000) [hlti, hl, hla, hg, wi])
          | (refine aw_cond rfl (fun h => ?_) (fun h => ?_) <;> try (with_reducible first | exact ff_tt h | exact tt_ff h))
          | refine aw_block ?_
          | refine aw_ret (ret_of (.inr rfl) (by simp [Try.results25]; rfl) (Fin.of ?_))
          | refine ret_of (.inl rfl) (by simp [Try.results25]; rfl) (Fin.of ?_))
        refine awl_lookupS [7] rfl rfl shT rfl (es := kes M) (by simp) (hnv M) rfl (shK _ _) (hmk M _ _) (hmg M _ _) ?_
        simp -implicitDefEqProofs
        repeat' (first
          | refine aw_seq ?_
          | ((first | refine aw_run [7] ?_ | refine aw_ymix [7] draws (by decide +kernel) ?_); try simp -implicitDefEqProofs (maxSteps := 1000000) [hlti, hl, hla, hg, wi])
          | ((first | refine aw_zrun [7] [] draws (by decide +kernel) (by decide +kernel) ?_ | refine zl_skip (by simp) rfl ?_ | refine zl_pure_guard (by simp) rfl rfl rfl (by first | assumption | kernel_rfl) rfl (fun hc => by first | exact join1_ok _) (by simp) (by simp) (by simp) ?_ | refine zl_pure (by simp) rfl rfl rfl (by first | assumption | kernel_rfl) rfl (by first | exact join1_ok _) (by simp) (by simp) ?_); try simp -implicitDefEqProofs (maxSteps := 1000000) [hlti, hl, hla, hg, wi]; repeat first | refine zcurL (by decide +kernel) ?_ | refine zcurH (by decide +kernel) ?_ | refine zcurL' (by decide +kernel) ?_ | refine zcurH' (by decide +kernel) ?_)
          | ((first | refine aw_yrun draws (by kernel_rfl) ?_ | refine awl_skip' [7] rfl ?_ | refine yl_skip rfl ?_ | refine awl_pure_guard [7] rfl rfl rfl (by first | assumption | kernel_rfl) rfl (fun hc => by first | exact join1_ok _) (by simp) (by simp) (by simp) ?_ | refine yl_pureG rfl rfl rfl (by first | assumption | kernel_rfl) rfl (fun hc => by first | exact join1_ok _) (by simp) (by simp) (by simp) ?_ | refine awl_pure' [7] rfl rfl rfl (by first | assumption | kernel_rfl) rfl (by first | exact join1_ok _) (by simp) (by simp) ?_ | refine yl_pure rfl rfl rfl (by first | assumption | kernel_rfl) rfl (by first | exact join1_ok _) (by simp) (by simp) ?_ | refine aw_skip ?_ | refine aw_exit ?_); try simp -implicitDefEqProofs (maxSteps := 1000000) [hlti, hl, hla, hg, wi])
          | (refine aw_cond rfl (fun h => ?_) (fun h => ?_) <;> try (with_reducible first | exact ff_tt h | exact tt_ff h))
          | refine aw_block ?_
          | refine aw_ret (ret_of (.inr rfl) (by simp [Try.results25]; rfl) (Fin.of ?_))
          | refine ret_of (.inl rfl) (by simp [Try.results25]; rfl) (Fin.of ?_))
        · have hix : ixK M x y 0 = none := by simpa using h
          refine awl_mapNewS [7] (.inr rfl) rfl shT rfl (es := kes M) (by simp) (hnv M) rfl (shK _ _) (by rw [← hix]; exact hmk M _ _) ?_
          simp -implicitDefEqProofs
          repeat' (first
            | refine aw_seq ?_
            | ((first | refine aw_run [7] ?_ | refine aw_ymix [7] draws (by decide +kernel) ?_); try simp -implicitDefEqProofs (maxSteps := 1000000) [wi])
            | ((first | refine aw_zrun [7] [] draws (by decide +kernel) (by decide +kernel) ?_ | refine zl_skip (by simp) rfl ?_); try simp -implicitDefEqProofs (maxSteps := 1000000) [wi]; repeat first | refine zcurL (by decide +kernel) ?_ | refine zcurH (by decide +kernel) ?_ | refine zcurL' (by decide +kernel) ?_ | refine zcurH' (by decide +kernel) ?_)
            | ((first | refine aw_yrun draws (by kernel_rfl) ?_ | refine awl_skip' [7] rfl ?_ | refine yl_skip rfl ?_ | refine aw_skip ?_ | refine aw_exit ?_); try simp -implicitDefEqProofs (maxSteps := 1000000) [wi])
            | (refine aw_cond rfl (fun h => ?_) (fun h => ?_) <;> try (with_reducible first | exact ff_tt h | exact tt_ff h))
            | refine aw_block ?_
            | refine aw_ret (ret_of (.inr rfl) (by simp [Try.results25]; rfl) (Fin.of ?_))
            | refine ret_of (.inl rfl) (by simp [Try.results25]; rfl) (Fin.of ?_))
          refine ⟨q - 1, by omega, _, le_msT (b := B) (es := kes (M ++ [(x, y, cleanW v)])) (n := N + 1) (by simp [kes, joinW1', upd]) (by simp), B, i + 1, by omega, N + 1, by omega, ?_, rfl, by omega⟩
          rw [List.take_add_one, hp, List.foldl_append, hM]
          simp [addK, hix]
        · refine ⟨q - 1, by omega, _, le_msT (b := B) (es := kes M) (n := N + 1) (by simp) (by simp), B, i + 1, by omega, N + 1, by omega, ?_, rfl, by omega⟩
          have hix : (ixK M x y 0).isSome = true := by cases hq : ixK M x y 0 <;> simp_all
          rw [List.take_add_one, hp, List.foldl_append, hM]
          simp [addK, hix]
      · have hlti : ¬ (i : Int) < l.length := by omega
        rw [List.take_of_length_le (by omega)]
        generalize l.foldl addK [] = M at *
        refine aw_freezeM (b := B) (es := kes M) (by simp) (hnv M) ?_
        simp -implicitDefEqProofs [frzM, kes_fst, kes_snd]
        repeat' (first
          | refine aw_seq ?_
          | ((first | refine aw_run [7] ?_ | refine aw_ymix [7] draws (by decide +kernel) ?_); try simp -implicitDefEqProofs (maxSteps := 1000000) [hlti, hl])
          | ((first | refine aw_zrun [7] [] draws (by decide +kernel) (by decide +kernel) ?_ | refine zl_skip (by simp) rfl ?_ | refine zl_pure_guard (by simp) rfl rfl rfl (by first | assumption | kernel_rfl) rfl (fun hc => by first | exact hw) (by simp) (by simp) (by simp) ?_ | refine zl_pure (by simp) rfl rfl rfl (by first | assumption | kernel_rfl) rfl (by first | exact hw) (by simp) (by simp) ?_); try simp -implicitDefEqProofs (maxSteps := 1000000) [hlti, hl]; repeat first | refine zcurL (by decide +kernel) ?_ | refine zcurH (by decide +kernel) ?_ | refine zcurL' (by decide +kernel) ?_ | refine zcurH' (by decide +kernel) ?_)
          | ((first | refine aw_yrun draws (by kernel_rfl) ?_ | refine awl_skip' [7] rfl ?_ | refine yl_skip rfl ?_ | refine awl_pure_guard [7] rfl rfl rfl (by first | assumption | kernel_rfl) rfl (fun hc => by first | exact hw) (by simp) (by simp) (by simp) ?_ | refine yl_pureG rfl rfl rfl (by first | assumption | kernel_rfl) rfl (fun hc => by first | exact hw) (by simp) (by simp) (by simp) ?_ | refine awl_pure' [7] rfl rfl rfl (by first | assumption | kernel_rfl) rfl (by first | exact hw) (by simp) (by simp) ?_ | refine yl_pure rfl rfl rfl (by first | assumption | kernel_rfl) rfl (by first | exact hw) (by simp) (by simp) ?_ | refine aw_skip ?_ | refine aw_exit ?_); try simp -implicitDefEqProofs (maxSteps := 1000000) [hlti, hl])
          | (refine aw_cond rfl (fun h => ?_) (fun h => ?_) <;> try (with_reducible first | exact ff_tt h | exact tt_ff h))
          | refine aw_block ?_
          | refine aw_ret (ret_of (.inr rfl) (by simp [Try.results25]; rfl) (Fin.of ?_))
          | refine ret_of (.inl rfl) (by simp [Try.results25]; rfl) (Fin.of ?_))
        all_goals first | (simp [tupOf]; done) | trace_state
def MWaySz (L : List (Int × Int × Int)) (t : Tree) : Prop := tszT t ≤ 1000000000 → MWayP L t
set_option maxHeartbeats 16000000 in
set_option maxRecDepth 100000 in
theorem mway_ok (L : List (Int × Int × Int)) (hF : ∀ x y, InW (gotK L x y)) : ∀ t, MWaySz L t := by
  refine Tree.byKids fun k n a b c d w ks ih => ?_
  intro hsz hin hm
  rw [Tree.In, ins_all] at hin
  obtain ⟨_, hn, _, _, _, _, hw, hlk, hks⟩ := hin
  have hsum : tszs ks < tszT (.mk k n a b c d w ks) := by rw [tszT]; omega
  have hkl := len_le_tszs ks
  have hksz : ∀ u ∈ ks, tszT u ≤ 1000000000 := fun u hu => by have := tszs_mem hu; omega
  have hl := avs_len ks
  rw [wayT]
  by_cases h1 : k = 1
  · subst h1
    obtain ⟨hr, rfl, rfl⟩ := may_read hm
    have hc := mcells_ok L 1 n a b a b w ks (.inl rfl)
    rw [gridL_one hr] at hc
    rw [if_pos rfl]
    simp only [List.map_cons, List.map_nil, joinW1 (hF a b)] at hc
    exact hc
  rw [if_neg h1]
  by_cases h6 : k = 6
  · subst h6
    rw [if_pos rfl]
    exact mcells_ok L 6 n a b c d w ks (.inr rfl)
  rw [if_neg h6]
  by_cases h3 : k = 3
  · subst h3
    rw [if_pos rfl]
    obtain ⟨u, rfl, hu⟩ := may_neg hm
    have hr : APure Try.prog 56 [shv L, u.av] (vi (wayT (gotK L) u)) := ih u (by simp) (hksz u (by simp)) (hks u (by simp)) hu
    simp only [wayTs, List.headD]
    generalize wayT (gotK L) u = wu at *
    clear ih hsz hsum hkl hksz
    obtain ⟨tk, tn, ta, tb, tc, td, tw, tks⟩ := u
    rw [Tree.av] at hr
    simp only [Tree.av, avs]
    refine apure_of Try.func56 Try.ntmps56 rfl ?_
    simp only [List.length_cons, List.length_nil, List.cons_append, List.nil_append, List.replicate]
    repeat' (first
      | refine aw_seq ?_
      | (refine aw_run [7] ?_; try simp -implicitDefEqProofs (maxSteps := 1000000))
      | ((first | refine awl_skip' [7] rfl ?_ | refine awl_pure_guard [7] rfl rfl rfl (by first | assumption | kernel_rfl) rfl (fun hc => by first | exact hr | exact flip_ok _) (by simp) (by simp) (by simp) ?_ | refine awl_pure' [7] rfl rfl rfl (by first | assumption | kernel_rfl) rfl (by first | exact hr | exact flip_ok _) (by simp) (by simp) ?_ | refine aw_skip ?_ | refine aw_exit ?_); try simp -implicitDefEqProofs (maxSteps := 1000000))
      | (refine aw_cond rfl (fun h => ?_) (fun h => ?_) <;> try (with_reducible first | exact ff_tt h | exact tt_ff h))
      | refine aw_block ?_
      | refine aw_ret (ret_of (.inr rfl) (by simp [Try.results56]; rfl) (Fin.of ?_))
      | refine ret_of (.inl rfl) (by simp [Try.results56]; rfl) (Fin.of ?_))
    all_goals first | (simp [tupOf]; done) | trace_state
  rw [if_neg h3]
  by_cases h4 : k = 4
  · subst h4
    rw [if_pos rfl]
    obtain ⟨u, v, rfl, hu, hv⟩ := may_op hm
    have ru : APure Try.prog 56 [shv L, u.av] (vi (wayT (gotK L) u)) := ih u (by simp) (hksz u (by simp)) (hks u (by simp)) hu
    have rv : APure Try.prog 56 [shv L, v.av] (vi (wayT (gotK L) v)) := ih v (by simp) (hksz v (by simp)) (hks v (by simp)) hv
    have cu := con_ok u (hks u (by simp)) hu
    have cv := con_ok v (hks v (by simp)) hv
    have ho := mop_ok L 4 n a b c d w u v _ _ _ _ _ _ (wayT_in hF u) (wayT_in hF v) ru rv cu cv
    simp only [wayTs, List.headD, List.tail]
    generalize wayT (gotK L) u = wu at *
    generalize wayT (gotK L) v = wv at *
    generalize opW w wu wv (numB u) (numZ u) (numB v) (numZ v) = r at *
    clear ru rv cu cv ih hsz hsum hkl hksz
    obtain ⟨tk, tn, ta, tb, tc, td, tw, tks⟩ := u
    obtain ⟨vk, vn, va, vb', vc, vd, vw, vks⟩ := v
    simp only [Tree.av, avs] at ho ⊢
    refine apure_of Try.func56 Try.ntmps56 rfl ?_
    simp only [List.length_cons, List.length_nil, List.cons_append, List.nil_append, List.replicate]
    repeat' (first
      | refine aw_seq ?_
      | (refine aw_run [7] ?_; try simp -implicitDefEqProofs (maxSteps := 1000000))
      | ((first | refine awl_skip' [7] rfl ?_ | refine awl_pure_guard [7] rfl rfl rfl (by first | assumption | kernel_rfl) rfl (fun hc => by first | exact ho) (by simp) (by simp) (by simp) ?_ | refine awl_pure' [7] rfl rfl rfl (by first | assumption | kernel_rfl) rfl (by first | exact ho) (by simp) (by simp) ?_ | refine aw_skip ?_ | refine aw_exit ?_); try simp -implicitDefEqProofs (maxSteps := 1000000))
      | (refine aw_cond rfl (fun h => ?_) (fun h => ?_) <;> try (with_reducible first | exact ff_tt h | exact tt_ff h))
      | refine aw_block ?_
      | refine aw_ret (ret_of (.inr rfl) (by simp [Try.results56]; rfl) (Fin.of ?_))
      | refine ret_of (.inl rfl) (by simp [Try.results56]; rfl) (Fin.of ?_))
    all_goals first | (simp [tupOf]; done) | trace_state
  rw [if_neg h4]
  by_cases h5 : k = 5
  · subst h5
    rw [if_pos rfl, Tree.av]
    obtain ⟨hpos, hmk⟩ := may_call hm
    rw [wayTs_map]
    have hkids := mkids_ok L 5 n a b c d w ks (ks.map (wayT (gotK L))) (by omega) (by simp) (fun i t ht => ⟨wayT (gotK L) t, by rw [List.getElem?_map, ht]; rfl, by
      have hmem := List.mem_of_getElem? ht
      exact ih t hmem (hksz t hmem) (hks t hmem) (hmk t hmem)⟩)
    obtain ⟨W, hW⟩ : ∃ W, W = ks.map (wayT (gotK L)) := ⟨_, rfl⟩
    have hWl : W.length = ks.length := by rw [hW, List.length_map]
    rw [← hW] at hkids ⊢
    have hj := join_ok W (by omega)
    obtain ⟨x0, xs, rfl⟩ : ∃ x xs, W = x :: xs := by cases W with | nil => simp at hWl; omega | cons x xs => exact ⟨x, xs, rfl⟩
    simp only [List.headD]
    have hvc : vis (x0 :: xs) = vi x0 :: vis xs := rfl
    rw [hvc] at hkids hj
    generalize joinW (x0 :: xs) = jw at *
    clear ih hsz hsum hkl hksz hW
    unfold bCOUNT bIF
    refine apure_of Try.func56 Try.ntmps56 rfl ?_
    simp only [List.length_cons, List.length_nil, List.cons_append, List.nil_append, List.replicate]
    repeat' (first
      | refine aw_seq ?_
      | (refine aw_run [7] ?_; try simp -implicitDefEqProofs (maxSteps := 1000000))
      | ((first | refine awl_skip' [7] rfl ?_ | refine awl_pure_guard [7] rfl rfl rfl (by first | assumption | kernel_rfl) rfl (fun hc => by first | exact hkids | exact hj) (by simp) (by simp) (by simp) ?_ | refine awl_pure' [7] rfl rfl rfl (by first | assumption | kernel_rfl) rfl (by first | exact hkids | exact hj) (by simp) (by simp) ?_ | refine aw_skip ?_ | refine aw_exit ?_); try simp -implicitDefEqProofs (maxSteps := 1000000))
      | (refine aw_cond rfl (fun h => ?_) (fun h => ?_) <;> try (with_reducible first | exact ff_tt h | exact tt_ff h))
      | refine aw_block ?_
      | refine aw_ret (ret_of (.inr rfl) (by simp [Try.results56]; rfl) (Fin.of ?_))
      | refine ret_of (.inl rfl) (by simp [Try.results56]; rfl) (Fin.of ?_))
    all_goals first | (simp_all [tupOf]; done) | trace_state
  rw [if_neg h5, Tree.av]
  refine apure_of Try.func56 Try.ntmps56 rfl ?_
  simp only [List.length_cons, List.length_nil, List.cons_append, List.nil_append, List.replicate]
  repeat' (first
    | refine aw_seq ?_
    | (refine aw_run [7] ?_; try simp -implicitDefEqProofs (maxSteps := 1000000) [h1, h3, h4, h5, h6])
    | ((first | refine awl_skip' [7] rfl ?_ | refine aw_skip ?_ | refine aw_exit ?_); try simp -implicitDefEqProofs (maxSteps := 1000000) [h1, h3, h4, h5, h6])
    | (refine aw_cond rfl (fun h => ?_) (fun h => ?_) <;> try (with_reducible first | exact ff_tt h | exact tt_ff h))
    | refine aw_block ?_
    | refine aw_ret (ret_of (.inr rfl) (by simp [Try.results56]; rfl) (Fin.of ?_))
    | refine ret_of (.inl rfl) (by simp [Try.results56]; rfl) (Fin.of ?_))
  all_goals first | (simp [tupOf]; done) | trace_state
end Go.AL
/-! Contracts: gridironlaw08.of, alive; MonoTells. -/
namespace Go.AL
open Go.Proofs
set_option linter.unusedSimpArgs false
set_option linter.unusedVariables false
theorem in_sh8 : ∀ t : Tree, t.In → t.sh := by
  refine Tree.byKids fun k n a b c d w ks ih => ?_
  intro h
  rw [Tree.In, ins_all] at h
  rw [Tree.sh, shs_all]
  exact ⟨h.2.2.2.2.2.2.2.1, fun t ht => ih t ht (h.2.2.2.2.2.2.2.2 t ht)⟩
theorem kns_okv (l : List (Int × Int × Int)) : ∀ y ∈ kns l, y.cells.length = 3 := fun y hy => by
  obtain ⟨p, _, rfl⟩ := List.mem_map.1 hy
  rfl
set_option maxHeartbeats 4000000 in
set_option maxRecDepth 100000 in
theorem lof8_ok (l : List (Int × Int × Int)) (hl : l.length ≤ 1000000000) : APure Try.prog 27 [.vsl (kns l)] (.vsl (kns l)) := by
  have hvl := kns_len l
  refine apure_of Try.func27 Try.ntmps27 rfl ?_
  simp only [List.length_cons, List.length_nil, List.cons_append, List.nil_append, List.replicate]
  repeat' (first
    | refine aw_seq ?_
    | ((first | refine aw_run [] ?_ | refine aw_ymix [] draws (by decide +kernel) ?_); try simp -implicitDefEqProofs (maxSteps := 1000000) [hvl])
    | ((first | refine aw_zrun [] [] draws (by decide +kernel) (by decide +kernel) ?_ | refine zl_skip (by simp) rfl ?_); try simp -implicitDefEqProofs (maxSteps := 1000000) [hvl]; repeat first | refine zcurL (by decide +kernel) ?_ | refine zcurH (by decide +kernel) ?_ | refine zcurL' (by decide +kernel) ?_ | refine zcurH' (by decide +kernel) ?_)
    | ((first | refine aw_yrun draws (by kernel_rfl) ?_ | refine awl_skip' [] rfl ?_ | refine yl_skip rfl ?_ | refine aw_skip ?_ | refine aw_exit ?_); try simp -implicitDefEqProofs (maxSteps := 1000000) [hvl])
    | (refine aw_cond rfl (fun h => ?_) (fun h => ?_) <;> try (with_reducible first | exact ff_tt h | exact tt_ff h))
    | refine aw_block ?_
    | refine aw_ret (ret_of (.inr rfl) (by simp [Try.results27]; rfl) (Fin.of ?_))
    | refine ret_of (.inl rfl) (by simp [Try.results27]; rfl) (Fin.of ?_))
  refine aw_open (i := 3) rfl ?_
  refine aw_loopW [0, 3, 4] (fun q fr σ => ∃ k' m i : Nat, i + q = l.length ∧ k' < m ∧ σ = mkSt [] [(k', kns (l.take i))] m ∧ fr = frm 26 [(0, .vsl (kns l)), (3, .hsl k' 0 i), (4, vi (i : Nat))]) l.length ?_ ?_
  · refine ⟨_, le_mkSt (bs := []) (ss := [(0, [])]) (n := 1) (by simp) (by simp) (by decide), 0, 1, 0, by omega, by decide, by simp [kns], ?_⟩
    simp [σ0, hvl]
  · rintro q fr σ ⟨k', m, i, hi, hkm, rfl, rfl⟩
    simp -implicitDefEqProofs
    have hvl2 : (kns (l.take i)).length = min i l.length := by rw [kns_len, List.length_take]
    by_cases hlt : i < l.length
    · have hlti : (i : Int) < l.length := by omega
      obtain ⟨⟨a, b, w⟩, hw⟩ : ∃ w, l[i]? = some w := ⟨_, List.getElem?_eq_getElem hlt⟩
      have hg := kns_get hw
      have hla : i < (kns l).length := by omega
      have wi : IntKind.i64.wrap ((i : Int) + 1) = (i : Int) + 1 := wrap_id (by omega) (by omega)
      have hVn : kns (l.take (i + 1)) = kns (l.take i) ++ [.agg [vi a, vi b, vi w]] := by rw [List.take_add_one, hw]; simp [kns, kn]
      have hVi : (kns (l.take i)).length = i := by omega
      have hVc := kns_okv (l.take i)
      generalize kns (l.take i) = V at *
      repeat' (first
        | refine aw_seq ?_
        | ((first | refine aw_run [] ?_ | refine aw_ymix [] draws (by decide +kernel) ?_); try simp -implicitDefEqProofs (maxSteps := 1000000) [hlti, hvl, hla, hg, wi])
        | ((first | refine aw_zrun [] [] draws (by decide +kernel) (by decide +kernel) ?_ | refine zl_skip (by simp) rfl ?_); try simp -implicitDefEqProofs (maxSteps := 1000000) [hlti, hvl, hla, hg, wi]; repeat first | refine zcurL (by decide +kernel) ?_ | refine zcurH (by decide +kernel) ?_ | refine zcurL' (by decide +kernel) ?_ | refine zcurH' (by decide +kernel) ?_)
        | ((first | refine aw_yrun draws (by kernel_rfl) ?_ | refine awl_skip' [] rfl ?_ | refine yl_skip rfl ?_ | refine aw_skip ?_ | refine aw_exit ?_); try simp -implicitDefEqProofs (maxSteps := 1000000) [hlti, hvl, hla, hg, wi])
        | (refine aw_cond rfl (fun h => ?_) (fun h => ?_) <;> try (with_reducible first | exact ff_tt h | exact tt_ff h))
        | refine aw_block ?_
        | refine aw_ret (ret_of (.inr rfl) (by simp [Try.results27]; rfl) (Fin.of ?_))
        | refine ret_of (.inl rfl) (by simp [Try.results27]; rfl) (Fin.of ?_))
      refine zl_append (by simp) rfl rfl rfl (xs := V) (by simp) (by omega) rfl (by simp) te51 tet51 tz93 rfl hVc (by simp) (by simp; omega) (by simp; omega) ?_
      simp -implicitDefEqProofs
      repeat' (first
        | refine aw_seq ?_
        | ((first | refine aw_run [] ?_ | refine aw_ymix [] draws (by decide +kernel) ?_); try simp -implicitDefEqProofs (maxSteps := 1000000) [wi])
        | ((first | refine aw_zrun [] [] draws (by decide +kernel) (by decide +kernel) ?_ | refine zl_skip (by simp) rfl ?_); try simp -implicitDefEqProofs (maxSteps := 1000000) [wi]; repeat first | refine zcurL (by decide +kernel) ?_ | refine zcurH (by decide +kernel) ?_ | refine zcurL' (by decide +kernel) ?_ | refine zcurH' (by decide +kernel) ?_)
        | ((first | refine aw_yrun draws (by kernel_rfl) ?_ | refine awl_skip' [] rfl ?_ | refine yl_skip rfl ?_ | refine aw_skip ?_ | refine aw_exit ?_); try simp -implicitDefEqProofs (maxSteps := 1000000) [wi])
        | (refine aw_cond rfl (fun h => ?_) (fun h => ?_) <;> try (with_reducible first | exact ff_tt h | exact tt_ff h))
        | refine aw_block ?_
        | refine aw_ret (ret_of (.inr rfl) (by simp [Try.results27]; rfl) (Fin.of ?_))
        | refine ret_of (.inl rfl) (by simp [Try.results27]; rfl) (Fin.of ?_))
      refine ⟨q - 1, by omega, _, le_mkSt (bs := []) (ss := [(m, V.take i ++ [.agg [vi a, vi b, vi w]])]) (n := m + 1) (by simp) (by simp) (Nat.le_refl _), m, m + 1, i + 1, by omega, by omega, ?_, ?_⟩
      · rw [hVn, List.take_of_length_le (by omega)]
      · simp
    · have hlti : ¬ (i : Int) < l.length := by omega
      obtain rfl : i = l.length := by omega
      rw [List.take_of_length_le (by omega)] at *
      refine aw_freeze (b := k') (xs := kns l) (by simp) ?_
      simp -implicitDefEqProofs [frz, frz1, frz0]
      repeat' (first
        | refine aw_seq ?_
        | ((first | refine aw_run [] ?_ | refine aw_ymix [] draws (by decide +kernel) ?_); try simp -implicitDefEqProofs (maxSteps := 1000000) [hlti, hvl])
        | ((first | refine aw_zrun [] [] draws (by decide +kernel) (by decide +kernel) ?_ | refine zl_skip (by simp) rfl ?_); try simp -implicitDefEqProofs (maxSteps := 1000000) [hlti, hvl]; repeat first | refine zcurL (by decide +kernel) ?_ | refine zcurH (by decide +kernel) ?_ | refine zcurL' (by decide +kernel) ?_ | refine zcurH' (by decide +kernel) ?_)
        | ((first | refine aw_yrun draws (by kernel_rfl) ?_ | refine awl_skip' [] rfl ?_ | refine yl_skip rfl ?_ | refine aw_skip ?_ | refine aw_exit ?_); try simp -implicitDefEqProofs (maxSteps := 1000000) [hlti, hvl])
        | (refine aw_cond rfl (fun h => ?_) (fun h => ?_) <;> try (with_reducible first | exact ff_tt h | exact tt_ff h))
        | refine aw_block ?_
        | refine aw_ret (ret_of (.inr rfl) (by simp [Try.results27]; rfl) (Fin.of ?_))
        | refine ret_of (.inl rfl) (by simp [Try.results27]; rfl) (Fin.of ?_))
      simp [tupOf, hvl, List.take_of_length_le]
theorem apure_nil2 {P : Program} {F : FuncId} {a r : AV} {c : Nat} (h : APure P F [a, .vsl []] r) : APure P F [a, .p (.slice none 0 c)] r := by
  intro G w vs hv hs
  refine h G w vs ?_ hs
  refine ⟨hv.1, fun i x v hx hw => ?_⟩
  match i, hx with
  | 0, hx => exact hv.2 0 x v hx hw
  | 1, hx =>
    cases hx
    have := hv.2 1 _ v rfl hw
    cases this
    exact .vnil none c
set_option maxHeartbeats 8000000 in
set_option maxRecDepth 100000 in
theorem rOf8_ok (t : Tree) (l : List (Int × Int × Int)) (hin : t.In) (hz : tszT t ≤ 1000000000) (hl : l.length ≤ 1000000000) : APure Try.prog 26 [t.av, .vsl (kns l)] (vi (if rightB t = true then wayT (atK l) t else 3)) := by
  have hr := rright5_ok t (in_sh8 t hin) (by have := deep_le_size t; omega)
  have hw : rightB t = true → APure Try.prog 57 [t.av, .vsl (kns l)] (vi (wayT (atK l) t)) := fun h => rway8_ok l (by omega) t hin (by unfold rightB at h; simp only [Bool.and_eq_true] at h; exact h.2)
  generalize wayT (atK l) t = W at *
  generalize rightB t = rb at *
  obtain ⟨k, n, a, b, c, d, w, ks⟩ := t
  rw [Tree.av] at hr hw ⊢
  cases rb with
  | true =>
    have hw := hw rfl
    refine apure_of Try.func26 Try.ntmps26 rfl ?_
    simp only [List.length_cons, List.length_nil, List.cons_append, List.nil_append, List.replicate]
    repeat' (first
      | refine aw_seq ?_
      | (refine aw_run [] ?_; try simp -implicitDefEqProofs (maxSteps := 1000000))
      | ((first | refine awl_skip' [] rfl ?_ | refine awl_pure_guard [] rfl rfl rfl (by first | assumption | kernel_rfl) rfl (fun hc => by first | exact hr | exact hw) (by simp) (by simp) (by simp) ?_ | refine awl_pure' [] rfl rfl rfl (by first | assumption | kernel_rfl) rfl (by first | exact hr | exact hw) (by simp) (by simp) ?_ | refine aw_skip ?_ | refine aw_exit ?_); try simp -implicitDefEqProofs (maxSteps := 1000000))
      | (refine aw_cond rfl (fun h => ?_) (fun h => ?_) <;> try (with_reducible first | exact ff_tt h | exact tt_ff h))
      | refine aw_block ?_
      | refine aw_ret (ret_of (.inr rfl) (by simp [Try.results26]; rfl) (Fin.of ?_))
      | refine ret_of (.inl rfl) (by simp [Try.results26]; rfl) (Fin.of ?_))
    all_goals first | (simp [tupOf]; done) | trace_state
  | false =>
    refine apure_of Try.func26 Try.ntmps26 rfl ?_
    simp only [List.length_cons, List.length_nil, List.cons_append, List.nil_append, List.replicate]
    repeat' (first
      | refine aw_seq ?_
      | (refine aw_run [] ?_; try simp -implicitDefEqProofs (maxSteps := 1000000))
      | ((first | refine awl_skip' [] rfl ?_ | refine awl_pure_guard [] rfl rfl rfl (by first | assumption | kernel_rfl) rfl (fun hc => by first | exact hr) (by simp) (by simp) (by simp) ?_ | refine awl_pure' [] rfl rfl rfl (by first | assumption | kernel_rfl) rfl (by first | exact hr) (by simp) (by simp) ?_ | refine aw_skip ?_ | refine aw_exit ?_); try simp -implicitDefEqProofs (maxSteps := 1000000))
      | (refine aw_cond rfl (fun h => ?_) (fun h => ?_) <;> try (with_reducible first | exact ff_tt h | exact tt_ff h))
      | refine aw_block ?_
      | refine aw_ret (ret_of (.inr rfl) (by simp [Try.results26]; rfl) (Fin.of ?_))
      | refine ret_of (.inl rfl) (by simp [Try.results26]; rfl) (Fin.of ?_))
    all_goals first | (simp [tupOf]; done) | trace_state
/-! ### what is known, in the program and in the document -/
theorem gotK_snoc (x y a b w : Int) : ∀ M, gotK (M ++ [(a, b, w)]) x y = if (ixK M x y 0).isSome = true then gotK M x y else if x = a ∧ y = b then w else 0 := by
  have hix : ∀ (M : List (Int × Int × Int)) (i j : Nat), (ixK M x y i).isSome = (ixK M x y j).isSome := by
    intro M
    induction M with
    | nil => intro i j; rfl
    | cons p M ih =>
      intro i j
      obtain ⟨a, b, w⟩ := p
      rw [ixK, ixK]
      by_cases h : x = a ∧ y = b
      · rw [if_pos h, if_pos h]; rfl
      · rw [if_neg h, if_neg h]; exact ih _ _
  intro M
  induction M with
  | nil => simp [gotK, ixK]
  | cons p M ih =>
    obtain ⟨a', b', w'⟩ := p
    rw [List.cons_append, gotK, gotK, ixK]
    by_cases h : x = a' ∧ y = b'
    · simp [h]
    · rw [if_neg h, if_neg h, if_neg h, ih, hix M 1 0]
theorem ixK_snoc (x y a b w : Int) : ∀ (M : List (Int × Int × Int)) (i : Nat), (ixK (M ++ [(a, b, w)]) x y i).isSome = ((ixK M x y i).isSome || decide (x = a ∧ y = b))
  | [], i => by
    by_cases h : x = a ∧ y = b <;> simp [ixK, h]
  | (a', b', w') :: M, i => by
    rw [List.cons_append, ixK, ixK]
    by_cases h : x = a' ∧ y = b'
    · rw [if_pos h, if_pos h]; rfl
    · rw [if_neg h, if_neg h]; exact ixK_snoc x y a b w M (i + 1)
theorem got_fold (x y : Int) : ∀ (l M : List (Int × Int × Int)), gotK (l.foldl addK M) x y = if (ixK M x y 0).isSome = true then gotK M x y else atK l x y
  | [], M => by
    have h := shI x y M 0
    rw [List.foldl_nil, atK]
    cases hq : ixK M x y 0 with
    | none => rw [hq] at h; simpa using h
    | some j => simp
  | (a, b, w) :: l, M => by
    rw [List.foldl_cons, got_fold x y l, atK]
    unfold addK
    by_cases h1 : (ixK M a b 0).isSome = true
    · rw [if_pos h1]
      by_cases h2 : (ixK M x y 0).isSome = true
      · rw [if_pos h2, if_pos h2]
      · rw [if_neg h2, if_neg h2]
        rw [if_neg (fun e => h2 (by rw [← e.1, ← e.2]; exact h1))]
    · rw [if_neg h1, ixK_snoc, gotK_snoc]
      by_cases h2 : (ixK M x y 0).isSome = true
      · simp [h2]
      · have h2' := eq_false_of_ne_true h2
        simp only [h2', Bool.false_or, decide_eq_true_eq, Bool.false_eq_true, if_false]
        by_cases h3 : x = a ∧ y = b
        · rw [if_pos h3, if_pos h3, if_pos ⟨h3.1.symm, h3.2.symm⟩]
        · rw [if_neg h3, if_neg (fun e => h3 ⟨e.1.symm, e.2.symm⟩)]
theorem got_all (l : List (Int × Int × Int)) : gotK (l.foldl addK []) = atK l := by
  funext x y
  rw [got_fold]; rfl
theorem mOfD (t : Tree) (l : List (Int × Int × Int)) (hin : t.In) (hz : tszT t ≤ 1000000000) (hl : l.length ≤ 1000000000) : APure Try.prog 25 [t.av, .vsl (kns l)] (vi (if rightB t = true then wayT (atK l) t else 3)) := by
  refine mOf_ok t (rightB t) l _ hl (by rw [← rightK_B]; exact sRight_ok t (in_sh8 t hin)) fun h => ?_
  have := mway_ok (l.foldl addK []) (fun x y => by rw [got_all]; exact atK_in x y l) t hz hin (by unfold rightB at h; simp only [Bool.and_eq_true] at h; exact h.2)
  rw [got_all] at this
  exact this
end Go.AL
