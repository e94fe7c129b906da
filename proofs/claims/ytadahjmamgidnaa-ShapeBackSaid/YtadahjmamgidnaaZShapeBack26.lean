/- Parts of the proof of ShapeBack: the logic, contracts, plain laws. -/
import Derived.Test.YtadahjmamgidnaaZShapeBack25
import Derived.Laws.FloatArith
import Derived.Test.YtadahjmamgidnaaZShapeBack9
import Derived.Laws.ComplexArith
/-! Contracts: shape.Reads. -/
namespace Go.AL
open Go.Proofs
set_option linter.unusedSimpArgs false
set_option linter.unusedVariables false
set_option maxRecDepth 1000000 in
theorem tzB : tzero Try.prog 78 = some (.agg (bcells 1024 fun _ => false)) := by kernel_rfl
def pidx (p : Int × Int) : Nat := (p.2 * 16 + p.1).toNat
def markL (cs : List AV) (l : List (Int × Int)) : List AV := l.foldl (fun cs p => cs.set (pidx p) (vb true)) cs
theorem markL_append (cs : List AV) (l m : List (Int × Int)) : markL cs (l ++ m) = markL (markL cs l) m := List.foldl_append
def InP (p : Int × Int) : Prop := rightP p.1 p.2 = true
theorem InP.lt {p : Int × Int} (h : InP p) : 0 ≤ p.2 * 16 + p.1 ∧ pidx p < 1024 := by
  unfold InP rightP at h
  simp only [Bool.and_eq_true, decide_eq_true_eq] at h
  unfold pidx
  omega
theorem markL_b {n : Nat} : ∀ (l : List (Int × Int)) (f : Nat → Bool), (∀ p ∈ l, pidx p < n) → markL (bcells n f) l = bcells n fun i => (l.any fun p => decide (pidx p = i)) || f i
  | [], f, _ => by simp [markL]
  | p :: l, f, h => by
    have h1 := h p List.mem_cons_self
    have h2 : markL (bcells n f) (p :: l) = markL ((bcells n f).set (pidx p) (vb true)) l := rfl
    rw [h2, bcells_set h1, markL_b l _ fun q hq => h q (List.mem_cons_of_mem _ hq)]
    congr 1
    funext i
    simp only [List.any_cons]
    by_cases e : pidx p = i
    · subst e; simp
    · have : ¬ i = pidx p := fun e2 => e e2.symm
      simp [e, this]
theorem gridL_len (a b c d : Int) : (gridL a b c d).length ≤ 1024 := by
  unfold gridL
  split
  · rename_i hw
    have := whole_iff.1 hw
    rw [gridN_len]
    exact Nat.le_trans (Nat.mul_le_mul (show (d - b + 1).toNat ≤ 64 by omega) (show (c - a + 1).toNat ≤ 16 by omega)) (by decide)
  · simp
@[simp] theorem cl_pl (l : List (Int × Int)) : (∀ c ∈ l.map pl, Cl c) = True := eq_true fun c hc => by
  obtain ⟨p, _, rfl⟩ := List.mem_map.1 hc
  exact .agg _ (by simp)
@[simp] theorem cl_pl' (l : List (Int × Int)) : (∀ (c : AV) (x y : Int), (x, y) ∈ l → pl (x, y) = c → Cl c) = True := eq_true fun c x y _ h => by
  rw [← h]; exact .agg _ (by simp)
theorem gridL_in {a b c d : Int} : ∀ p ∈ gridL a b c d, InP p := by
  intro p hp
  unfold gridL at hp
  split at hp
  · rename_i hw
    have := whole_iff.1 hw
    simp only [gridN, rowN, List.mem_flatMap, List.mem_map, List.mem_range] at hp
    obtain ⟨j, hj, i, hi, rfl⟩ := hp
    unfold InP rightP
    simp only [Bool.and_eq_true, decide_eq_true_eq]
    omega
  · cases hp
def partL (t : Tree) : List (Int × Int) := match t with
  | .mk k _ a b c d _ _ => if k = 1 ∨ k = 6 then gridL a b c d else []
theorem partL_in (t : Tree) : ∀ p ∈ partL t, InP p := by
  intro p hp
  obtain ⟨k, n, a, b, c, d, w, ks⟩ := t
  by_cases h : k = 1 ∨ k = 6
  · rw [partL, if_pos h] at hp; exact gridL_in p hp
  · rw [partL, if_neg h] at hp; cases hp
def stpB (cs : List AV) (t : Tree) : List AV × Option Code := (markL cs (partL t), none)
set_option maxRecDepth 100000 in
theorem stpB_inv (cs : List AV) (h : ∃ f, cs = bcells 1024 f) (x : Tree) : ∃ f, (stpB cs x).1 = bcells 1024 f := by
  obtain ⟨f, rfl⟩ := h
  have := markL_b (n := 1024) (partL x) f fun p hp => (partL_in x p hp).lt.2
  exact ⟨_, this⟩
theorem visit_B : ∀ (l : List Tree) (cs : List AV), visit stpB l cs = (markL cs (l.flatMap partL), none)
  | [], cs => rfl
  | x :: l, cs => by
    have h2 : visit stpB (x :: l) cs = visit stpB l (markL cs (partL x)) := rfl
    rw [h2, visit_B l, List.flatMap_cons, markL_append]
/-- Is the place with that index read? -/
def readAt (l : List Tree) (i : Nat) : Bool := (l.flatMap partL).any fun p => decide (pidx p = i)
set_option maxRecDepth 100000 in
theorem cl_of_b {cs : List AV} (h : ∃ f, cs = bcells 1024 f) : ∀ c ∈ cs, Cl c := by obtain ⟨f, rfl⟩ := h; exact bcells_cl
set_option maxHeartbeats 8000000 in
set_option maxRecDepth 100000 in
theorem shReads_ok (t : Tree) (rb : Bool) (hR : APure Try.prog 41 [t.av] (vb rb)) (hsh : t.sh) : APure Try.prog 14 [t.av] (.vsl ((gridP (readAt (partsR rb t)) 1024).map pl)) := by
  have hit := parts1_ok t rb hR hsh stpB (partsR rb t) (fun x h => h) (fun cs => ∃ f, cs = bcells 1024 f)
  have hp := parts_ok t
  have hv : visit stpB (partsR rb t) (bcells 1024 fun _ => false) = (bcells 1024 (readAt (partsR rb t)), none) := by
    have h1 := markL_b (n := 1024) ((partsR rb t).flatMap partL) (fun _ => false) fun p hp => by obtain ⟨x, _, hx⟩ := List.mem_flatMap.1 hp; exact (partL_in x p hx).lt.2
    rw [visit_B, h1]
    congr 2
    funext i; simp [readAt]
  have hcl := t.cl
  obtain ⟨T, hT⟩ : ∃ T, T = t.av := ⟨_, rfl⟩
  rw [← hT] at hit hp hcl ⊢
  refine apure_marks Try.func14 Try.ntmps14 rfl (by simp [hcl]) (by simp) ?_
  simp only [List.length_cons, List.length_nil, List.cons_append, List.nil_append, List.replicate]
  rw [hT] at hit hp hcl ⊢
  obtain ⟨k, n, a, b, c, d, w, ks⟩ := t
  rw [Tree.av] at hit hp hcl ⊢
  obtain ⟨XS, hXS⟩ : ∃ XS, XS = partsR rb (.mk k n a b c d w ks) := ⟨_, rfl⟩
  rw [← hXS] at hit hv ⊢
  repeat' (first
    | refine aw_seq ?_
    | (refine aw_run [3, 4, 6, 10] ?_; try simp -implicitDefEqProofs (maxSteps := 1000000) [tzB])
    | ((first | refine awl_skip' [3, 4, 6, 10] rfl ?_ | refine awl_pure_guard [3, 4, 6, 10] rfl rfl rfl (by first | assumption | kernel_rfl) rfl (fun hc => by first | exact hp) (by simp) (by simp) (by simp) ?_ | refine awl_pure' [3, 4, 6, 10] rfl rfl rfl (by first | assumption | kernel_rfl) rfl (by first | exact hp) (by simp) (by simp) ?_ | refine aw_skip ?_ | refine aw_exit ?_); try simp -implicitDefEqProofs (maxSteps := 1000000) [tzB])
    | (refine aw_cond rfl (fun h => ?_) (fun h => ?_) <;> try (with_reducible first | exact ff_tt h | exact tt_ff h))
    | refine aw_block ?_
    | refine aw_ret (ret_of (.inr rfl) (by simp [Try.results14]; rfl) (Fin.of ?_))
    | refine ret_of (.inl rfl) (by simp [Try.results14]; rfl) (Fin.of ?_))
  refine aw_weak (τ := mkSt [(0, bcells 1024 fun _ => false)] [] 1) (le_mkSt (by simp [σ0]) (by simp) (by simp)) ?_
  refine aw_keep [3, 13] ?_
  simp -implicitDefEqProofs [keep]
  have hF : ∀ v ∈ [AV.any, .any, .any, .ptr 0 0, .any, .any, .any, .any, .any, .any, .any, .any, .any, .fn (.func 72) [] [.vel [.agg [vi k, vi n, vi a, vi b, vi c, vi d, vs w, .vsl (avs ks)]] 0 0]] ++ List.replicate 33 .any, F0 v := by
    simp only [List.replicate, List.cons_append, List.nil_append]
    repeat first | exact f0_nil | refine f0_cons (.inl (by simp)) ?_ | refine f0_cons (.inr ⟨_, rfl⟩) ?_
  simp only [List.replicate, List.cons_append, List.nil_append] at hF
  refine aw_rangeFunc (b := 0) rfl (by simp) (by kernel_rfl) rfl rfl rfl _ hF sub0.symm Tree.av stpB XS (fun cs => ∃ f, cs = bcells 1024 f) ⟨_, rfl⟩ (fun cs h => cl_of_b h) (fun cs h x _ => stpB_inv cs h x) (fun HY => hit _ _ hF (fun cs h => cl_of_b h) (fun cs h x _ => stpB_inv cs h x) HY _ ⟨_, rfl⟩) ?_ ?_ ?_
  · rintro cs ⟨f, rfl⟩ u hx es
    obtain ⟨xk, xn, xa, xb, xc, xd, xw, xks⟩ := u
    have hr : APure Try.prog 45 [(Tree.mk xk xn xa xb xc xd xw xks).av] (vb (decide (xk = 1) || decide (xk = 6))) := reads_ok _
    have hc := cells_ok xa xb xc xd
    have hin : ∀ p ∈ gridL xa xb xc xd, InP p := gridL_in
    have hlenL : (gridL xa xb xc xd).length ≤ 1024 := gridL_len _ _ _ _
    have hst : stpB (bcells 1024 f) (.mk xk xn xa xb xc xd xw xks) = (markL (bcells 1024 f) (if xk = 1 ∨ xk = 6 then gridL xa xb xc xd else []), none) := rfl
    rw [hst]
    rw [Tree.av] at hr ⊢
    generalize gridL xa xb xc xd = L at *
    simp -implicitDefEqProofs
    repeat' (first
      | refine aw_seq ?_
      | (refine aw_run [3, 4, 6, 10] ?_; try simp -implicitDefEqProofs (maxSteps := 1000000))
      | ((first | refine awl_skip' [3, 4, 6, 10] rfl ?_ | refine awl_pure_guard [3, 4, 6, 10] rfl rfl rfl (by first | assumption | kernel_rfl) rfl (fun hc => by first | exact hr | exact hc) (by simp) (by simp) (by simp) ?_ | refine awl_pure' [3, 4, 6, 10] rfl rfl rfl (by first | assumption | kernel_rfl) rfl (by first | exact hr | exact hc) (by simp) (by simp) ?_ | refine aw_skip ?_ | refine aw_exit ?_); try simp -implicitDefEqProofs (maxSteps := 1000000))
      | (refine aw_cond rfl (fun h => ?_) (fun h => ?_) <;> try (with_reducible first | exact ff_tt h | exact tt_ff h))
      | refine aw_block ?_
      | refine aw_ret (ret_of (.inr rfl) (by simp [Try.results14]; rfl) (Fin.of ?_))
      | refine ret_of (.inl rfl) (by simp [Try.results14]; rfl) (Fin.of ?_))
    intro es'
    repeat' (first
      | refine aw_seq ?_
      | (refine aw_run [3, 4, 6, 10] ?_; try simp -implicitDefEqProofs (maxSteps := 1000000))
      | ((first | refine awl_skip' [3, 4, 6, 10] rfl ?_ | refine awl_pure_guard [3, 4, 6, 10] rfl rfl rfl (by first | assumption | kernel_rfl) rfl (fun hc => by first | exact hr | exact hc) (by simp) (by simp) (by simp) ?_ | refine awl_pure' [3, 4, 6, 10] rfl rfl rfl (by first | assumption | kernel_rfl) rfl (by first | exact hr | exact hc) (by simp) (by simp) ?_ | refine aw_skip ?_ | refine aw_exit ?_); try simp -implicitDefEqProofs (maxSteps := 1000000))
      | (refine aw_cond rfl (fun h => ?_) (fun h => ?_) <;> try (with_reducible first | exact ff_tt h | exact tt_ff h))
      | refine aw_block ?_
      | refine aw_ret (ret_of (.inr rfl) (by simp [Try.results14]; rfl) (Fin.of ?_))
      | refine ret_of (.inl rfl) (by simp [Try.results14]; rfl) (Fin.of ?_))
    · have h' : ¬ (xk = 1 ∨ xk = 6) := by simpa using h
      rw [if_neg h']
      exact ⟨rfl, by simp [markL], by simp⟩
    · have h' : xk = 1 ∨ xk = 6 := by
        by_cases h1 : xk = 1
        · exact .inl h1
        · simp [h1] at h; exact .inr h
      rw [if_pos h']
      have hlm : (L.map pl).length = L.length := List.length_map _
      refine aw_loopW [3, 20, 21, 22] (fun q fr σ => ∃ j M : Nat, j + q = L.length ∧ 2 ≤ M ∧ σ = ystN (markL (bcells 1024 f) (L.take j)) es' M ∧ fr = frm 47 [(3, .ptr 0 0), (20, .vsl (L.map pl)), (21, vi L.length), (22, vi (j : Nat))]) L.length ?_ ?_
      · exact ⟨_, le_ystN (by simp; rfl) (by simp; rfl) (Nat.le_refl _), 0, 3, by omega, by omega, by simp [markL], by simp⟩
      · rintro q fr σ ⟨j, M, hj, hM, rfl, rfl⟩
        simp -implicitDefEqProofs
        have hM0 : ¬ M = 0 := by omega
        have hM1 : ¬ M = 1 := by omega
        have hM2 : ¬ 0 = M := by omega
        have hM3 : ¬ 1 = M := by omega
        by_cases hlt : j < L.length
        · have hlti : (j : Int) < L.length := by omega
          obtain ⟨pp, hpp⟩ : ∃ pp, L[j] = pp := ⟨_, rfl⟩
          have hpi := hin pp (hpp ▸ List.getElem_mem hlt)
          have hg : (L.map pl)[j]? = some (pl pp) := by rw [List.getElem?_map, List.getElem?_eq_getElem hlt, hpp]; rfl
          have hg2 : L[j]? = some pp := by rw [List.getElem?_eq_getElem hlt, hpp]
          have hix := index_ok pp.1 pp.2
          have hpi' : rightP pp.1 pp.2 = true := hpi
          rw [if_pos hpi'] at hix
          obtain ⟨i0, i1⟩ := hpi.lt
          have hnx : IntKind.i64.wrap ((j : Int) + 1) = (j : Int) + 1 := wrap_id (by omega) (by omega)
          have hml : (markL (bcells 1024 f) (L.take j)).length = 1024 := by
            rw [markL_b _ _ fun p hp => (hin p (List.mem_of_mem_take hp)).lt.2, bcells_len]
          have hmn : markL (bcells 1024 f) (L.take (j + 1)) = (markL (bcells 1024 f) (L.take j)).set (pidx pp) (vb true) := by
            rw [List.take_add_one, hg2, markL_append]; rfl
          generalize markL (bcells 1024 f) (L.take j) = cs1 at *
          obtain ⟨px, py⟩ := pp
          simp only [pidx] at hix i1 hmn
          simp only [pl] at hg
          have i2 : py * 16 + px < 1024 := by omega
          have i3 : (py * 16 + px).toNat + 1 ≤ 1024 := by omega
          repeat' (first
            | refine aw_seq ?_
            | (refine aw_run [3, 4, 6, 10] ?_; try simp -implicitDefEqProofs (maxSteps := 1000000) [hlti, hlm, hg, hg2, hnx, hM0, hM1, hM2, hM3, i0, i1, i2, i3, hml])
            | ((first | refine awl_skip' [3, 4, 6, 10] rfl ?_ | refine awl_pure_guard [3, 4, 6, 10] rfl rfl rfl (by first | assumption | kernel_rfl) rfl (fun hc => by first | exact hix) (by simp) (by simp) (by simp) ?_ | refine awl_pure' [3, 4, 6, 10] rfl rfl rfl (by first | assumption | kernel_rfl) rfl (by first | exact hix) (by simp) (by simp) ?_ | refine aw_skip ?_ | refine aw_exit ?_); try simp -implicitDefEqProofs (maxSteps := 1000000) [hlti, hlm, hg, hg2, hnx, hM0, hM1, hM2, hM3, i0, i1, i2, i3, hml])
            | (refine aw_cond rfl (fun h => ?_) (fun h => ?_) <;> try (with_reducible first | exact ff_tt h | exact tt_ff h))
            | refine aw_block ?_
            | refine aw_ret (ret_of (.inr rfl) (by simp [Try.results14]; rfl) (Fin.of ?_))
            | refine ret_of (.inl rfl) (by simp [Try.results14]; rfl) (Fin.of ?_))
          exact ⟨q - 1, by omega, _, le_ystN (cs := cs1.set (py * 16 + px).toNat (vb true)) (es := es') (n := M + 1) (by simp [hM2]) (by simp [hM3]) (by simp), j + 1, by omega, M + 1, by omega, by rw [hmn], by simp⟩
        · have hlti : ¬ (j : Int) < L.length := by omega
          rw [List.take_of_length_le (by omega)]
          repeat' (first
            | refine aw_seq ?_
            | (refine aw_run [3, 4, 6, 10] ?_; try simp -implicitDefEqProofs (maxSteps := 1000000) [hlti])
            | ((first | refine awl_skip' [3, 4, 6, 10] rfl ?_ | refine aw_skip ?_ | refine aw_exit ?_); try simp -implicitDefEqProofs (maxSteps := 1000000) [hlti])
            | (refine aw_cond rfl (fun h => ?_) (fun h => ?_) <;> try (with_reducible first | exact ff_tt h | exact tt_ff h))
            | refine aw_block ?_
            | refine aw_ret (ret_of (.inr rfl) (by simp [Try.results14]; rfl) (Fin.of ?_))
            | refine ret_of (.inl rfl) (by simp [Try.results14]; rfl) (Fin.of ?_))
          exact ⟨rfl, by simp, by simp⟩
  · intro hj N hN
    rw [hv]
    simp -implicitDefEqProofs [inBlockA, thenA]
    have hbl := bcells_len 1024 (readAt XS)
    have hbg : ∀ i : Nat, i < 1024 → (bcells 1024 (readAt XS))[i]? = some (vb (readAt XS i)) := fun i h => bcells_get h
    have hbt : (bcells 1024 (readAt XS)).take 1024 = bcells 1024 (readAt XS) := List.take_of_length_le (by omega)
    generalize readAt XS = rd at *
    generalize bcells 1024 rd = BC at *
    repeat' (first
      | refine aw_seq ?_
      | (refine aw_run [3, 4, 6, 10] ?_; try simp -implicitDefEqProofs (maxSteps := 1000000) [hbl, hbt])
      | ((first | refine awl_skip' [3, 4, 6, 10] rfl ?_ | refine aw_skip ?_ | refine aw_exit ?_); try simp -implicitDefEqProofs (maxSteps := 1000000) [hbl, hbt])
      | (refine aw_cond rfl (fun h => ?_) (fun h => ?_) <;> try (with_reducible first | exact ff_tt h | exact tt_ff h))
      | refine aw_block ?_
      | refine aw_ret (ret_of (.inr rfl) (by simp [Try.results14]; rfl) (Fin.close (Fin.of ?_)))
      | refine ret_of (.inl rfl) (by simp [Try.results14]; rfl) (Fin.close (Fin.of ?_)))
    refine aw_open (i := 7) rfl ?_
    refine aw_loopW [7, 30, 31] (fun q fr σ => ∃ k' m i : Nat, i + q = 1024 ∧ k' < m ∧ σ = mkSt [] [(k', (gridP rd i).map pl)] m ∧ fr = frm 47 [(7, .hsl k' 0 (gridP rd i).length), (30, .agg BC), (31, vi (i : Nat))]) 1024 ?_ ?_
    · refine ⟨_, le_mkSt (bs := []) (ss := [(N, [])]) (n := N + 1) (by simp) (by simp) (by simp), N, N + 1, 0, rfl, by omega, by simp [gridP], ?_⟩
      simp [gridP]
    · rintro q fr σ ⟨k', m, i, hi, hkm, rfl, rfl⟩
      have hlen := gridP_len rd i
      simp -implicitDefEqProofs
      by_cases hlt : i < 1024
      · have hlti : (i : Int) < 1024 := by omega
        have hnx : IntKind.i64.wrap ((i : Int) + 1) = (i : Int) + 1 := wrap_id (by omega) (by omega)
        have hg := hbg i hlt
        generalize hrdi : rd i = ub at *
        repeat' (first
          | refine aw_seq ?_
          | (refine aw_run [3, 4, 6, 10] ?_; try simp -implicitDefEqProofs (maxSteps := 1000000) [hlti])
          | ((first | refine awl_skip' [3, 4, 6, 10] rfl ?_ | refine aw_skip ?_ | refine aw_exit ?_); try simp -implicitDefEqProofs (maxSteps := 1000000) [hlti])
          | (refine aw_cond rfl (fun h => ?_) (fun h => ?_) <;> try (with_reducible first | exact ff_tt h | exact tt_ff h))
          | refine aw_block ?_
          | refine aw_ret (ret_of (.inr rfl) (by simp [Try.results14]; rfl) (Fin.close (Fin.of ?_)))
          | refine ret_of (.inl rfl) (by simp [Try.results14]; rfl) (Fin.close (Fin.of ?_)))
        refine awl_indexA [10] rfl rfl rfl rfl ta78 (by omega) (by omega) (r := vb ub) (by simp [aloadC, hg]) ?_
        simp -implicitDefEqProofs
        repeat' (first
          | refine aw_seq ?_
          | (refine aw_run [3, 4, 6, 10] ?_; try simp -implicitDefEqProofs (maxSteps := 1000000) [hlti, hnx])
          | ((first | refine awl_skip' [3, 4, 6, 10] rfl ?_ | refine awl_pure_guard [3, 4, 6, 10] rfl rfl rfl (by first | assumption | kernel_rfl) rfl (fun hc => by first | exact at_ok _) (by simp) (by simp) (by simp) ?_ | refine awl_pure' [3, 4, 6, 10] rfl rfl rfl (by first | assumption | kernel_rfl) rfl (by first | exact at_ok _) (by simp) (by simp) ?_ | refine aw_skip ?_ | refine aw_exit ?_); try simp -implicitDefEqProofs (maxSteps := 1000000) [hlti, hnx])
          | (refine aw_cond rfl (fun h => ?_) (fun h => ?_) <;> try (with_reducible first | exact ff_tt h | exact tt_ff h))
          | refine aw_block ?_
          | refine aw_ret (ret_of (.inr rfl) (by simp [Try.results14]; rfl) (Fin.close (Fin.of ?_)))
          | refine ret_of (.inl rfl) (by simp [Try.results14]; rfl) (Fin.close (Fin.of ?_)))
        · subst h
          refine awl_append [10] rfl rfl rfl (xs := (gridP rd i).map pl) (by simp) (by simp) rfl (by simp) te37 tet37 tz24 rfl ?_ (by simp) (by simp; omega) (by simp; omega) ?_
          · intro y hy
            simp at hy
            obtain ⟨_, _, _, rfl⟩ := hy
            rfl
          simp -implicitDefEqProofs
          repeat' (first
            | refine aw_seq ?_
            | (refine aw_run [3, 4, 6, 10] ?_; try simp -implicitDefEqProofs (maxSteps := 1000000) [hnx])
            | ((first | refine awl_skip' [3, 4, 6, 10] rfl ?_ | refine aw_skip ?_ | refine aw_exit ?_); try simp -implicitDefEqProofs (maxSteps := 1000000) [hnx])
            | (refine aw_cond rfl (fun h => ?_) (fun h => ?_) <;> try (with_reducible first | exact ff_tt h | exact tt_ff h))
            | refine aw_block ?_
            | refine aw_ret (ret_of (.inr rfl) (by simp [Try.results14]; rfl) (Fin.close (Fin.of ?_)))
            | refine ret_of (.inl rfl) (by simp [Try.results14]; rfl) (Fin.close (Fin.of ?_)))
          refine ⟨q - 1, by omega, _, le_mkSt (bs := []) (ss := [(m + 1, (((gridP rd i).map pl).take (gridP rd i).length) ++ [pl (atC i, atR i)])]) (n := m + 2) (by simp) (by simp [pl]) (Nat.le_refl _), m + 1, m + 2, i + 1, by omega, by omega, ?_, ?_⟩
          · rw [gridP_succ, if_pos hrdi, List.map_append, List.take_of_length_le (by simp)]; rfl
          · rw [gridP_succ, if_pos hrdi]
            simp
        · subst h
          refine ⟨q - 1, by omega, _, le_mkSt (bs := []) (ss := [(k', (gridP rd i).map pl)]) (n := m + 1) (by simp) (by simp) (Nat.le_refl _), k', m + 1, i + 1, by omega, by omega, ?_, ?_⟩
          · rw [gridP_succ, if_neg (by simp [hrdi]), List.append_nil]
          · rw [gridP_succ, if_neg (by simp [hrdi]), List.append_nil]
            simp
      · have hlti : ¬ (i : Int) < 1024 := by omega
        obtain rfl : i = 1024 := by omega
        refine aw_freeze (b := k') (xs := (gridP rd 1024).map pl) (by simp) ?_
        simp -implicitDefEqProofs [frz, frz1, frz0]
        repeat' (first
          | refine aw_seq ?_
          | (refine aw_run [3, 4, 6, 10] ?_; try simp -implicitDefEqProofs (maxSteps := 1000000))
          | ((first | refine awl_skip' [3, 4, 6, 10] rfl ?_ | refine aw_skip ?_ | refine aw_exit ?_); try simp -implicitDefEqProofs (maxSteps := 1000000))
          | (refine aw_cond rfl (fun h => ?_) (fun h => ?_) <;> try (with_reducible first | exact ff_tt h | exact tt_ff h))
          | refine aw_block ?_
          | refine aw_ret (ret_of (.inr rfl) (by simp [Try.results14]; rfl) (Fin.of ?_))
          | refine ret_of (.inl rfl) (by simp [Try.results14]; rfl) (Fin.of ?_))
        all_goals first | (simp [tupOf, List.take_of_length_le]; done) | trace_state
  · intro cc hj
    rw [hv] at hj; cases hj
end Go.AL
namespace Go.Proofs.Ytadahjmamgidnaa.Flo
open Ieee

theorem read_word (neg : Bool) (e kept : Nat) (h0 : 2 ^ 52 ≤ kept) (h1 : kept ≤ 2 ^ 53) (he : e ≤ 2000) :
    ∃ m i, double.read (double.word neg (e * 2 ^ 52 + kept)) = .number neg m i ∧ 2 ^ 52 ≤ m ∧ m < 2 ^ 53 ∧ (e : Int) - 1074 ≤ i ∧ i ≤ (e : Int) - 1073 := by
  have hsw : double.signWeight = 2 ^ 63 := rfl
  have hbin : double.binade = 2 ^ 52 := rfl
  have hinf : double.infRung = 2047 * 2 ^ 52 := rfl
  have hlp : double.leastPlace = -1074 := rfl
  have hneg : (double.word neg (e * 2 ^ 52 + kept) / double.signWeight % 2 == 1) = neg := by
    unfold Format.word
    rw [hsw]
    cases neg with
    | true => rw [if_pos rfl, beq_iff_eq]; omega
    | false => rw [if_neg (by decide), beq_eq_false_iff_ne]; omega
  have hr : double.word neg (e * 2 ^ 52 + kept) % double.signWeight = e * 2 ^ 52 + kept := by
    unfold Format.word
    rw [hsw]
    cases neg with
    | true => rw [if_pos rfl]; omega
    | false => rw [if_neg (by decide)]; omega
  unfold Format.read
  simp only [hneg, hr]
  rw [hbin, hinf, hlp, if_neg (by omega), if_pos (by omega)]
  refine ⟨_, _, rfl, by omega, by omega, ?_, ?_⟩
  · have : e ≤ (e * 2 ^ 52 + kept) / 2 ^ 52 - 1 := by omega
    omega
  · have : (e * 2 ^ 52 + kept) / 2 ^ 52 - 1 ≤ e + 1 := by omega
    omega
theorem log2_lo {m : Nat} (h : m ≠ 0) : 2 ^ m.log2 ≤ m := Nat.log2_self_le h
theorem log2_hi {m : Nat} (_ : m ≠ 0) : m < 2 ^ (m.log2 + 1) := Nat.lt_log2_self
theorem near_read (neg : Bool) (mag : Nat) (place : Int) (h : mag ≠ 0) (hlo : -1000 ≤ place + mag.log2) (hhi : place + mag.log2 ≤ 900) :
    ∃ m i, double.read (double.nearest neg mag place) = .number neg m i ∧ 2 ^ 52 ≤ m ∧ m < 2 ^ 53 ∧ place + mag.log2 - 52 ≤ i ∧ i ≤ place + mag.log2 - 51 := by
  have hbin : double.binade = 2 ^ 52 := rfl
  have hinf : double.infRung = 2047 * 2 ^ 52 := rfl
  have hlp : double.leastPlace = -1074 := rfl
  have hfb : double.fractionBits = 52 := rfl
  have l1 := log2_lo h
  have l2 := log2_hi h
  unfold Format.nearest
  rw [if_neg h, hlp, hfb, hbin, hinf]
  generalize hL : mag.log2 = L at *
  have e1 : max (place + (L : Int) - (52 : Nat)) (-1074) = place + L - 52 := by omega
  simp only [e1]
  have e2 : (place + (L : Int) - 52 - -1074).toNat = (place + L + 1022).toNat := by congr 1; omega
  rw [e2]
  have key : ∃ kept, Toward.even.cut neg (mag <<< (place - (place + (L : Int) - 52)).toNat) (place + (L : Int) - 52 - place).toNat = kept ∧ 2 ^ 52 ≤ kept ∧ kept ≤ 2 ^ 53 := by
    refine ⟨_, rfl, ?_⟩
    by_cases hc : L ≤ 52
    · have a1 : (place - (place + (L : Int) - 52)).toNat = 52 - L := by omega
      have a2 : (place + (L : Int) - 52 - place).toNat = 0 := by omega
      rw [a1, a2, Nat.shiftLeft_eq]
      unfold Toward.cut
      simp only [Nat.zero_min, Nat.shiftLeft_zero, Nat.div_one, Nat.mod_one]
      have p : 2 ^ 52 = 2 ^ L * 2 ^ (52 - L) := by rw [← Nat.pow_add]; congr 1; omega
      have q : 2 ^ 53 = 2 ^ (L + 1) * 2 ^ (52 - L) := by rw [← Nat.pow_add]; congr 1; omega
      have b1 : 2 ^ 52 ≤ mag * 2 ^ (52 - L) := by rw [p]; exact Nat.mul_le_mul_right _ l1
      have b2 : mag * 2 ^ (52 - L) < 2 ^ 53 := by rw [q]; exact Nat.mul_lt_mul_of_pos_right l2 (Nat.pow_pos (by decide))
      generalize mag * 2 ^ (52 - L) = z at *
      simp
      omega
    · have a1 : (place - (place + (L : Int) - 52)).toNat = 0 := by omega
      have a2 : (place + (L : Int) - 52 - place).toNat = L - 52 := by omega
      rw [a1, a2, Nat.shiftLeft_zero]
      unfold Toward.cut
      rw [hL, show min (L - 52) (L + 2) = L - 52 from by omega, Nat.shiftLeft_eq, Nat.one_mul]
      have p : 2 ^ L = 2 ^ 52 * 2 ^ (L - 52) := by rw [← Nat.pow_add]; congr 1; omega
      have q : 2 ^ (L + 1) = 2 ^ 53 * 2 ^ (L - 52) := by rw [← Nat.pow_add]; congr 1; omega
      have b1 : 2 ^ 52 ≤ mag / 2 ^ (L - 52) := (Nat.le_div_iff_mul_le (Nat.pow_pos (by decide))).2 (by rw [← p]; exact l1)
      have b2 : mag / 2 ^ (L - 52) < 2 ^ 53 := (Nat.div_lt_iff_lt_mul (Nat.pow_pos (by decide))).2 (by rw [← q]; exact l2)
      have b3 : ∀ b : Bool, b.toNat ≤ 1 := fun b => by cases b <;> decide
      dsimp only
      generalize mag / 2 ^ (L - 52) = z at *
      have := b3 ((decide (2 ^ (L - 52) < 2 * (mag % 2 ^ (L - 52))) || (2 ^ (L - 52) == 2 * (mag % 2 ^ (L - 52)) && z % 2 == 1)))
      omega
  obtain ⟨kept, ek, k0, k1⟩ := key
  rw [ek, Nat.min_eq_left (by omega)]
  obtain ⟨m, i, hr, m0, m1, i0, i1⟩ := read_word neg (place + L + 1022).toNat kept k0 k1 (by omega)
  exact ⟨m, i, hr, m0, m1, by omega, by omega⟩

/-! ### whole numbers -/
abbrev F (n : Int) : Nat := floatOfInt .f64 n
theorem F_eq (n : Int) : F n = double.nearest (decide (n < 0)) n.natAbs 0 := rfl
/-- What stands for a small number. -/
theorem small_read : ∀ a : Nat, a < 64 → ∃ m i, double.read (F a) = .number false m i ∧ i ≤ 0 ∧ -1074 ≤ i ∧ m = a * 2 ^ (-i).toNat := by
  have h : ∀ a : Nat, a < 64 → (match double.read (F a) with | .number false m i => decide (i ≤ 0 ∧ -1074 ≤ i ∧ m = a * 2 ^ (-i).toNat) | _ => false) = true := by decide +kernel
  intro a ha
  have := h a ha
  split at this
  · rename_i m i e
    obtain ⟨h1, h2, h3⟩ := of_decide_eq_true this
    exact ⟨m, i, e, h1, h2, h3⟩
  · cases this
def add64 (x y : Nat) : Option Nat := FloatKind.f64.format.add x y
def ord64 (x y : Nat) : Option Ordering := FloatKind.f64.format.order x y
/-- Small sums are exact. -/
def fineSum (a b : Int) : Bool :=
  match add64 (F a) (F b) with
  | some z => ord64 z 0 == some (compare (a + b) 0) && ord64 z 4625196817309499392 == some (compare (a + b) 16) && ord64 z 4634204016564240384 == some (compare (a + b) 64) && floatToIntVal .f64 z .i64 == some (a + b)
  | none => false
theorem fine_small : ∀ a : Nat, a < 64 → ∀ b : Nat, b < 129 → fineSum a (b - 64) = true := by decide +kernel
end Go.Proofs.Ytadahjmamgidnaa.Flo
namespace Go.Proofs.Ytadahjmamgidnaa.Flo
open Ieee
/-- A great step leads away. -/
theorem far_sum {a b : Int} (ha : 0 ≤ a ∧ a < 64) (hb : -9223372036854775808 ≤ b ∧ b ≤ 9223372036854775807) (far : b < -64 ∨ 64 < b) :
    ∃ z, add64 (F a) (F b) = some z ∧ (b < 0 → ord64 z 0 = some .lt) ∧ (0 < b → ord64 z 4625196817309499392 = some .gt ∧ (ord64 z 4634204016564240384 = some .gt ∨ ord64 z 4634204016564240384 = some .eq)) := by
  obtain ⟨n, rfl⟩ := Int.eq_ofNat_of_zero_le ha.1
  obtain ⟨m1, i1, e1, p1, q1, r1⟩ := small_read n (by omega)
  have hb0 : b.natAbs ≠ 0 := by omega
  have l1 := log2_lo hb0
  have l2 := log2_hi hb0
  have lg : 6 ≤ b.natAbs.log2 := (Nat.le_log2 hb0).2 (by omega)
  have lh : b.natAbs.log2 ≤ 63 := by
    have : b.natAbs.log2 < 64 := (Nat.log2_lt hb0).2 (by omega)
    omega
  obtain ⟨m2, i2, e2, a2, b2, c2, d2⟩ := near_read (decide (b < 0)) b.natAbs 0 hb0 (by omega) (by omega)
  rw [← F_eq] at e2
  -- the exact sum
  obtain ⟨base, hbase⟩ : ∃ base, base = min i1 i2 := ⟨_, rfl⟩
  obtain ⟨X, hX⟩ : ∃ X : Nat, X = m2 <<< (i2 - base).toNat := ⟨_, rfl⟩
  obtain ⟨B, hB⟩ : ∃ B : Nat, B = (-base).toNat := ⟨_, rfl⟩
  have hN : m1 <<< (i1 - base).toNat = n * 2 ^ B := by
    rw [Nat.shiftLeft_eq, r1, Nat.mul_assoc, ← Nat.pow_add]
    congr 2
    omega
  have X0 : 64 * 2 ^ B ≤ X := by
    rw [hX, Nat.shiftLeft_eq]
    have h1 : 2 ^ 52 * 2 ^ (i2 - base).toNat ≤ m2 * 2 ^ (i2 - base).toNat := Nat.mul_le_mul_right _ a2
    have h2 : (64 : Nat) * 2 ^ B ≤ 2 ^ 52 * 2 ^ (i2 - base).toNat := by
      rw [show (64 : Nat) = 2 ^ 6 from rfl, ← Nat.pow_add, ← Nat.pow_add]
      exact Nat.pow_le_pow_right (by omega) (by omega)
    exact Nat.le_trans h2 h1
  have X1 : X < 2 ^ (66 + B) := by
    rw [hX, Nat.shiftLeft_eq]
    have h1 : m2 * 2 ^ (i2 - base).toNat < 2 ^ 53 * 2 ^ (i2 - base).toNat := Nat.mul_lt_mul_of_pos_right b2 (Nat.pow_pos (by decide))
    have h2 : (2 : Nat) ^ 53 * 2 ^ (i2 - base).toNat ≤ 2 ^ (66 + B) := by
      rw [← Nat.pow_add]
      exact Nat.pow_le_pow_right (by omega) (by omega)
    exact Nat.lt_of_lt_of_le h1 h2
  have P0 : 0 < 2 ^ B := Nat.pow_pos (by decide)
  have nB : n * 2 ^ B ≤ 63 * 2 ^ B := Nat.mul_le_mul_right _ (by omega)
  have pB : (2 : Nat) ^ (66 + B) = 2 ^ 66 * 2 ^ B := Nat.pow_add ..
  have q6 : (2 : Nat) ^ (6 + B) = 64 * 2 ^ B := Nat.pow_add 2 6 B
  have q7 : (2 : Nat) ^ (67 + B) = 2 ^ 67 * 2 ^ B := Nat.pow_add ..
  obtain ⟨total, ht⟩ : ∃ total : Int, total = signed false m1 (i1 - base).toNat + signed (decide (b < 0)) m2 (i2 - base).toNat := ⟨_, rfl⟩
  have hsum : add64 (F n) (F b) = some (double.nearest (if total = 0 then (false && decide (b < 0)) else decide (total < 0)) total.natAbs base) := by
    show ((double.read (F n)).sum (double.read (F b))).map double.write = _
    rw [e1, e2]
    simp only [Datum.sum, Option.map_some]
    rw [← hbase, ← ht]
    rfl
  refine ⟨_, hsum, ?_, ?_⟩
  · intro hb1
    have tneg : total = (n * 2 ^ B : Nat) - (X : Int) := by
      rw [ht, decide_eq_true hb1]
      simp only [signed]
      rw [if_neg (by decide), if_pos trivial, hN, ← hX]
      omega
    generalize n * 2 ^ B = nb at *
    have t0 : total.natAbs ≠ 0 := by omega
    have lo : B ≤ total.natAbs.log2 := (Nat.le_log2 t0).2 (by omega)
    have hi : total.natAbs.log2 < 67 + B := (Nat.log2_lt t0).2 (by omega)
    obtain ⟨m3, i3, e3, a3, b3, c3, d3⟩ := near_read (if total = 0 then (false && decide (b < 0)) else decide (total < 0)) total.natAbs base t0 (by omega) (by omega)
    rw [if_neg (by omega), decide_eq_true (by omega)] at e3 ⊢
    have z0 : double.read 0 = .number false 0 (-1074) := by decide +kernel
    show (double.read _).order (double.read 0) = _
    rw [e3, z0]
    simp only [Datum.order, signed]
    rw [if_pos trivial, if_neg (by decide), Nat.zero_shiftLeft]
    have : 0 < m3 <<< (i3 - min i3 (-1074)).toNat := by
      rw [Nat.shiftLeft_eq]
      exact Nat.mul_pos (by omega) (Nat.pow_pos (by decide))
    rw [Int.compare_eq_lt.2 (by omega)]
  · intro hb1
    have tpos : total = (n * 2 ^ B : Nat) + (X : Int) := by
      rw [ht, decide_eq_false (by omega : ¬ b < 0)]
      simp only [signed]
      rw [if_neg (by decide), if_neg (by decide), hN, ← hX]
    generalize n * 2 ^ B = nb at *
    have t0 : total.natAbs ≠ 0 := by omega
    have lo : 6 + B ≤ total.natAbs.log2 := (Nat.le_log2 t0).2 (by omega)
    have hi : total.natAbs.log2 < 67 + B := (Nat.log2_lt t0).2 (by omega)
    obtain ⟨m3, i3, e3, a3, b3, c3, d3⟩ := near_read (if total = 0 then (false && decide (b < 0)) else decide (total < 0)) total.natAbs base t0 (by omega) (by omega)
    rw [if_neg (by omega), decide_eq_false (by omega)] at e3 ⊢
    have z1 : double.read 4625196817309499392 = .number false (2 ^ 52) (-48) := by decide +kernel
    have z2 : double.read 4634204016564240384 = .number false (2 ^ 52) (-46) := by decide +kernel
    constructor
    · show (double.read _).order (double.read 4625196817309499392) = _
      rw [e3, z1]
      simp only [Datum.order, signed]
      rw [if_neg (by decide), if_neg (by decide), show min i3 (-48) = -48 from by omega, Nat.shiftLeft_eq, Nat.shiftLeft_eq]
      have : m3 * 2 ^ 1 ≤ m3 * 2 ^ (i3 - -48).toNat := Nat.mul_le_mul_left _ (Nat.pow_le_pow_right (by omega) (by omega))
      rw [Int.compare_eq_gt.2 (by simp only [Int.sub_self, Int.toNat_zero, Nat.pow_zero, Nat.mul_one]; omega)]
    · show (double.read _).order (double.read 4634204016564240384) = _ ∨ (double.read _).order (double.read 4634204016564240384) = _
      rw [e3, z2]
      simp only [Datum.order, signed]
      rw [if_neg (by decide), if_neg (by decide), show min i3 (-46) = -46 from by omega, Nat.shiftLeft_eq, Nat.shiftLeft_eq]
      have : m3 * 2 ^ 0 ≤ m3 * 2 ^ (i3 - -46).toNat := Nat.mul_le_mul_left _ (Nat.pow_le_pow_right (by omega) (by omega))
      simp only [Int.sub_self, Int.toNat_zero, Nat.pow_zero, Nat.mul_one] at this ⊢
      rcases Nat.lt_or_ge (2 ^ 52) (m3 * 2 ^ (i3 - -46).toNat) with h | h
      · exact .inl (by rw [Int.compare_eq_gt.2 (by omega)])
      · exact .inr (by rw [Int.compare_eq_eq.2 (by omega)])

/-- The sum of two whole numbers as floats. -/
def S64 (a b : Int) : Nat := (add64 (F a) (F b)).getD 0
/-- What is told of a coordinate a, so much (b) on. -/
theorem sum_small {a b : Int} (ha : 0 ≤ a ∧ a < 64) (hb : -64 ≤ b ∧ b ≤ 64) :
    add64 (F a) (F b) = some (S64 a b) ∧ ord64 (S64 a b) 0 = some (compare (a + b) 0) ∧ ord64 (S64 a b) 4625196817309499392 = some (compare (a + b) 16) ∧ ord64 (S64 a b) 4634204016564240384 = some (compare (a + b) 64) ∧ floatToIntVal .f64 (S64 a b) .i64 = some (a + b) := by
  have h := fine_small a.toNat (by omega) (b + 64).toNat (by omega)
  rw [show ((a.toNat : Nat) : Int) = a from by omega, show (((b + 64).toNat : Nat) : Int) - 64 = b from by omega] at h
  unfold fineSum at h
  unfold S64
  cases e : add64 (F a) (F b) with
  | none => rw [e] at h; cases h
  | some z =>
    rw [e] at h
    simp only [Bool.and_eq_true, beq_iff_eq] at h
    exact ⟨rfl, h.1.1.1, h.1.1.2, h.1.2, h.2⟩
theorem sum_some {a b : Int} (ha : 0 ≤ a ∧ a < 64) (hb : -9223372036854775808 ≤ b ∧ b ≤ 9223372036854775807) : add64 (F a) (F b) = some (S64 a b) := by
  by_cases h : -64 ≤ b ∧ b ≤ 64
  · exact (sum_small ha h).1
  · obtain ⟨z, hz, -⟩ := far_sum ha hb (by omega)
    unfold S64; rw [hz]; rfl
theorem sum_below {a b : Int} (ha : 0 ≤ a ∧ a < 64) (hb : -9223372036854775808 ≤ b ∧ b ≤ 9223372036854775807) : ord64 (S64 a b) 0 = some .lt ↔ a + b < 0 := by
  by_cases h : -64 ≤ b ∧ b ≤ 64
  · rw [(sum_small ha h).2.1, Option.some.injEq, Int.compare_eq_lt]
  · obtain ⟨z, hz, h1, h2⟩ := far_sum ha hb (by omega)
    have e : S64 a b = z := by unfold S64; rw [hz]; rfl
    rw [e]
    by_cases b0 : b < 0
    · exact ⟨fun _ => by omega, fun _ => h1 b0⟩
    · refine ⟨fun hh => ?_, fun _ => by omega⟩
      have z1 : Ieee.double.read 4625196817309499392 = .number false (2 ^ 52) (-48) := by decide +kernel
      have z0 : Ieee.double.read 0 = .number false 0 (-1074) := by decide +kernel
      have g := (h2 (by omega)).1
      exfalso
      -- a number below 0 is not above 16
      unfold ord64 at g hh
      have g' : (Ieee.double.read z).order (Ieee.double.read 4625196817309499392) = some .gt := g
      have h' : (Ieee.double.read z).order (Ieee.double.read 0) = some .lt := hh
      rw [z1] at g'
      rw [z0] at h'
      cases hr : Ieee.double.read z with
      | nan _ _ => rw [hr] at g'; simp [Datum.order] at g'
      | infinity s => cases s <;> rw [hr] at g' h' <;> simp [Datum.order] at g' h'
      | number s m i =>
        rw [hr] at g' h'
        simp only [Datum.order, Option.some.injEq] at g' h'
        rw [Int.compare_eq_gt] at g'
        rw [Int.compare_eq_lt] at h'
        cases s with
        | false => simp only [signed] at h'; rw [if_neg (by decide), if_neg (by decide), Nat.zero_shiftLeft] at h'; generalize m <<< (i - min i (-1074)).toNat = q at h'; omega
        | true =>
          simp only [signed] at g'
          rw [if_pos trivial, if_neg (by decide)] at g'
          generalize m <<< (i - min i (-48)).toNat = q at g'
          generalize (2 ^ 52) <<< (-48 - min i (-48)).toNat = q2 at g'
          omega
theorem sum_above16 {a b : Int} (ha : 0 ≤ a ∧ a < 64) (hb : -9223372036854775808 ≤ b ∧ b ≤ 9223372036854775807) (h0 : 0 ≤ a + b) : (ord64 (S64 a b) 4625196817309499392 = some .gt ∨ ord64 (S64 a b) 4625196817309499392 = some .eq) ↔ 16 ≤ a + b := by
  by_cases h : -64 ≤ b ∧ b ≤ 64
  · rw [(sum_small ha h).2.2.1, Option.some.injEq, Option.some.injEq, Int.compare_eq_gt, Int.compare_eq_eq]; omega
  · obtain ⟨z, hz, h1, h2⟩ := far_sum ha hb (by omega)
    have e : S64 a b = z := by unfold S64; rw [hz]; rfl
    rw [e]
    exact ⟨fun _ => by omega, fun _ => .inl (h2 (by omega)).1⟩
theorem sum_above64 {a b : Int} (ha : 0 ≤ a ∧ a < 64) (hb : -9223372036854775808 ≤ b ∧ b ≤ 9223372036854775807) (h0 : 0 ≤ a + b) : (ord64 (S64 a b) 4634204016564240384 = some .gt ∨ ord64 (S64 a b) 4634204016564240384 = some .eq) ↔ 64 ≤ a + b := by
  by_cases h : -64 ≤ b ∧ b ≤ 64
  · rw [(sum_small ha h).2.2.2.1, Option.some.injEq, Option.some.injEq, Int.compare_eq_gt, Int.compare_eq_eq]; omega
  · obtain ⟨z, hz, h1, h2⟩ := far_sum ha hb (by omega)
    have e : S64 a b = z := by unfold S64; rw [hz]; rfl
    rw [e]
    exact ⟨fun _ => by omega, fun _ => (h2 (by omega)).2⟩
end Go.Proofs.Ytadahjmamgidnaa.Flo
/-! Contracts: place, by points. -/
namespace Go.AL
open Go.Proofs Go.Proofs.Ytadahjmamgidnaa
set_option linter.unusedSimpArgs false
set_option linter.unusedVariables false
/-! ### points -/
set_option maxRecDepth 100000 in
theorem of_ok (c r : Int) : APure Try.prog 102 [place c r] (.p (.complex .f64 (floatOfInt .f64 c) (floatOfInt .f64 r))) := by
  refine apure_of Try.func102 Try.ntmps102 rfl ?_
  simp only [List.length_cons, List.length_nil, List.cons_append, List.nil_append, List.replicate]
  repeat' (first
    | refine aw_seq ?_
    | (refine aw_run [] ?_; try simp -implicitDefEqProofs (maxSteps := 1000000))
    | ((first | refine awl_skip' [] rfl ?_ | refine aw_skip ?_ | refine aw_exit ?_); try simp -implicitDefEqProofs (maxSteps := 1000000))
    | (refine aw_cond rfl (fun h => ?_) (fun h => ?_) <;> try (with_reducible first | exact ff_tt h | exact tt_ff h))
    | refine aw_block ?_
    | refine aw_ret (ret_of (.inr rfl) (by simp [Try.results102]; rfl) (Fin.of ?_))
    | refine ret_of (.inl rfl) (by simp [Try.results102]; rfl) (Fin.of ?_))
  refine awl_conc rfl (.float .f64 (floatOfInt .f64 c)) (fun e w he => by simp [execOp, he (.tmp 4) _ rfl, go_sem]) (awl_run' [] ?_)
  simp -implicitDefEqProofs
  refine awl_conc rfl (.float .f64 (floatOfInt .f64 r)) (fun e w he => by simp [execOp, he (.tmp 7) _ rfl, go_sem]) (awl_run' [] ?_)
  simp -implicitDefEqProofs
  refine awl_conc rfl (.complex .f64 (floatOfInt .f64 c) (floatOfInt .f64 r)) (fun e w he => by simp [execOp, he (.tmp 5) _ rfl, he (.tmp 8) _ rfl, go_sem]) (awl_run' [] ?_)
  simp -implicitDefEqProofs
  repeat' (first
    | refine aw_seq ?_
    | (refine aw_run [] ?_; try simp -implicitDefEqProofs (maxSteps := 1000000))
    | ((first | refine awl_skip' [] rfl ?_ | refine aw_skip ?_ | refine aw_exit ?_); try simp -implicitDefEqProofs (maxSteps := 1000000))
    | (refine aw_cond rfl (fun h => ?_) (fun h => ?_) <;> try (with_reducible first | exact ff_tt h | exact tt_ff h))
    | refine aw_block ?_
    | refine aw_ret (ret_of (.inr rfl) (by simp [Try.results102]; rfl) (Fin.of ?_))
    | refine ret_of (.inl rfl) (by simp [Try.results102]; rfl) (Fin.of ?_))
  rfl
def negF (y : Nat) : Nat := Op.negFloat .f64 y
def ordF (x y : Nat) : Option Ordering := FloatKind.f64.format.order x y
abbrev f16 : Nat := 4625196817309499392
abbrev f64c : Nat := 4634204016564240384
/-- Is the point at no place? -/
def Off (x y : Nat) : Prop := ordF x 0 = some .lt ∨ ordF x f16 = some .gt ∨ ordF x f16 = some .eq ∨ ordF y 0 = some .lt ∨ ordF y f64c = some .gt ∨ ordF y f64c = some .eq
instance (x y : Nat) : Decidable (Off x y) := by unfold Off; infer_instance
set_option maxRecDepth 100000 in
theorem point_ok (x y : Nat) (c r : Int) (hc : ¬ Off x y → floatToIntVal .f64 x .i64 = some c ∧ floatToIntVal .f64 y .i64 = some r) :
    APure Try.prog 103 [.p (.complex .f64 x y)] (.tup [place (z (decide (¬ Off x y)) c) (z (decide (¬ Off x y)) r), vb (decide (¬ Off x y))]) := by
  refine apure_of Try.func103 Try.ntmps103 rfl ?_
  simp only [List.length_cons, List.length_nil, List.cons_append, List.nil_append, List.replicate]
  repeat' (first
    | refine aw_seq ?_
    | (refine aw_run [2] ?_; try simp -implicitDefEqProofs (maxSteps := 1000000))
    | ((first | refine awl_skip' [2] rfl ?_ | refine aw_skip ?_ | refine aw_exit ?_); try simp -implicitDefEqProofs (maxSteps := 1000000))
    | (refine aw_cond rfl (fun h => ?_) (fun h => ?_) <;> try (with_reducible first | exact ff_tt h | exact tt_ff h))
    | refine aw_block ?_
    | refine aw_ret (ret_of (.inr rfl) (by simp [Try.results103]; rfl) (Fin.of ?_))
    | refine ret_of (.inl rfl) (by simp [Try.results103]; rfl) (Fin.of ?_))
  refine awl_conc rfl (.float .f64 x) (fun e w he => by simp [execOp, he (.tmp 6) _ rfl, go_sem]) (awl_run' [] ?_)
  simp -implicitDefEqProofs
  refine awl_conc rfl (.float .f64 y) (fun e w he => by simp [execOp, he (.tmp 8) _ rfl, go_sem]) (awl_run' [] ?_)
  simp -implicitDefEqProofs
  repeat' (first
    | refine aw_seq ?_
    | (refine aw_run [2] ?_; try simp -implicitDefEqProofs (maxSteps := 1000000))
    | ((first | refine awl_skip' [2] rfl ?_ | refine aw_skip ?_ | refine aw_exit ?_); try simp -implicitDefEqProofs (maxSteps := 1000000))
    | (refine aw_cond rfl (fun h => ?_) (fun h => ?_) <;> try (with_reducible first | exact ff_tt h | exact tt_ff h))
    | refine aw_block ?_
    | refine aw_ret (ret_of (.inr rfl) (by simp [Try.results103]; rfl) (Fin.of ?_))
    | refine ret_of (.inl rfl) (by simp [Try.results103]; rfl) (Fin.of ?_))
  · have : Off x y := by
      simp at h
      unfold Off ordF
      rcases h with ((h | h | h) | h) | h | h <;> simp [h]
    simp [this, tupOf]
  · have hn : ¬ Off x y := by
      simp at h
      unfold Off ordF
      simp_all
    obtain ⟨h1, h2⟩ := hc hn
    refine awl_conc rfl (.int .i64 c) (fun e w he => by simp only [execOp, he (.tmp 25) _ rfl, Sem.run_bind, run_convert_float_int w 166 3 .f64 .i64 x c (by rw [Try.underlying166]; rfl) (Try.underlying3) h1, Result.andThen_ok, Sem.run_pure]) (awl_run' [2] ?_)
    simp -implicitDefEqProofs
    refine awl_conc rfl (.int .i64 r) (fun e w he => by simp only [execOp, he (.tmp 27) _ rfl, Sem.run_bind, run_convert_float_int w 166 3 .f64 .i64 y r (by rw [Try.underlying166]; rfl) (Try.underlying3) h2, Result.andThen_ok, Sem.run_pure]) (awl_run' [2] ?_)
    simp -implicitDefEqProofs
    repeat' (first
      | refine aw_seq ?_
      | (refine aw_run [2] ?_; try simp -implicitDefEqProofs (maxSteps := 1000000))
      | ((first | refine awl_skip' [2] rfl ?_ | refine aw_skip ?_ | refine aw_exit ?_); try simp -implicitDefEqProofs (maxSteps := 1000000))
      | (refine aw_cond rfl (fun h => ?_) (fun h => ?_) <;> try (with_reducible first | exact ff_tt h | exact tt_ff h))
      | refine aw_block ?_
      | refine aw_ret (ret_of (.inr rfl) (by simp [Try.results103]; rfl) (Fin.of ?_))
      | refine ret_of (.inl rfl) (by simp [Try.results103]; rfl) (Fin.of ?_))
    simp [hn, tupOf]
def moveP (c r bc br : Int) : Bool := rightP c r && rightP (c + bc) (r + br)
theorem rightP_iff {c r : Int} : rightP c r = true ↔ 0 ≤ c ∧ c < 16 ∧ 0 ≤ r ∧ r < 64 := by simp [rightP, and_assoc]
theorem off_iff {c r bc br : Int} (h : rightP c r = true) (hb : -9223372036854775808 ≤ bc ∧ bc ≤ 9223372036854775807) (hr : -9223372036854775808 ≤ br ∧ br ≤ 9223372036854775807) :
    Off (Flo.S64 c bc) (Flo.S64 r br) ↔ ¬ rightP (c + bc) (r + br) = true := by
  have h := rightP_iff.1 h
  have x0 := Flo.sum_below (a := c) (b := bc) (by omega) hb
  have y0 := Flo.sum_below (a := r) (b := br) (by omega) hr
  rw [rightP_iff]
  unfold Off
  show Flo.ord64 _ _ = _ ∨ Flo.ord64 _ _ = _ ∨ Flo.ord64 _ _ = _ ∨ Flo.ord64 _ _ = _ ∨ Flo.ord64 _ _ = _ ∨ Flo.ord64 _ _ = _ ↔ _
  by_cases c0 : c + bc < 0
  · exact ⟨fun _ => by omega, fun _ => .inl (x0.2 c0)⟩
  · have x1 := Flo.sum_above16 (a := c) (b := bc) (by omega) hb (by omega)
    by_cases r0 : r + br < 0
    · exact ⟨fun _ => by omega, fun _ => .inr (.inr (.inr (.inl (y0.2 r0))))⟩
    · have y1 := Flo.sum_above64 (a := r) (b := br) (by omega) hr (by omega)
      constructor
      · rintro (e | e | e | e | e | e)
        · exact absurd (x0.1 e) c0
        · have := x1.1 (.inl e); omega
        · have := x1.1 (.inr e); omega
        · exact absurd (y0.1 e) r0
        · have := y1.1 (.inl e); omega
        · have := y1.1 (.inr e); omega
      · intro hh
        by_cases q : 16 ≤ c + bc
        · rcases x1.2 q with e | e
          · exact .inr (.inl e)
          · exact .inr (.inr (.inl e))
        · rcases y1.2 (by omega) with e | e
          · exact .inr (.inr (.inr (.inr (.inl e))))
          · exact .inr (.inr (.inr (.inr (.inr e))))
set_option maxRecDepth 100000 in
theorem move_ok (c r bc br : Int) (hb : -9223372036854775808 ≤ bc ∧ bc ≤ 9223372036854775807) (hr : -9223372036854775808 ≤ br ∧ br ≤ 9223372036854775807) :
    APure Try.prog 70 [place c r, place bc br] (.tup [place (z (moveP c r bc br) (c + bc)) (z (moveP c r bc br) (r + br)), vb (moveP c r bc br)]) := by
  refine apure_of Try.func70 Try.ntmps70 rfl ?_
  simp only [List.length_cons, List.length_nil, List.cons_append, List.nil_append, List.replicate]
  repeat' (first
    | refine aw_seq ?_
    | ((first | refine aw_run [4] ?_ | refine aw_ymix [4] draws (by decide +kernel) ?_); try simp -implicitDefEqProofs (maxSteps := 1000000))
    | ((first | refine aw_zrun [4] [] draws (by decide +kernel) (by decide +kernel) ?_ | refine zl_skip (by simp) rfl ?_ | refine zl_pure_guard (by simp) rfl rfl rfl (by first | assumption | kernel_rfl) rfl (fun hc => by first | exact right_ok _ _ | exact of_ok _ _) (by simp) (by simp) (by simp) ?_ | refine zl_pure (by simp) rfl rfl rfl (by first | assumption | kernel_rfl) rfl (by first | exact right_ok _ _ | exact of_ok _ _) (by simp) (by simp) ?_); try simp -implicitDefEqProofs (maxSteps := 1000000); repeat first | refine zcurL (by decide +kernel) ?_ | refine zcurH (by decide +kernel) ?_ | refine zcurL' (by decide +kernel) ?_ | refine zcurH' (by decide +kernel) ?_)
    | ((first | refine aw_yrun draws (by kernel_rfl) ?_ | refine awl_skip' [4] rfl ?_ | refine yl_skip rfl ?_ | refine awl_pure_guard [4] rfl rfl rfl (by first | assumption | kernel_rfl) rfl (fun hc => by first | exact right_ok _ _ | exact of_ok _ _) (by simp) (by simp) (by simp) ?_ | refine yl_pureG rfl rfl rfl (by first | assumption | kernel_rfl) rfl (fun hc => by first | exact right_ok _ _ | exact of_ok _ _) (by simp) (by simp) (by simp) ?_ | refine awl_pure' [4] rfl rfl rfl (by first | assumption | kernel_rfl) rfl (by first | exact right_ok _ _ | exact of_ok _ _) (by simp) (by simp) ?_ | refine yl_pure rfl rfl rfl (by first | assumption | kernel_rfl) rfl (by first | exact right_ok _ _ | exact of_ok _ _) (by simp) (by simp) ?_ | refine aw_skip ?_ | refine aw_exit ?_); try simp -implicitDefEqProofs (maxSteps := 1000000))
    | (refine aw_cond rfl (fun h => ?_) (fun h => ?_) <;> try (with_reducible first | exact ff_tt h | exact tt_ff h))
    | refine aw_block ?_
    | refine aw_ret (ret_of (.inr rfl) (by simp [Try.results70]; rfl) (Fin.of ?_))
    | refine ret_of (.inl rfl) (by simp [Try.results70]; rfl) (Fin.of ?_))
  · simp at h
    simp [moveP, h, tupOf]
  · simp at h
    have hR := rightP_iff.1 h
    have s1 := Flo.sum_some (a := c) (b := bc) (by omega) hb
    have s2 := Flo.sum_some (a := r) (b := br) (by omega) hr
    have hadd : ∀ W, (binOp .add 135 (.complex .f64 (floatOfInt .f64 c) (floatOfInt .f64 r)) (.complex .f64 (floatOfInt .f64 bc) (floatOfInt .f64 br))).run Try.prog W = .ok (.complex .f64 (Flo.S64 c bc) (Flo.S64 r br)) W :=
      fun W => run_complex_sum W .add (.inl rfl) _ .f64 _ _ _ _ _ _ (by
        unfold cSumBits
        rw [show floatBits .add .f64 (floatOfInt .f64 c) (floatOfInt .f64 bc) = some (Flo.S64 c bc) from s1, show floatBits .add .f64 (floatOfInt .f64 r) (floatOfInt .f64 br) = some (Flo.S64 r br) from s2]
        rfl)
    have ho := off_iff h hb hr
    have hp := point_ok (Flo.S64 c bc) (Flo.S64 r br) (c + bc) (r + br) fun hn => by
      have hl := rightP_iff.1 (Classical.not_not.1 fun hh => hn (ho.2 hh))
      exact ⟨(Flo.sum_small (a := c) (b := bc) (by omega) (by omega)).2.2.2.2, (Flo.sum_small (a := r) (b := br) (by omega) (by omega)).2.2.2.2⟩
    generalize Flo.S64 c bc = x at *
    generalize Flo.S64 r br = y at *
    refine yl_conc rfl (.complex .f64 x y) (fun e w he => by
      have e1 := he (.tmp 11) (by simp [Op.operands]) _ rfl
      have e2 := he (.tmp 13) (by simp [Op.operands]) _ rfl
      simp only [execOp, e1, e2, Sem.run_bind, run_eqGuard (P := Try.prog) (op := .add) (t := 135) (x := .tmp 11) (y := .tmp 13) (a := .complex .f64 (floatOfInt .f64 c) (floatOfInt .f64 r)) (b := .complex .f64 (floatOfInt .f64 bc) (floatOfInt .f64 br)) (by intros; contradiction) (by intros; contradiction), hadd, Result.andThen_ok, Sem.run_pure]) ?_
    simp -implicitDefEqProofs
    repeat' (first
      | refine aw_seq ?_
      | ((first | refine aw_run [4] ?_ | refine aw_ymix [4] draws (by decide +kernel) ?_); try simp -implicitDefEqProofs (maxSteps := 1000000))
      | ((first | refine aw_zrun [4] [] draws (by decide +kernel) (by decide +kernel) ?_ | refine zl_skip (by simp) rfl ?_ | refine zl_pure_guard (by simp) rfl rfl rfl (by first | assumption | kernel_rfl) rfl (fun hc => by first | exact hp) (by simp) (by simp) (by simp) ?_ | refine zl_pure (by simp) rfl rfl rfl (by first | assumption | kernel_rfl) rfl (by first | exact hp) (by simp) (by simp) ?_); try simp -implicitDefEqProofs (maxSteps := 1000000); repeat first | refine zcurL (by decide +kernel) ?_ | refine zcurH (by decide +kernel) ?_ | refine zcurL' (by decide +kernel) ?_ | refine zcurH' (by decide +kernel) ?_)
      | ((first | refine aw_yrun draws (by kernel_rfl) ?_ | refine awl_skip' [4] rfl ?_ | refine yl_skip rfl ?_ | refine awl_pure_guard [4] rfl rfl rfl (by first | assumption | kernel_rfl) rfl (fun hc => by first | exact hp) (by simp) (by simp) (by simp) ?_ | refine yl_pureG rfl rfl rfl (by first | assumption | kernel_rfl) rfl (fun hc => by first | exact hp) (by simp) (by simp) (by simp) ?_ | refine awl_pure' [4] rfl rfl rfl (by first | assumption | kernel_rfl) rfl (by first | exact hp) (by simp) (by simp) ?_ | refine yl_pure rfl rfl rfl (by first | assumption | kernel_rfl) rfl (by first | exact hp) (by simp) (by simp) ?_ | refine aw_skip ?_ | refine aw_exit ?_); try simp -implicitDefEqProofs (maxSteps := 1000000))
      | (refine aw_cond rfl (fun h => ?_) (fun h => ?_) <;> try (with_reducible first | exact ff_tt h | exact tt_ff h))
      | refine aw_block ?_
      | refine aw_ret (ret_of (.inr rfl) (by simp [Try.results70]; rfl) (Fin.of ?_))
      | refine ret_of (.inl rfl) (by simp [Try.results70]; rfl) (Fin.of ?_))
    have e : moveP c r bc br = decide (¬ Off x y) := by
      simp only [moveP, h, Bool.true_and]
      rw [Bool.eq_iff_iff, decide_eq_true_eq, ho, Classical.not_not]
    simp [e, tupOf]
def mirrorP (c r : Int) : Bool := rightP c r && decide (r < 16)
def fineMirror (c r : Nat) : Bool :=
  match cMulBits (floatOfInt .f64 c) (negF (floatOfInt .f64 r)) 0 4607182418800017408 with
  | some (x, y) => if r < 16 then decide (¬ Off x y) && floatToIntVal .f64 x .i64 == some (r : Int) && floatToIntVal .f64 y .i64 == some (c : Int) else decide (Off x y)
  | none => false
theorem fine_mirror : ∀ c : Nat, c < 16 → ∀ r : Nat, r < 64 → fineMirror c r = true := by decide +kernel
end Go.AL
