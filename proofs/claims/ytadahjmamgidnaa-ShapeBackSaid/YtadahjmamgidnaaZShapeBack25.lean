/- Parts of the proof of ShapeBack: the logic, contracts, plain laws. -/
import Derived.Test.YtadahjmamgidnaaZShapeBack24
import Derived.Test.YtadahjmamgidnaaZShapeBack9
import Derived.Test.YtadahjmamgidnaaZShapeBack8
/-! Contracts: shape.parts. -/
namespace Go.AL
open Go.Proofs
set_option linter.unusedSimpArgs false
set_option linter.unusedVariables false
set_option maxHeartbeats 8000000 in
set_option maxRecDepth 100000 in
theorem parts_ok (t : Tree) : APure Try.prog 44 [t.av] (.fn (.func 72) [] [.vel [t.av] 0 0]) := by
  obtain ⟨k, n, a, b, c, d, w, ks⟩ := t
  rw [Tree.av]
  refine apure_of Try.func44 Try.ntmps44 rfl ?_
  simp only [List.length_cons, List.length_nil, List.cons_append, List.nil_append, List.replicate]
  repeat' (first
    | refine aw_seq ?_
    | (refine aw_run [] ?_; try simp -implicitDefEqProofs (maxSteps := 1000000))
    | ((first | refine awl_skip' [] rfl ?_ | refine aw_skip ?_ | refine aw_exit ?_); try simp -implicitDefEqProofs (maxSteps := 1000000))
    | (refine aw_cond rfl (fun h => ?_) (fun h => ?_) <;> try (with_reducible first | exact ff_tt h | exact tt_ff h))
    | refine aw_block ?_
    | refine aw_ret (ret_of (.inr rfl) (by simp [Try.results44]; rfl) (Fin.of ?_))
    | refine ret_of (.inl rfl) (by simp [Try.results44]; rfl) (Fin.of ?_))
  all_goals first | (simp [tupOf]; done) | trace_state
/-- Those of a tree that may be. -/
def partsR (rb : Bool) (t : Tree) : List Tree := if rb = true then partsT t else []
set_option maxHeartbeats 8000000 in
set_option maxRecDepth 100000 in
theorem parts1_ok (t : Tree) (rb : Bool) (hR : APure Try.prog 41 [t.av] (vb rb)) (hsh : t.sh) (stp : List AV → Tree → List AV × Option Code) (xs : List Tree) (hxs : ∀ x ∈ partsR rb t, x ∈ xs) (I : List AV → Prop) (fs : List AV) (lp : Loop)
    (hfs : ∀ v ∈ fs, F0 v) (hI : ∀ cs, I cs → ∀ c ∈ cs, Cl c) (hIs : ∀ cs, I cs → ∀ x ∈ xs, I (stp cs x).1)
    (HY : ∀ cs, I cs → ∀ x ∈ xs, SY Try.prog [x.av] cs (.loop lp) fs (vb (stp cs x).2.isNone) (stp cs x).1 (.loop (nxt lp (stp cs x).2))) (cs : List AV) (hcs : I cs) :
    ∃ r, Cl r ∧ SC Try.prog 72 [.yld 1, .vel [t.av] 0 0] cs (.loop lp) fs r (visit stp (partsR rb t) cs).1 (.loop (nxt lp (visit stp (partsR rb t) cs).2)) := by
  refine ⟨tupOf [], by simp [tupOf], ?_⟩
  unfold partsR at hxs ⊢
  cases rb with
  | false =>
    rw [if_neg (by decide)]
    obtain ⟨k, n, a, b, c, d, w, ks⟩ := t
    rw [Tree.av] at hR ⊢
    refine sc_of Try.func72 Try.ntmps72 rfl ?_
    simp only [List.length_cons, List.length_nil, List.cons_append, List.nil_append, List.replicate]
    repeat' (first
      | refine aw_seq ?_
      | (refine aw_run [] ?_; try simp -implicitDefEqProofs (maxSteps := 1000000))
      | ((first | refine awl_skip' [] rfl ?_ | refine awl_pure_guard [] rfl rfl rfl (by first | assumption | kernel_rfl) rfl (fun hc => by first | exact hR) (by simp) (by simp) (by simp) ?_ | refine awl_pure' [] rfl rfl rfl (by first | assumption | kernel_rfl) rfl (by first | exact hR) (by simp) (by simp) ?_ | refine aw_skip ?_ | refine aw_exit ?_); try simp -implicitDefEqProofs (maxSteps := 1000000))
      | (refine aw_cond rfl (fun h => ?_) (fun h => ?_) <;> try (with_reducible first | exact ff_tt h | exact tt_ff h))
      | refine aw_block ?_
      | refine aw_ret (ret_of (.inr rfl) (by simp [Try.results72]; rfl) (Fin.of ?_))
      | refine ret_of (.inl rfl) (by simp [Try.results72]; rfl) (Fin.of ?_))
    all_goals first | exact ⟨rfl, rfl, rfl⟩ | trace_state
  | true =>
    rw [if_pos rfl] at hxs ⊢
    have hw := walk_ok stp xs I fs lp hfs hI hIs HY t hsh hxs cs hcs
    have hI3 := visit_inv hIs (partsT t) cs hxs hcs
    generalize visit stp (partsT t) cs = s3 at *
    obtain ⟨cs3, j3⟩ := s3
    obtain ⟨k, n, a, b, c, d, w, ks⟩ := t
    rw [Tree.av] at hR hw ⊢
    refine sc_of Try.func72 Try.ntmps72 rfl ?_
    simp only [List.length_cons, List.length_nil, List.cons_append, List.nil_append, List.replicate]
    repeat' (first
      | refine aw_seq ?_
      | (refine aw_run [] ?_; try simp -implicitDefEqProofs (maxSteps := 1000000))
      | ((first | refine awl_skip' [] rfl ?_ | refine awl_pure_guard [] rfl rfl rfl (by first | assumption | kernel_rfl) rfl (fun hc => by first | exact hR) (by simp) (by simp) (by simp) ?_ | refine awl_pure' [] rfl rfl rfl (by first | assumption | kernel_rfl) rfl (by first | exact hR) (by simp) (by simp) ?_ | refine aw_skip ?_ | refine aw_exit ?_); try simp -implicitDefEqProofs (maxSteps := 1000000))
      | (refine aw_cond rfl (fun h => ?_) (fun h => ?_) <;> try (with_reducible first | exact ff_tt h | exact tt_ff h))
      | refine aw_block ?_
      | refine aw_ret (ret_of (.inr rfl) (by simp [Try.results72]; rfl) (Fin.of ?_))
      | refine ret_of (.inl rfl) (by simp [Try.results72]; rfl) (Fin.of ?_))
    refine awl_scN [] rfl rfl rfl (by kernel_rfl) rfl hw (by simp) hfs (hI _ hcs) (hI _ hI3) (by simp) (by simp) (by simp) (by simp) (by simp) (by simp) (by simp) ?_
    intro n3 hn3
    simp -implicitDefEqProofs
    repeat' (first
      | refine aw_seq ?_
      | (refine aw_run [] ?_; try simp -implicitDefEqProofs (maxSteps := 1000000))
      | ((first | refine awl_skip' [] rfl ?_ | refine awl_pure_guard [] rfl rfl rfl (by first | assumption | kernel_rfl) rfl (fun hc => by first | exact hR) (by simp) (by simp) (by simp) ?_ | refine awl_pure' [] rfl rfl rfl (by first | assumption | kernel_rfl) rfl (by first | exact hR) (by simp) (by simp) ?_ | refine aw_skip ?_ | refine aw_exit ?_); try simp -implicitDefEqProofs (maxSteps := 1000000))
      | (refine aw_cond rfl (fun h => ?_) (fun h => ?_) <;> try (with_reducible first | exact ff_tt h | exact tt_ff h))
      | refine aw_block ?_
      | refine aw_ret (ret_of (.inr rfl) (by simp [Try.results72]; rfl) (Fin.of ?_))
      | refine ret_of (.inl rfl) (by simp [Try.results72]; rfl) (Fin.of ?_))
    all_goals first | exact ⟨rfl, rfl, rfl⟩ | trace_state
end Go.AL
/-! Contracts: shape.Size, Bads, Uses. -/
namespace Go.AL
open Go.Proofs
set_option linter.unusedSimpArgs false
set_option linter.unusedVariables false
theorem cl_of_int {cs : List AV} (h : ∃ n : Int, cs = [vi n]) : ∀ c ∈ cs, Cl c := by obtain ⟨n, rfl⟩ := h; simp
/-- One more. -/
def stpN (p : Tree → Bool) (cs : List AV) (t : Tree) : List AV × Option Code := match cs with
  | [.p (.int .i64 n)] => ([vi (if p t = true then IntKind.i64.wrap (n + 1) else n)], none)
  | _ => (cs, none)
theorem stpN_inv (p : Tree → Bool) (cs : List AV) (h : ∃ n : Int, cs = [vi n]) (x : Tree) : ∃ n : Int, (stpN p cs x).1 = [vi n] := by obtain ⟨n, rfl⟩ := h; exact ⟨_, rfl⟩
theorem stpN_none (p : Tree → Bool) (cs : List AV) (h : ∃ n : Int, cs = [vi n]) (x : Tree) : (stpN p cs x).2 = none := by obtain ⟨n, rfl⟩ := h; rfl
theorem visit_N (p : Tree → Bool) : ∀ (l : List Tree) (n : Nat), n + l.length ≤ 9223372036854775807 → visit (stpN p) l [vi (n : Nat)] = ([vi ((n + l.countP p : Nat) : Int)], none)
  | [], n, _ => rfl
  | x :: l, n, h => by
    simp only [List.length_cons] at h
    simp only [visit, stpN]
    rw [List.countP_cons]
    by_cases hp : p x = true
    · rw [if_pos hp, if_pos hp, wrap_id (by omega) (by omega), show ((n : Int) + 1) = ((n + 1 : Nat) : Int) by omega, visit_N p l (n + 1) (by omega)]
      congr 4; omega
    · rw [if_neg hp, if_neg hp, visit_N p l n (by omega)]; rfl
theorem partsR_len (rb : Bool) (t : Tree) : (partsR rb t).length ≤ tszT t := by
  have key : ∀ t : Tree, (partsT t).length = tszT t := by
    refine Tree.byKids fun k n a b c d w ks ih => ?_
    rw [partsT, tszT, List.length_cons]
    congr 1
    induction ks with
    | nil => rfl
    | cons u l ih2 => rw [partsTs, tszs, List.length_append, ih u List.mem_cons_self, ih2 fun t ht => ih t (List.mem_cons_of_mem _ ht)]
  unfold partsR
  split
  · exact Nat.le_of_eq (key t)
  · simp
set_option maxHeartbeats 8000000 in
set_option maxRecDepth 100000 in
theorem shSize_ok (t : Tree) (rb : Bool) (hR : APure Try.prog 41 [t.av] (vb rb)) (hsh : t.sh) (hs : tszT t ≤ 1000000000) : APure Try.prog 20 [t.av] (vi (((partsR rb t).length : Nat) : Int)) := by
  have hit := parts1_ok t rb hR hsh (stpN fun _ => true) (partsR rb t) (fun x h => h) (fun cs => ∃ n : Int, cs = [vi n])
  have hp := parts_ok t
  have hv : visit (stpN fun _ => true) (partsR rb t) [vi 0] = ([vi (((partsR rb t).length : Nat) : Int)], none) := by simpa using visit_N (fun _ => true) (partsR rb t) 0 (by have := partsR_len rb t; omega)
  have hcl := t.cl
  obtain ⟨T, hT⟩ : ∃ T, T = t.av := ⟨_, rfl⟩
  rw [← hT] at hit hp hcl ⊢
  refine apure_marks Try.func20 Try.ntmps20 rfl (by simp [hcl]) (by simp) ?_
  simp only [List.length_cons, List.length_nil, List.cons_append, List.nil_append, List.replicate]
  rw [hT] at hit hp hcl ⊢
  obtain ⟨k, n, a, b, c, d, w, ks⟩ := t
  rw [Tree.av] at hit hp hcl ⊢
  repeat' (first
    | refine aw_seq ?_
    | (refine aw_run [3] ?_; try simp -implicitDefEqProofs (maxSteps := 1000000))
    | ((first | refine awl_skip' [3] rfl ?_ | refine awl_pure_guard [3] rfl rfl rfl (by first | assumption | kernel_rfl) rfl (fun hc => by first | exact hp) (by simp) (by simp) (by simp) ?_ | refine awl_pure' [3] rfl rfl rfl (by first | assumption | kernel_rfl) rfl (by first | exact hp) (by simp) (by simp) ?_ | refine aw_skip ?_ | refine aw_exit ?_); try simp -implicitDefEqProofs (maxSteps := 1000000))
    | (refine aw_cond rfl (fun h => ?_) (fun h => ?_) <;> try (with_reducible first | exact ff_tt h | exact tt_ff h))
    | refine aw_block ?_
    | refine aw_ret (ret_of (.inr rfl) (by simp [Try.results20]; rfl) (Fin.of ?_))
    | refine ret_of (.inl rfl) (by simp [Try.results20]; rfl) (Fin.of ?_))
  refine aw_weak (τ := mkSt [(0, [vi 0])] [] 1) (le_mkSt (by simp [σ0]) (by simp) (by simp)) ?_
  refine aw_keep [3, 5] ?_
  simp -implicitDefEqProofs [keep]
  have hF : ∀ v ∈ [AV.any, .any, .any, .ptr 0 0, .any, .fn (.func 72) [] [.vel [.agg [vi k, vi n, vi a, vi b, vi c, vi d, vs w, .vsl (avs ks)]] 0 0], .any, .any, .any, .any], F0 v := by
    repeat first | exact f0_nil | refine f0_cons (.inl (by simp)) ?_ | refine f0_cons (.inr ⟨_, rfl⟩) ?_
  refine aw_rangeFunc (b := 0) rfl (by simp) (by kernel_rfl) rfl rfl rfl _ hF sub0.symm Tree.av (stpN fun _ => true) (partsR rb (.mk k n a b c d w ks)) (fun cs => ∃ n : Int, cs = [vi n]) ⟨0, rfl⟩ (fun cs h => cl_of_int h) (fun cs h x _ => stpN_inv _ cs h x) (fun HY => hit _ _ hF (fun cs h => cl_of_int h) (fun cs h x _ => stpN_inv _ cs h x) HY _ ⟨0, rfl⟩) ?_ ?_ ?_
  · rintro cs ⟨m, rfl⟩ x hx es
    refine aw_skip ⟨rfl, fun es' => ?_⟩
    simp -implicitDefEqProofs
    repeat' (first
      | refine aw_seq ?_
      | (refine aw_run [3] ?_; try simp -implicitDefEqProofs (maxSteps := 1000000))
      | ((first | refine awl_skip' [3] rfl ?_ | refine aw_skip ?_ | refine aw_exit ?_); try simp -implicitDefEqProofs (maxSteps := 1000000))
      | (refine aw_cond rfl (fun h => ?_) (fun h => ?_) <;> try (with_reducible first | exact ff_tt h | exact tt_ff h))
      | refine aw_block ?_
      | refine aw_ret (ret_of (.inr rfl) (by simp [Try.results20]; rfl) (Fin.of ?_))
      | refine ret_of (.inl rfl) (by simp [Try.results20]; rfl) (Fin.of ?_))
    exact ⟨rfl, by simp [stpN], by simp⟩
  · intro hj N hN
    rw [hv]
    simp -implicitDefEqProofs [inBlockA, thenA]
    repeat' (first
      | refine aw_seq ?_
      | (refine aw_run [3] ?_; try simp -implicitDefEqProofs (maxSteps := 1000000))
      | ((first | refine awl_skip' [3] rfl ?_ | refine aw_skip ?_ | refine aw_exit ?_); try simp -implicitDefEqProofs (maxSteps := 1000000))
      | (refine aw_cond rfl (fun h => ?_) (fun h => ?_) <;> try (with_reducible first | exact ff_tt h | exact tt_ff h))
      | refine aw_block ?_
      | refine aw_ret (ret_of (.inr rfl) (by simp [Try.results20]; rfl) (Fin.of ?_))
      | refine ret_of (.inl rfl) (by simp [Try.results20]; rfl) (Fin.of ?_))
    all_goals first | (simp [tupOf]; done) | trace_state
  · intro c hj
    rw [hv] at hj; cases hj
set_option maxHeartbeats 8000000 in
set_option maxRecDepth 100000 in
theorem shBads_ok (t : Tree) (rb : Bool) (hR : APure Try.prog 41 [t.av] (vb rb)) (hsh : t.sh) (hs : tszT t ≤ 1000000000) : APure Try.prog 18 [t.av] (vi (((partsR rb t).countP fun x => decide (x.kind = 2) : Nat) : Int)) := by
  have hit := parts1_ok t rb hR hsh (stpN fun x => decide (x.kind = 2)) (partsR rb t) (fun x h => h) (fun cs => ∃ n : Int, cs = [vi n])
  have hp := parts_ok t
  have hv : visit (stpN fun x => decide (x.kind = 2)) (partsR rb t) [vi 0] = ([vi (((partsR rb t).countP fun x => decide (x.kind = 2) : Nat) : Int)], none) := by simpa using visit_N (fun x => decide (x.kind = 2)) (partsR rb t) 0 (by have := partsR_len rb t; omega)
  have hcl := t.cl
  obtain ⟨T, hT⟩ : ∃ T, T = t.av := ⟨_, rfl⟩
  rw [← hT] at hit hp hcl ⊢
  refine apure_marks Try.func18 Try.ntmps18 rfl (by simp [hcl]) (by simp) ?_
  simp only [List.length_cons, List.length_nil, List.cons_append, List.nil_append, List.replicate]
  rw [hT] at hit hp hcl ⊢
  obtain ⟨k, n, a, b, c, d, w, ks⟩ := t
  rw [Tree.av] at hit hp hcl ⊢
  repeat' (first
    | refine aw_seq ?_
    | (refine aw_run [3, 4] ?_; try simp -implicitDefEqProofs (maxSteps := 1000000))
    | ((first | refine awl_skip' [3, 4] rfl ?_ | refine awl_pure_guard [3, 4] rfl rfl rfl (by first | assumption | kernel_rfl) rfl (fun hc => by first | exact hp) (by simp) (by simp) (by simp) ?_ | refine awl_pure' [3, 4] rfl rfl rfl (by first | assumption | kernel_rfl) rfl (by first | exact hp) (by simp) (by simp) ?_ | refine aw_skip ?_ | refine aw_exit ?_); try simp -implicitDefEqProofs (maxSteps := 1000000))
    | (refine aw_cond rfl (fun h => ?_) (fun h => ?_) <;> try (with_reducible first | exact ff_tt h | exact tt_ff h))
    | refine aw_block ?_
    | refine aw_ret (ret_of (.inr rfl) (by simp [Try.results18]; rfl) (Fin.of ?_))
    | refine ret_of (.inl rfl) (by simp [Try.results18]; rfl) (Fin.of ?_))
  refine aw_weak (τ := mkSt [(0, [vi 0])] [] 1) (le_mkSt (by simp [σ0]) (by simp) (by simp)) ?_
  refine aw_keep [3, 6] ?_
  simp -implicitDefEqProofs [keep]
  have hF : ∀ v ∈ [AV.any, .any, .any, .ptr 0 0, .any, .any, .fn (.func 72) [] [.vel [.agg [vi k, vi n, vi a, vi b, vi c, vi d, vs w, .vsl (avs ks)]] 0 0], .any, .any, .any, .any, .any, .any, .any], F0 v := by
    repeat first | exact f0_nil | refine f0_cons (.inl (by simp)) ?_ | refine f0_cons (.inr ⟨_, rfl⟩) ?_
  refine aw_rangeFunc (b := 0) rfl (by simp) (by kernel_rfl) rfl rfl rfl _ hF sub0.symm Tree.av (stpN fun x => decide (x.kind = 2)) (partsR rb (.mk k n a b c d w ks)) (fun cs => ∃ n : Int, cs = [vi n]) ⟨0, rfl⟩ (fun cs h => cl_of_int h) (fun cs h x _ => stpN_inv _ cs h x) (fun HY => hit _ _ hF (fun cs h => cl_of_int h) (fun cs h x _ => stpN_inv _ cs h x) HY _ ⟨0, rfl⟩) ?_ ?_ ?_
  · rintro cs ⟨m, rfl⟩ x hx es
    obtain ⟨xk, xn, xa, xb, xc, xd, xw, xks⟩ := x
    rw [Tree.av]
    simp -implicitDefEqProofs
    by_cases h2 : xk = 2
    · subst h2
      repeat' (first
        | refine aw_seq ?_
        | (refine aw_run [3, 4] ?_; try simp -implicitDefEqProofs (maxSteps := 1000000))
        | ((first | refine awl_skip' [3, 4] rfl ?_ | refine aw_skip ?_ | refine aw_exit ?_); try simp -implicitDefEqProofs (maxSteps := 1000000))
        | (refine aw_cond rfl (fun h => ?_) (fun h => ?_) <;> try (with_reducible first | exact ff_tt h | exact tt_ff h))
        | refine aw_block ?_
        | refine aw_ret (ret_of (.inr rfl) (by simp [Try.results18]; rfl) (Fin.of ?_))
        | refine ret_of (.inl rfl) (by simp [Try.results18]; rfl) (Fin.of ?_))
      intro es'
      repeat' (first
        | refine aw_seq ?_
        | (refine aw_run [3, 4] ?_; try simp -implicitDefEqProofs (maxSteps := 1000000))
        | ((first | refine awl_skip' [3, 4] rfl ?_ | refine aw_skip ?_ | refine aw_exit ?_); try simp -implicitDefEqProofs (maxSteps := 1000000))
        | (refine aw_cond rfl (fun h => ?_) (fun h => ?_) <;> try (with_reducible first | exact ff_tt h | exact tt_ff h))
        | refine aw_block ?_
        | refine aw_ret (ret_of (.inr rfl) (by simp [Try.results18]; rfl) (Fin.of ?_))
        | refine ret_of (.inl rfl) (by simp [Try.results18]; rfl) (Fin.of ?_))
      all_goals first | exact ⟨by simp [stpN], by simp [stpN], by simp⟩ | trace_state
    · repeat' (first
        | refine aw_seq ?_
        | (refine aw_run [3, 4] ?_; try simp -implicitDefEqProofs (maxSteps := 1000000) [h2])
        | ((first | refine awl_skip' [3, 4] rfl ?_ | refine aw_skip ?_ | refine aw_exit ?_); try simp -implicitDefEqProofs (maxSteps := 1000000) [h2])
        | (refine aw_cond rfl (fun h => ?_) (fun h => ?_) <;> try (with_reducible first | exact ff_tt h | exact tt_ff h))
        | refine aw_block ?_
        | refine aw_ret (ret_of (.inr rfl) (by simp [Try.results18]; rfl) (Fin.of ?_))
        | refine ret_of (.inl rfl) (by simp [Try.results18]; rfl) (Fin.of ?_))
      intro es'
      repeat' (first
        | refine aw_seq ?_
        | (refine aw_run [3, 4] ?_; try simp -implicitDefEqProofs (maxSteps := 1000000) [h2])
        | ((first | refine awl_skip' [3, 4] rfl ?_ | refine aw_skip ?_ | refine aw_exit ?_); try simp -implicitDefEqProofs (maxSteps := 1000000) [h2])
        | (refine aw_cond rfl (fun h => ?_) (fun h => ?_) <;> try (with_reducible first | exact ff_tt h | exact tt_ff h))
        | refine aw_block ?_
        | refine aw_ret (ret_of (.inr rfl) (by simp [Try.results18]; rfl) (Fin.of ?_))
        | refine ret_of (.inl rfl) (by simp [Try.results18]; rfl) (Fin.of ?_))
      all_goals first | exact ⟨by simp [stpN], by simp [stpN, h2], by simp⟩ | trace_state
  · intro hj N hN
    rw [hv]
    simp -implicitDefEqProofs [inBlockA, thenA]
    repeat' (first
      | refine aw_seq ?_
      | (refine aw_run [3, 4] ?_; try simp -implicitDefEqProofs (maxSteps := 1000000))
      | ((first | refine awl_skip' [3, 4] rfl ?_ | refine aw_skip ?_ | refine aw_exit ?_); try simp -implicitDefEqProofs (maxSteps := 1000000))
      | (refine aw_cond rfl (fun h => ?_) (fun h => ?_) <;> try (with_reducible first | exact ff_tt h | exact tt_ff h))
      | refine aw_block ?_
      | refine aw_ret (ret_of (.inr rfl) (by simp [Try.results18]; rfl) (Fin.of ?_))
      | refine ret_of (.inl rfl) (by simp [Try.results18]; rfl) (Fin.of ?_))
    all_goals first | (simp [tupOf]; done) | trace_state
  · intro c hj
    rw [hv] at hj; cases hj
/-- Until one does. -/
def stpU (p : Tree → Bool) (cs : List AV) (t : Tree) : List AV × Option Code := if p t = true then ([vb true], some .ret) else (cs, none)
theorem stpU_inv (p : Tree → Bool) (cs : List AV) (h : ∃ n : Bool, cs = [vb n]) (x : Tree) : ∃ n : Bool, (stpU p cs x).1 = [vb n] := by
  unfold stpU
  split
  · exact ⟨true, rfl⟩
  · exact h
theorem cl_of_bool {cs : List AV} (h : ∃ n : Bool, cs = [vb n]) : ∀ c ∈ cs, Cl c := by obtain ⟨n, rfl⟩ := h; simp
theorem visit_U (p : Tree → Bool) : ∀ (l : List Tree), visit (stpU p) l [vb false] = if l.any p = true then ([vb true], some .ret) else ([vb false], none)
  | [] => rfl
  | x :: l => by
    have ih := visit_U p l
    by_cases hp : p x = true
    · simp [visit, stpU, hp]
    · simp [visit, stpU, hp] at ih ⊢
      exact ih
/-- It reads that place. -/
def partU (x y : Int) (t : Tree) : Bool := match t with
  | .mk k _ a b c d _ _ => (decide (k = 1) || decide (k = 6)) && hasP a b c d x y
set_option maxHeartbeats 8000000 in
set_option maxRecDepth 100000 in
theorem shUses_ok (t : Tree) (rb : Bool) (x y : Int) (hR : APure Try.prog 41 [t.av] (vb rb)) (hsh : t.sh) :
    APure Try.prog 16 [t.av, place x y] (vb ((partsR rb t).any (partU x y))) := by
  have hit := parts1_ok t rb hR hsh (stpU (partU x y)) (partsR rb t) (fun x h => h) (fun cs => ∃ n : Bool, cs = [vb n])
  have hp := parts_ok t
  have hv := visit_U (partU x y) (partsR rb t)
  have hcl := t.cl
  obtain ⟨T, hT⟩ : ∃ T, T = t.av := ⟨_, rfl⟩
  rw [← hT] at hit hp hcl ⊢
  refine apure_marks Try.func16 Try.ntmps16 rfl (by simp [hcl]) (by simp) ?_
  simp only [List.length_cons, List.length_nil, List.cons_append, List.nil_append, List.replicate]
  rw [hT] at hit hp hcl ⊢
  obtain ⟨k, n, a, b, c, d, w, ks⟩ := t
  rw [Tree.av] at hit hp hcl ⊢
  repeat' (first
    | refine aw_seq ?_
    | (refine aw_run [4, 5] ?_; try simp -implicitDefEqProofs (maxSteps := 1000000))
    | ((first | refine awl_skip' [4, 5] rfl ?_ | refine awl_pure_guard [4, 5] rfl rfl rfl (by first | assumption | kernel_rfl) rfl (fun hc => by first | exact hp) (by simp) (by simp) (by simp) ?_ | refine awl_pure' [4, 5] rfl rfl rfl (by first | assumption | kernel_rfl) rfl (by first | exact hp) (by simp) (by simp) ?_ | refine aw_skip ?_ | refine aw_exit ?_); try simp -implicitDefEqProofs (maxSteps := 1000000))
    | (refine aw_cond rfl (fun h => ?_) (fun h => ?_) <;> try (with_reducible first | exact ff_tt h | exact tt_ff h))
    | refine aw_block ?_
    | refine aw_ret (ret_of (.inr rfl) (by simp [Try.results16]; rfl) (Fin.of ?_))
    | refine ret_of (.inl rfl) (by simp [Try.results16]; rfl) (Fin.of ?_))
  refine aw_weak (τ := mkSt [(0, [vb false])] [] 1) (le_mkSt (by simp [σ0]) (by simp) (by simp)) ?_
  refine aw_keep [3, 4, 7] ?_
  simp -implicitDefEqProofs [keep]
  have hF : ∀ v ∈ [AV.any, .any, .any, .vel [place x y] 0 0, .ptr 0 0, .any, .any, .fn (.func 72) [] [.vel [.agg [vi k, vi n, vi a, vi b, vi c, vi d, vs w, .vsl (avs ks)]] 0 0], .any, .any, .any, .any, .any, .any, .any, .any, .any], F0 v := by
    repeat first | exact f0_nil | refine f0_cons (.inl (by simp)) ?_ | refine f0_cons (.inr ⟨_, rfl⟩) ?_
  refine aw_rangeFunc (b := 0) rfl (by simp) (by kernel_rfl) rfl rfl rfl _ hF sub0.symm Tree.av (stpU (partU x y)) (partsR rb (.mk k n a b c d w ks)) (fun cs => ∃ n : Bool, cs = [vb n]) ⟨false, rfl⟩ (fun cs h => cl_of_bool h) (fun cs h x _ => stpU_inv _ cs h x) (fun HY => hit _ _ hF (fun cs h => cl_of_bool h) (fun cs h x _ => stpU_inv _ cs h x) HY _ ⟨false, rfl⟩) ?_ ?_ ?_
  · rintro cs ⟨m, rfl⟩ u hx es
    obtain ⟨xk, xn, xa, xb, xc, xd, xw, xks⟩ := u
    have hr : APure Try.prog 45 [(Tree.mk xk xn xa xb xc xd xw xks).av] (vb (decide (xk = 1) || decide (xk = 6))) := reads_ok _
    have hh := has_ok xa xb xc xd x y
    rw [Tree.av] at hr ⊢
    have hpu : partU x y (.mk xk xn xa xb xc xd xw xks) = ((decide (xk = 1) || decide (xk = 6)) && hasP xa xb xc xd x y) := rfl
    unfold stpU
    rw [hpu]
    generalize hasP xa xb xc xd x y = hb at *
    simp -implicitDefEqProofs
    repeat' (first
      | refine aw_seq ?_
      | (refine aw_run [4, 5] ?_; try simp -implicitDefEqProofs (maxSteps := 1000000))
      | ((first | refine awl_skip' [4, 5] rfl ?_ | refine awl_pure_guard [4, 5] rfl rfl rfl (by first | assumption | kernel_rfl) rfl (fun hc => by first | exact hr | exact hh) (by simp) (by simp) (by simp) ?_ | refine awl_pure' [4, 5] rfl rfl rfl (by first | assumption | kernel_rfl) rfl (by first | exact hr | exact hh) (by simp) (by simp) ?_ | refine aw_skip ?_ | refine aw_exit ?_); try simp -implicitDefEqProofs (maxSteps := 1000000))
      | (refine aw_cond rfl (fun h => ?_) (fun h => ?_) <;> try (with_reducible first | exact ff_tt h | exact tt_ff h))
      | refine aw_block ?_
      | refine aw_ret (ret_of (.inr rfl) (by simp [Try.results16]; rfl) (Fin.of ?_))
      | refine ret_of (.inl rfl) (by simp [Try.results16]; rfl) (Fin.of ?_))
    intro es'
    repeat' (first
      | refine aw_seq ?_
      | (refine aw_run [4, 5] ?_; try simp -implicitDefEqProofs (maxSteps := 1000000))
      | ((first | refine awl_skip' [4, 5] rfl ?_ | refine awl_pure_guard [4, 5] rfl rfl rfl (by first | assumption | kernel_rfl) rfl (fun hc => by first | exact hr | exact hh) (by simp) (by simp) (by simp) ?_ | refine awl_pure' [4, 5] rfl rfl rfl (by first | assumption | kernel_rfl) rfl (by first | exact hr | exact hh) (by simp) (by simp) ?_ | refine aw_skip ?_ | refine aw_exit ?_); try simp -implicitDefEqProofs (maxSteps := 1000000))
      | (refine aw_cond rfl (fun h => ?_) (fun h => ?_) <;> try (with_reducible first | exact ff_tt h | exact tt_ff h))
      | refine aw_block ?_
      | refine aw_ret (ret_of (.inr rfl) (by simp [Try.results16]; rfl) (Fin.of ?_))
      | refine ret_of (.inl rfl) (by simp [Try.results16]; rfl) (Fin.of ?_))
    · have h' : (xk = 1 ∨ xk = 6) ∧ hb = true := by simpa using h
      rw [if_pos h']
      refine aw_ret ?_
      exact ⟨rfl, by simp, by simp⟩
    · have h' : ¬ ((xk = 1 ∨ xk = 6) ∧ hb = true) := by
        intro h1
        simp [h1.2] at h
        exact h1.1.elim h.1 h.2
      rw [if_neg h']
      exact ⟨rfl, by simp, by simp⟩
  · intro hj N hN
    rw [hv] at hj ⊢
    by_cases hu : (partsR rb (.mk k n a b c d w ks)).any (partU x y) = true
    · rw [if_pos hu] at hj; cases hj
    · rw [if_neg hu]
      rw [eq_false_of_ne_true hu]
      simp -implicitDefEqProofs [inBlockA, thenA]
      repeat' (first
        | refine aw_seq ?_
        | (refine aw_run [4, 5] ?_; try simp -implicitDefEqProofs (maxSteps := 1000000))
        | ((first | refine awl_skip' [4, 5] rfl ?_ | refine aw_skip ?_ | refine aw_exit ?_); try simp -implicitDefEqProofs (maxSteps := 1000000))
        | (refine aw_cond rfl (fun h => ?_) (fun h => ?_) <;> try (with_reducible first | exact ff_tt h | exact tt_ff h))
        | refine aw_block ?_
        | refine aw_ret (ret_of (.inr rfl) (by simp [Try.results16]; rfl) (Fin.of ?_))
        | refine ret_of (.inl rfl) (by simp [Try.results16]; rfl) (Fin.of ?_))
      all_goals first | (simp [tupOf]; done) | trace_state
  · intro cc hj N hN
    rw [hv] at hj ⊢
    by_cases hu : (partsR rb (.mk k n a b c d w ks)).any (partU x y) = true
    · rw [if_pos hu] at hj ⊢
      cases hj
      rw [hu]
      simp -implicitDefEqProofs
      repeat' (first
        | refine aw_seq ?_
        | (refine aw_run [4, 5] ?_; try simp -implicitDefEqProofs (maxSteps := 1000000))
        | ((first | refine awl_skip' [4, 5] rfl ?_ | refine aw_skip ?_ | refine aw_exit ?_); try simp -implicitDefEqProofs (maxSteps := 1000000))
        | (refine aw_cond rfl (fun h => ?_) (fun h => ?_) <;> try (with_reducible first | exact ff_tt h | exact tt_ff h))
        | refine aw_block ?_
        | refine aw_ret (ret_of (.inr rfl) (by simp [Try.results16]; rfl) (Fin.of ?_))
        | refine ret_of (.inl rfl) (by simp [Try.results16]; rfl) (Fin.of ?_))
      all_goals first | (simp [tupOf]; done) | trace_state
    · rw [if_neg hu] at hj; cases hj
end Go.AL
/-! Contracts: gridironref02's lists. -/
namespace Go.AL
open Go.Proofs
set_option linter.unusedSimpArgs false
set_option linter.unusedVariables false
def pl (p : Int × Int) : AV := place p.1 p.2
/-- The places of the first n indexes that a range has. -/
def cellsN (a b c d : Int) (n : Nat) : List (Int × Int) := ((List.range n).filter fun i : Nat => hasP a b c d (atC (i : Int)) (atR (i : Int))).map fun i : Nat => (atC (i : Int), atR (i : Int))
theorem cellsN_succ (a b c d : Int) (n : Nat) : cellsN a b c d (n + 1) = cellsN a b c d n ++ (if hasP a b c d (atC n) (atR n) = true then [(atC n, atR n)] else []) := by
  unfold cellsN
  rw [List.range_succ, List.filter_append, List.map_append]
  congr 1
  by_cases h : hasP a b c d (atC n) (atR n) = true <;> simp [h]
theorem cellsN_len (a b c d : Int) (n : Nat) : (cellsN a b c d n).length ≤ n := by
  unfold cellsN
  rw [List.length_map]
  exact Nat.le_trans (List.length_filter_le _ _) (by simp)
def cellsL (a b c d : Int) : List (Int × Int) := cellsN a b c d 1024
set_option maxRecDepth 100000 in
theorem rcells_ok (a b c d : Int) : APure Try.prog 86 [range a b c d] (.vsl ((cellsL a b c d).map pl)) := by
  refine apure_of Try.func86 Try.ntmps86 rfl ?_
  simp only [List.length_cons, List.length_nil, List.cons_append, List.nil_append, List.replicate]
  refine aw_seq (aw_run [5] ?_)
  simp -implicitDefEqProofs
  refine aw_seq (aw_run [5] ?_)
  simp -implicitDefEqProofs
  refine aw_seq (aw_seq (aw_run [5] ?_))
  simp -implicitDefEqProofs
  refine aw_block (aw_open (i := 3) rfl ?_)
  refine aw_loopW [1, 3, 4] (fun n fr σ => ∃ k m i, i + n = 1024 ∧ k < m ∧ σ = oneSl k ((cellsN a b c d i).map pl) m ∧ fr = frm 26 [(1, .vel [range a b c d] 0 0), (3, .hsl k 0 (cellsN a b c d i).length), (4, vi (i : Nat))]) 1024 ?_ ?_
  · refine ⟨oneSl 0 [] 1, le_oneSl rfl (by decide), 0, 1, 0, rfl, by decide, by simp [cellsN], ?_⟩
    simp [cellsN, σ0]
  · rintro n fr σ ⟨k, m, i, hi, hkm, rfl, rfl⟩
    simp
    refine aw_seq (aw_seq (aw_run [5] ?_))
    simp -implicitDefEqProofs
    have hlen := cellsN_len a b c d i
    refine aw_cond rfl (fun h => aw_skip ?_) (fun h => aw_exit ?_)
    · have hlt : i < 1024 := by simp at h; omega
      have hnx : IntKind.i64.wrap ((i : Int) + 1) = ((i + 1 : Nat) : Int) := by rw [wrap_id (by omega) (by omega)]; simp
      simp -implicitDefEqProofs
      repeat' (first
        | refine aw_seq ?_
        | (refine aw_run [5] ?_; try simp -implicitDefEqProofs (maxSteps := 1000000))
        | ((first | refine awl_skip' [5] rfl ?_ | refine awl_pure_guard [5] rfl rfl rfl (by first | assumption | kernel_rfl) rfl (fun hc => by first | exact rat_ok _ | exact rhas_ok _ _ _ _ _ _) (by simp) (by simp) (by simp) ?_ | refine awl_pure' [5] rfl rfl rfl (by first | assumption | kernel_rfl) rfl (by first | exact rat_ok _ | exact rhas_ok _ _ _ _ _ _) (by simp) (by simp) ?_ | refine aw_skip ?_ | refine aw_exit ?_); try simp -implicitDefEqProofs (maxSteps := 1000000))
        | (refine aw_cond rfl (fun h => ?_) (fun h => ?_) <;> try (with_reducible first | exact ff_tt h | exact tt_ff h))
        | refine aw_block ?_
        | refine aw_ret (ret_of (.inr rfl) (by simp [Try.results86]; rfl) (Fin.of ?_))
        | refine ret_of (.inl rfl) (by simp [Try.results86]; rfl) (Fin.of ?_))
      · refine awl_append [5] rfl rfl rfl (xs := (cellsN a b c d i).map pl) (by simp) (by simp) rfl (by simp) te37 tet37 tz24 rfl ?_ (by simp) (by simp; omega) (by simp; omega) ?_
        · intro y hy
          simp at hy
          obtain ⟨_, _, _, rfl⟩ := hy
          rfl
        simp -implicitDefEqProofs
        repeat' (first
          | refine aw_seq ?_
          | (refine aw_run [5] ?_; try simp -implicitDefEqProofs (maxSteps := 1000000))
          | ((first | refine awl_skip' [5] rfl ?_ | refine aw_skip ?_ | refine aw_exit ?_); try simp -implicitDefEqProofs (maxSteps := 1000000))
          | (refine aw_cond rfl (fun h => ?_) (fun h => ?_) <;> try (with_reducible first | exact ff_tt h | exact tt_ff h))
          | refine aw_block ?_
          | refine aw_ret (ret_of (.inr rfl) (by simp [Try.results86]; rfl) (Fin.of ?_))
          | refine ret_of (.inl rfl) (by simp [Try.results86]; rfl) (Fin.of ?_))
        refine ⟨n - 1, by omega, _, le_oneSl (k := m + 1) (xs := (((cellsN a b c d i).map pl).take (cellsN a b c d i).length) ++ [pl (atC i, atR i)]) (n := m + 2) (by simp [pl]) (Nat.le_refl _), m + 1, m + 2, i + 1, by omega, by omega, ?_, ?_⟩
        · rw [cellsN_succ, if_pos h, List.map_append, List.take_of_length_le (by simp)]; rfl
        · rw [cellsN_succ, if_pos h]
          simp [hnx]
      · refine ⟨n - 1, by omega, _, le_oneSl (k := k) (xs := (cellsN a b c d i).map pl) (n := m + 1) (by simp) (Nat.le_refl _), k, m + 1, i + 1, by omega, by omega, ?_, ?_⟩
        · rw [cellsN_succ, if_neg (by simp [h]), List.append_nil]
        · rw [cellsN_succ, if_neg (by simp [h]), List.append_nil]
          simp [hnx]
    · have : i = 1024 := by simp at h; omega
      subst this
      simp -implicitDefEqProofs
      refine aw_freeze (b := k) (xs := (cellsN a b c d 1024).map pl) (by simp) ?_
      simp [frz, frz1, frz0]
      repeat' (first
        | refine aw_seq ?_
        | (refine aw_run [5] ?_; try simp -implicitDefEqProofs (maxSteps := 1000000))
        | ((first | refine awl_skip' [5] rfl ?_ | refine aw_skip ?_ | refine aw_exit ?_); try simp -implicitDefEqProofs (maxSteps := 1000000))
        | (refine aw_cond rfl (fun h => ?_) (fun h => ?_) <;> try (with_reducible first | exact ff_tt h | exact tt_ff h))
        | refine aw_block ?_
        | refine aw_ret (ret_of (.inr rfl) (by simp [Try.results86]; rfl) (Fin.of ?_))
        | refine ret_of (.inl rfl) (by simp [Try.results86]; rfl) (Fin.of ?_))
      simp [tupOf, cellsL, List.take_of_length_le]
end Go.AL
/-! Contracts: place.Cells. -/
namespace Go.AL
open Go.Proofs
set_option linter.unusedSimpArgs false
set_option linter.unusedVariables false
/-- A row's first n places. -/
def rowN (a y : Int) (n : Nat) : List (Int × Int) := (List.range n).map fun i : Nat => (a + (i : Int), y)
/-- The first n rows. -/
def gridN (a b : Int) (k n : Nat) : List (Int × Int) := (List.range n).flatMap fun j : Nat => rowN a (b + (j : Int)) k
def gridL (a b c d : Int) : List (Int × Int) := if wholeP a b c d = true then gridN a b (c - a + 1).toNat (d - b + 1).toNat else []
theorem rowN_succ (a y : Int) (n : Nat) : rowN a y (n + 1) = rowN a y n ++ [(a + (n : Int), y)] := by
  unfold rowN; rw [List.range_succ, List.map_append]; rfl
theorem rowN_len (a y : Int) (n : Nat) : (rowN a y n).length = n := by simp [rowN]
theorem gridN_succ (a b : Int) (k n : Nat) : gridN a b k (n + 1) = gridN a b k n ++ rowN a (b + (n : Int)) k := by
  unfold gridN; rw [List.range_succ, List.flatMap_append]; simp
theorem gridN_len (a b : Int) (k : Nat) : ∀ n : Nat, (gridN a b k n).length = n * k
  | 0 => by simp [gridN]
  | n + 1 => by rw [gridN_succ, List.length_append, gridN_len a b k n, rowN_len, Nat.succ_mul]
theorem whole_iff {a b c d : Int} : wholeP a b c d = true ↔ (0 ≤ a ∧ a ≤ c ∧ c < 16) ∧ (0 ≤ b ∧ b ≤ d ∧ d < 64) := by
  simp only [wholeP, rightP, withinP, Bool.and_eq_true, decide_eq_true_eq]; omega
set_option maxRecDepth 100000 in
theorem cells_ok (a b c d : Int) : APure Try.prog 46 [range a b c d] (.vsl ((gridL a b c d).map pl)) := by
  refine apure_of Try.func46 Try.ntmps46 rfl ?_
  simp only [List.length_cons, List.length_nil, List.cons_append, List.nil_append, List.replicate]
  refine aw_seq (aw_run [4] ?_)
  simp -implicitDefEqProofs
  refine aw_seq (aw_seq (aw_run [4] ?_))
  simp -implicitDefEqProofs
  refine awl_pure' [] rfl rfl rfl (by kernel_rfl) rfl (whole_ok a b c d) (by simp) (by simp) ?_
  simp -implicitDefEqProofs
  refine aw_cond rfl (fun h => ?_) (fun h => aw_skip ?_)
  · refine aw_seq (aw_run [4] ?_)
    simp -implicitDefEqProofs
    refine aw_ret (ret_of (.inr rfl) (by simp [Try.results46]; rfl) (Fin.vnil (Fin.of ?_)))
    have : wholeP a b c d = false := by simpa using h
    simp [gridL, this]
  · have hw : wholeP a b c d = true := by simpa using h
    have hb := whole_iff.1 hw
    have hG : gridL a b c d = gridN a b (c - a + 1).toNat (d - b + 1).toNat := if_pos hw
    rw [hG]
    obtain ⟨W, hW⟩ : ∃ W, W = (c - a + 1).toNat := ⟨_, rfl⟩
    obtain ⟨H, hH⟩ : ∃ H, H = (d - b + 1).toNat := ⟨_, rfl⟩
    rw [← hW, ← hH]
    refine aw_seq (aw_run [4] ?_)
    simp -implicitDefEqProofs
    refine aw_seq (aw_seq (aw_run [4] ?_))
    simp -implicitDefEqProofs
    refine aw_block (aw_open (i := 3) rfl ?_)
    refine aw_loopW [1, 3, 4] (fun n fr σ => ∃ k3 k4 m j : Nat, ∃ x : Int, j + n = H ∧ k3 < m ∧ k4 < m ∧ σ = mkSt [(k4, [vi x, vi (b + (j : Int))])] [(k3, (gridN a b W j).map pl)] m ∧ fr = frm 40 [(1, .vel [range a b c d] 0 0), (3, .hsl k3 0 (gridN a b W j).length), (4, .ptr k4 0)]) H ?_ ?_
    · refine ⟨mkSt [(0, [vi a, vi b])] [(1, [])] 2, le_mkSt (by simp [σ0]) (by simp [σ0]) (by simp [σ0]), 1, 0, 2, 0, a, by omega, by omega, by omega, by simp [gridN], ?_⟩
      simp [gridN, σ0]
    · rintro n0 fr σ ⟨k3, k4, m, j, x, hj, h3, h4, rfl, rfl⟩
      simp
      refine aw_seq (aw_seq (aw_run [4] ?_))
      simp -implicitDefEqProofs [List.lookup]
      refine aw_cond rfl (fun h => aw_skip ?_) (fun h => aw_exit ?_)
      · have hlt : j < H := by simp at h; omega
        have hny : IntKind.i64.wrap (b + (j : Int) + 1) = b + ((j + 1 : Nat) : Int) := by rw [wrap_id (by omega) (by omega)]; omega
        have hgl := gridN_len a b W j
        have hjW : j * W ≤ 64 * 16 := Nat.mul_le_mul (by omega) (by omega)
        have hm4 : ¬ k4 = m := by omega
        simp -implicitDefEqProofs [List.lookup]
        refine aw_seq (aw_block (aw_seq (aw_run [4] ?_)))
        simp -implicitDefEqProofs [List.lookup]
        refine aw_block (aw_loopW [1, 3, 4] (fun n fr σ => ∃ k3 m i : Nat, i + n = W ∧ k3 < m ∧ k4 < m ∧ σ = mkSt [(k4, [vi (a + (i : Int)), vi (b + (j : Int))])] [(k3, (gridN a b W j ++ rowN a (b + (j : Int)) i).map pl)] m ∧ fr = frm 40 [(1, .vel [range a b c d] 0 0), (3, .hsl k3 0 (j * W + i)), (4, .ptr k4 0)]) W ?_ ?_)
        · refine ⟨mkSt [(k4, [vi a, vi (b + (j : Int))])] [(k3, (gridN a b W j).map pl)] m, le_mkSt (by simp [List.lookup]) (by simp [List.lookup]) (by simp), k3, m, 0, by omega, by omega, by omega, by simp [rowN], ?_⟩
          simp [hgl]
        · rintro n fr σ ⟨k3, m, i, hi, h3, h4, rfl, rfl⟩
          have hm4 : ¬ k4 = m := by omega
          simp
          refine aw_seq (aw_seq (aw_run [4] ?_))
          simp -implicitDefEqProofs [List.lookup]
          refine aw_cond rfl (fun h => aw_skip ?_) (fun h => aw_exit ?_)
          · have hlt2 : i < W := by simp at h; omega
            have hnx : IntKind.i64.wrap (a + (i : Int) + 1) = a + ((i + 1 : Nat) : Int) := by rw [wrap_id (by omega) (by omega)]; omega
            simp -implicitDefEqProofs [List.lookup]
            repeat' (first
              | refine aw_seq ?_
              | (refine aw_run [4] ?_; try simp -implicitDefEqProofs (maxSteps := 1000000) [List.lookup])
              | ((first | refine awl_skip' [4] rfl ?_ | refine aw_skip ?_ | refine aw_exit ?_); try simp -implicitDefEqProofs (maxSteps := 1000000) [List.lookup])
              | (refine aw_cond rfl (fun h => ?_) (fun h => ?_) <;> try (with_reducible first | exact ff_tt h | exact tt_ff h))
              | refine aw_block ?_
              | refine aw_ret (ret_of (.inr rfl) (by simp [Try.results46]; rfl) (Fin.of ?_))
              | refine ret_of (.inl rfl) (by simp [Try.results46]; rfl) (Fin.of ?_))
            have hlen : (gridN a b W j ++ rowN a (b + (j : Int)) i).length = j * W + i := by rw [List.length_append, hgl, rowN_len]
            refine awl_append [4] rfl rfl rfl (xs := (gridN a b W j ++ rowN a (b + (j : Int)) i).map pl) (by simp [List.lookup]) (by rw [List.length_map, hlen]; omega) rfl (by simp) te37 tet37 tz24 rfl ?_ (by simp) (by simp; omega) (by simp; omega) ?_
            · intro y hy
              simp at hy
              rcases hy with ⟨_, _, _, rfl⟩ | ⟨_, _, _, rfl⟩ <;> rfl
            simp -implicitDefEqProofs [List.lookup, hm4]
            repeat' (first
              | refine aw_seq ?_
              | (refine aw_run [4] ?_; try simp -implicitDefEqProofs (maxSteps := 1000000) [List.lookup, hm4])
              | ((first | refine awl_skip' [4] rfl ?_ | refine aw_skip ?_ | refine aw_exit ?_); try simp -implicitDefEqProofs (maxSteps := 1000000) [List.lookup, hm4])
              | (refine aw_cond rfl (fun h => ?_) (fun h => ?_) <;> try (with_reducible first | exact ff_tt h | exact tt_ff h))
              | refine aw_block ?_
              | refine aw_ret (ret_of (.inr rfl) (by simp [Try.results46]; rfl) (Fin.of ?_))
              | refine ret_of (.inl rfl) (by simp [Try.results46]; rfl) (Fin.of ?_))
            refine ⟨n - 1, by omega, mkSt [(k4, [vi (a + ((i + 1 : Nat) : Int)), vi (b + (j : Int))])] [(m, (gridN a b W j ++ rowN a (b + (j : Int)) (i + 1)).map pl)] (m + 1), le_mkSt (by simp [List.lookup, hnx]) (by simp [List.lookup, rowN_succ, List.take_of_length_le, hgl, rowN_len, pl]) (by simp), m, m + 1, i + 1, by omega, by omega, by omega, by simp, rfl, by omega⟩
          · have : i = W := by simp at h; omega
            subst this
            simp -implicitDefEqProofs [List.lookup]
            refine aw_seq (aw_seq (aw_run [4] ?_))
            simp -implicitDefEqProofs [List.lookup]
            refine aw_run [4] ?_
            simp -implicitDefEqProofs [List.lookup]
            refine aw_run [4] ?_
            simp -implicitDefEqProofs [List.lookup]
            refine ⟨n0 - 1, by omega, mkSt [(m, [vi (a + (i : Int)), vi (b + ((j + 1 : Nat) : Int))])] [(k3, (gridN a b i (j + 1)).map pl)] (m + 1), le_mkSt (by simp [List.lookup, hny]) (by simp [List.lookup, gridN_succ]) (by simp), k3, m, m + 1, j + 1, by omega, by omega, by omega, ⟨_, rfl⟩, ?_⟩
            simp [gridN_len, Nat.succ_mul]
      · have : j = H := by simp at h; omega
        subst this
        simp -implicitDefEqProofs [List.lookup]
        refine aw_freeze (b := k3) (xs := (gridN a b W j).map pl) (by simp [List.lookup]) ?_
        simp [frz, frz1, frz0]
        repeat' (first
          | refine aw_seq ?_
          | (refine aw_run [4] ?_; try simp -implicitDefEqProofs (maxSteps := 1000000))
          | ((first | refine awl_skip' [4] rfl ?_ | refine aw_skip ?_ | refine aw_exit ?_); try simp -implicitDefEqProofs (maxSteps := 1000000))
          | (refine aw_cond rfl (fun h => ?_) (fun h => ?_) <;> try (with_reducible first | exact ff_tt h | exact tt_ff h))
          | refine aw_block ?_
          | refine aw_ret (ret_of (.inr rfl) (by simp [Try.results46]; rfl) (Fin.of ?_))
          | refine ret_of (.inl rfl) (by simp [Try.results46]; rfl) (Fin.of ?_))
        simp [tupOf, List.take_of_length_le]
end Go.AL
/-! Contracts: gridironref06.Reads. -/
namespace Go.AL
open Go.Proofs
set_option linter.unusedSimpArgs false
set_option linter.unusedVariables false
/-- The places of the first n indexes of which p holds. -/
def gridP (p : Nat → Bool) (n : Nat) : List (Int × Int) := ((List.range n).filter p).map fun i : Nat => (atC (i : Int), atR (i : Int))
theorem gridP_succ (p : Nat → Bool) (n : Nat) : gridP p (n + 1) = gridP p n ++ (if p n = true then [(atC n, atR n)] else []) := by
  unfold gridP
  rw [List.range_succ, List.filter_append, List.map_append]
  congr 1
  by_cases h : p n = true <;> simp [h]
theorem gridP_len (p : Nat → Bool) (n : Nat) : (gridP p n).length ≤ n := by
  unfold gridP
  rw [List.length_map]
  exact Nat.le_trans (List.length_filter_le _ _) (by simp)
def usesN (t : Tree) (i : Nat) : Bool := usesB (atC (i : Int)) (atR (i : Int)) t
set_option maxHeartbeats 8000000 in
set_option maxRecDepth 100000 in
theorem rReads_ok (t : Tree) (h : t.sh) (hs : tszT t ≤ 1000000000) : APure Try.prog 15 [t.av] (.vsl ((if rightB t = true then gridP (usesN t) 1024 else []).map pl)) := by
  have hu := fun x y => ruses_ok x y t h
  have hr := rright5_ok t h (by have := deep_le_size t; omega)
  generalize rightB t = rb at *
  have hus : ∀ i : Nat, usesN t i = usesB (atC (i : Int)) (atR (i : Int)) t := fun _ => rfl
  generalize usesN t = uN at *
  generalize hub : (fun x y => usesB x y t) = uB at *
  have hub2 : ∀ x y, usesB x y t = uB x y := fun x y => by rw [← hub]
  simp only [hub2] at hus hu
  obtain ⟨k, n, a, b, c, d, w, ks⟩ := t
  rw [Tree.av] at hr hu ⊢
  cases rb with
  | false =>
    refine apure_of Try.func15 Try.ntmps15 rfl ?_
    simp only [List.length_cons, List.length_nil, List.cons_append, List.nil_append, List.replicate]
    repeat' (first
      | refine aw_seq ?_
      | (refine aw_run [6] ?_; try simp -implicitDefEqProofs (maxSteps := 1000000))
      | ((first | refine awl_skip' [6] rfl ?_ | refine awl_pure_guard [6] rfl rfl rfl (by first | assumption | kernel_rfl) rfl (fun hc => by first | exact hr) (by simp) (by simp) (by simp) ?_ | refine awl_pure' [6] rfl rfl rfl (by first | assumption | kernel_rfl) rfl (by first | exact hr) (by simp) (by simp) ?_ | refine aw_skip ?_ | refine aw_exit ?_); try simp -implicitDefEqProofs (maxSteps := 1000000))
      | (refine aw_cond rfl (fun h => ?_) (fun h => ?_) <;> try (with_reducible first | exact ff_tt h | exact tt_ff h))
      | refine aw_block ?_
      | refine aw_ret (ret_of (.inr rfl) (by simp [Try.results15]; rfl) (Fin.close (Fin.of ?_)))
      | refine ret_of (.inl rfl) (by simp [Try.results15]; rfl) (Fin.close (Fin.of ?_)))
    refine aw_loopW [3, 4, 5] (fun q fr σ => q = 0 ∧ σ = mkSt [] [] 0 ∧ fr = frm 32 [(3, .p (.slice none 0 0)), (4, vb false), (5, vi 0)]) 0 ?_ ?_
    · exact ⟨_, le_mkSt (by simp) (by simp) (Nat.le_refl _), rfl, rfl, by simp⟩
    · rintro q fr σ ⟨rfl, rfl, rfl⟩
      simp -implicitDefEqProofs
      repeat' (first
        | refine aw_seq ?_
        | (refine aw_run [6] ?_; try simp -implicitDefEqProofs (maxSteps := 1000000))
        | ((first | refine awl_skip' [6] rfl ?_ | refine aw_skip ?_ | refine aw_exit ?_); try simp -implicitDefEqProofs (maxSteps := 1000000))
        | (refine aw_cond rfl (fun h => ?_) (fun h => ?_) <;> try (with_reducible first | exact ff_tt h | exact tt_ff h))
        | refine aw_block ?_
        | refine aw_ret (ret_of (.inr rfl) (by simp [Try.results15]; rfl) (Fin.close (Fin.of ?_)))
        | refine ret_of (.inl rfl) (by simp [Try.results15]; rfl) (Fin.close (Fin.of ?_)))
      all_goals first | (simp [tupOf]; done) | trace_state
  | true =>
    refine apure_of Try.func15 Try.ntmps15 rfl ?_
    simp only [List.length_cons, List.length_nil, List.cons_append, List.nil_append, List.replicate]
    repeat' (first
      | refine aw_seq ?_
      | (refine aw_run [6] ?_; try simp -implicitDefEqProofs (maxSteps := 1000000))
      | ((first | refine awl_skip' [6] rfl ?_ | refine awl_pure_guard [6] rfl rfl rfl (by first | assumption | kernel_rfl) rfl (fun hc => by first | exact hr) (by simp) (by simp) (by simp) ?_ | refine awl_pure' [6] rfl rfl rfl (by first | assumption | kernel_rfl) rfl (by first | exact hr) (by simp) (by simp) ?_ | refine aw_skip ?_ | refine aw_exit ?_); try simp -implicitDefEqProofs (maxSteps := 1000000))
      | (refine aw_cond rfl (fun h => ?_) (fun h => ?_) <;> try (with_reducible first | exact ff_tt h | exact tt_ff h))
      | refine aw_block ?_
      | refine aw_ret (ret_of (.inr rfl) (by simp [Try.results15]; rfl) (Fin.close (Fin.of ?_)))
      | refine ret_of (.inl rfl) (by simp [Try.results15]; rfl) (Fin.close (Fin.of ?_)))
    refine aw_open (i := 3) rfl ?_
    refine aw_loopW [1, 3, 4, 5] (fun q fr σ => ∃ k' m i : Nat, i + q = 1024 ∧ k' < m ∧ σ = mkSt [] [(k', (gridP uN i).map pl)] m ∧ fr = frm 32 [(1, .vel [.agg [vi k, vi n, vi a, vi b, vi c, vi d, vs w, .vsl (avs ks)]] 0 0), (3, .hsl k' 0 (gridP uN i).length), (4, vb true), (5, vi (i : Nat))]) 1024 ?_ ?_
    · refine ⟨_, le_mkSt (bs := []) (ss := [(0, [])]) (n := 1) (by simp) (by simp) (by decide), 0, 1, 0, rfl, by decide, by simp [gridP], ?_⟩
      simp [gridP, σ0]
    · rintro q fr σ ⟨k', m, i, hi, hkm, rfl, rfl⟩
      have hlen := gridP_len uN i
      simp -implicitDefEqProofs
      by_cases hlt : i < 1024
      · have hlti : (i : Int) < 1024 := by omega
        have hnx : IntKind.i64.wrap ((i : Int) + 1) = (i : Int) + 1 := wrap_id (by omega) (by omega)
        have hu1 := hu (atC i) (atR i)
        rw [← hus] at hu1
        generalize huNi : uN i = ub at *
        repeat' (first
          | refine aw_seq ?_
          | (refine aw_run [6] ?_; try simp -implicitDefEqProofs (maxSteps := 1000000) [hlti, hnx])
          | ((first | refine awl_skip' [6] rfl ?_ | refine awl_pure_guard [6] rfl rfl rfl (by first | assumption | kernel_rfl) rfl (fun hc => by first | exact rat_ok _ | exact hu1) (by simp) (by simp) (by simp) ?_ | refine awl_pure' [6] rfl rfl rfl (by first | assumption | kernel_rfl) rfl (by first | exact rat_ok _ | exact hu1) (by simp) (by simp) ?_ | refine aw_skip ?_ | refine aw_exit ?_); try simp -implicitDefEqProofs (maxSteps := 1000000) [hlti, hnx])
          | (refine aw_cond rfl (fun h => ?_) (fun h => ?_) <;> try (with_reducible first | exact ff_tt h | exact tt_ff h))
          | refine aw_block ?_
          | refine aw_ret (ret_of (.inr rfl) (by simp [Try.results15]; rfl) (Fin.of ?_))
          | refine ret_of (.inl rfl) (by simp [Try.results15]; rfl) (Fin.of ?_))
        · subst h
          refine awl_append [6] rfl rfl rfl (xs := (gridP uN i).map pl) (by simp) (by simp) rfl (by simp) te37 tet37 tz24 rfl ?_ (by simp) (by simp; omega) (by simp; omega) ?_
          · intro y hy
            simp at hy
            obtain ⟨_, _, _, rfl⟩ := hy
            rfl
          simp -implicitDefEqProofs
          repeat' (first
            | refine aw_seq ?_
            | (refine aw_run [6] ?_; try simp -implicitDefEqProofs (maxSteps := 1000000) [hnx])
            | ((first | refine awl_skip' [6] rfl ?_ | refine aw_skip ?_ | refine aw_exit ?_); try simp -implicitDefEqProofs (maxSteps := 1000000) [hnx])
            | (refine aw_cond rfl (fun h => ?_) (fun h => ?_) <;> try (with_reducible first | exact ff_tt h | exact tt_ff h))
            | refine aw_block ?_
            | refine aw_ret (ret_of (.inr rfl) (by simp [Try.results15]; rfl) (Fin.of ?_))
            | refine ret_of (.inl rfl) (by simp [Try.results15]; rfl) (Fin.of ?_))
          refine ⟨q - 1, by omega, _, le_mkSt (bs := []) (ss := [(m + 1, (((gridP uN i).map pl).take (gridP uN i).length) ++ [pl (atC i, atR i)])]) (n := m + 2) (by simp) (by simp [pl]) (Nat.le_refl _), m + 1, m + 2, i + 1, by omega, by omega, ?_, ?_⟩
          · rw [gridP_succ, if_pos huNi, List.map_append, List.take_of_length_le (by simp)]; rfl
          · rw [gridP_succ, if_pos huNi]
            simp
        · subst h
          refine ⟨q - 1, by omega, _, le_mkSt (bs := []) (ss := [(k', (gridP uN i).map pl)]) (n := m + 1) (by simp) (by simp) (Nat.le_refl _), k', m + 1, i + 1, by omega, by omega, ?_, ?_⟩
          · rw [gridP_succ, if_neg (by simp [huNi]), List.append_nil]
          · rw [gridP_succ, if_neg (by simp [huNi]), List.append_nil]
            simp
      · have hlti : ¬ (i : Int) < 1024 := by omega
        obtain rfl : i = 1024 := by omega
        refine aw_freeze (b := k') (xs := (gridP uN 1024).map pl) (by simp) ?_
        simp -implicitDefEqProofs [frz, frz1, frz0]
        repeat' (first
          | refine aw_seq ?_
          | (refine aw_run [6] ?_; try simp -implicitDefEqProofs (maxSteps := 1000000))
          | ((first | refine awl_skip' [6] rfl ?_ | refine aw_skip ?_ | refine aw_exit ?_); try simp -implicitDefEqProofs (maxSteps := 1000000))
          | (refine aw_cond rfl (fun h => ?_) (fun h => ?_) <;> try (with_reducible first | exact ff_tt h | exact tt_ff h))
          | refine aw_block ?_
          | refine aw_ret (ret_of (.inr rfl) (by simp [Try.results15]; rfl) (Fin.of ?_))
          | refine ret_of (.inl rfl) (by simp [Try.results15]; rfl) (Fin.of ?_))
        all_goals first | (simp [tupOf, List.take_of_length_le]; done) | trace_state
end Go.AL
/-! An array's value at an index; a large array's variable. -/
namespace Go.AL
set_option linter.unusedVariables false
set_option linter.unusedSimpArgs false
variable {P : Program} {σ : ASt} {R : AV → ASt → Prop} {D : List Deferred} {Q : Exit → List AV → ASt → Prop} {fr : List AV} {ops : Array Oper} {o : Oper} {ρ : Operand → AV} {rest : List Oper}
theorem opq_indexA {t : TypeId} {x i : Operand} (ho : o.op = .index t x i) {cs : List AV} {k : IntKind} {n : Int} {len s : Nat} {g : Bool} (hx : ρ x = .agg cs) (hi : ρ i = .p (.int k n)) (ht : tarr P t = some (len, s, g)) (h0 : 0 ≤ n) (hn : n < len)
    {r : AV} (hr : aloadC cs (n.toNat * s) s g = some r) (hR : R r σ) : OpQ P o ρ σ R := by
  refine opq_v (s := fun e => Instr.index t (e x) (e i)) (fun e => by simp only [execOp, ho]) r hR fun G e w he hw => ?_
  have h1 := he x
  rw [hx] at h1
  have h2 := he i
  rw [hi] at h2
  generalize e x = vx at h1
  generalize e i = vi at h2
  cases h2
  obtain ⟨e', hu, hsz⟩ := tarr_spec ht
  cases h1 with
  | agg _ vs hs hc =>
    obtain ⟨v, e1, e2⟩ := run_part_of hsz hr hs hc
    refine ⟨v, ?_, e2⟩
    simp only [Instr.index, asIntOf, Sem.run_bind, Sem.run_pure, Result.andThen_ok, run_underlying' hu, if_pos (⟨h0, hn⟩ : 0 ≤ n ∧ n < (len : Int)), run_sizeOf' hsz, e1]
theorem awl_indexA (mu : List Nat) {t : TypeId} {x i : Operand} (ho : o.op = .index t x i) (hw : awanted ops o fr = some true) {cs : List AV} {k : IntKind} {n : Int} {len s : Nat} {g : Bool} (hx : aev fr x = .agg cs) (hi : aev fr i = .p (.int k n)) (ht : tarr P t = some (len, s, g)) (h0 : 0 ≤ n) (hn : n < len)
    {r : AV} (hr : aloadC cs (n.toNat * s) s g = some r) (hk : Shut (ARun P D ops Q mu rest (aput fr o.dst r) σ)) : AWL P D ops Q (o :: rest) fr σ :=
  awl_cons hw (opq_indexA ho hx hi ht h0 hn hr (awl_run' mu hk))
/-- A list of truths, as cells. -/
def bcells (n : Nat) (f : Nat → Bool) : List AV := (List.range n).map fun i => .p (.bool (f i))
theorem bcells_len (n : Nat) (f : Nat → Bool) : (bcells n f).length = n := by simp [bcells]
theorem bcells_get {n : Nat} {f : Nat → Bool} {i : Nat} (h : i < n) : (bcells n f)[i]? = some (.p (.bool (f i))) := by simp [bcells, h]
theorem bcells_set {n : Nat} {f : Nat → Bool} {i : Nat} (h : i < n) : (bcells n f).set i (.p (.bool true)) = bcells n (fun j => decide (j = i) || f j) := by
  apply List.ext_getElem?
  intro j
  rw [List.getElem?_set]
  by_cases hj : i = j
  · subst hj
    rw [if_pos rfl, if_pos (by simpa [bcells] using h), bcells_get h]; simp
  · rw [if_neg hj]
    by_cases hn : j < n
    · rw [bcells_get hn, bcells_get hn]
      have : ¬ j = i := fun e => hj e.symm
      simp [this]
    · rw [List.getElem?_eq_none (by simp [bcells]; omega), List.getElem?_eq_none (by simp [bcells]; omega)]
theorem bcells_cl {n : Nat} {f : Nat → Bool} : ∀ c ∈ bcells n f, Cl c := by
  intro c hc
  simp only [bcells, List.mem_map] at hc
  obtain ⟨i, _, rfl⟩ := hc
  exact .p _
end Go.AL
