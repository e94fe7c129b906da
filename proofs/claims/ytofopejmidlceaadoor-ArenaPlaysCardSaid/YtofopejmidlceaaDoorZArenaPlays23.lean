/- Parts of the proof of ArenaPlays: the logic, contracts, plain laws. -/
import Derived.Test.YtofopejmidlceaaDoorZArenaPlays22
/-! gridironlaw09: memory with both arenas; the document's methods called from there. -/
namespace Go.AL
open Go.Proofs
set_option linter.unusedSimpArgs false
set_option linter.unusedVariables false
/-- Both arenas: the program's is number 2 (maps 0 and 1), the document's number 5. -/
def lwS (room : Int) (es fs : List (AV × AV)) (c : Int) (nds : List Nd) (is : List Bool) (j1 j2 : Nat) (bs : List (Nat × List AV)) (m : Nat) : ASt := ⟨fun i => if i = 2 then some [vi room, .map 0, .map 1, vi c] else if i = 5 then some [vi room, .hsl j1 0 nds.length, .hsl j2 0 is.length] else lkN bs i,
  fun i => if i = 0 then some es else if i = 1 then some fs else none, fun i => if i = j1 then some (nds.map ndA) else if i = j2 then some (is.map fun b => vb b) else none, m⟩
section
variable (room : Int) (es fs : List (AV × AV)) (c : Int) (nds : List Nd) (is : List Bool) (j1 j2 : Nat) (bs : List (Nat × List AV)) (m i : Nat)
@[simp] theorem lwS_bx : (lwS room es fs c nds is j1 j2 bs m).bx i = if i = 2 then some [vi room, .map 0, .map 1, vi c] else if i = 5 then some [vi room, .hsl j1 0 nds.length, .hsl j2 0 is.length] else lkN bs i := rfl
@[simp] theorem lwS_mp : (lwS room es fs c nds is j1 j2 bs m).mp i = if i = 0 then some es else if i = 1 then some fs else none := rfl
@[simp] theorem lwS_sl : (lwS room es fs c nds is j1 j2 bs m).sl i = if i = j1 then some (nds.map ndA) else if i = j2 then some (is.map fun b => vb b) else none := rfl
@[simp] theorem lwS_next : (lwS room es fs c nds is j1 j2 bs m).next = m := rfl
end
structure LwN (j1 j2 : Nat) (bs : List (Nat × List AV)) (m : Nat) : Prop where
  l1 : 2 < j1 ∧ j1 < m ∧ j1 ≠ 5
  l2 : 2 < j2 ∧ j2 < m ∧ j2 ≠ 5
  n : j1 ≠ j2
  mm : 5 < m
  bl : ∀ p ∈ bs, 5 < p.1 ∧ p.1 < m ∧ p.1 ≠ j1 ∧ p.1 ≠ j2
  bd : (bs.map Prod.fst).Nodup
theorem le_lwS {room : Int} {es fs : List (AV × AV)} {c : Int} {nds : List Nd} {is : List Bool} {j1 j2 : Nat} {bs : List (Nat × List AV)} {m : Nat} {σ : ASt} (h1 : σ.bx 2 = some [vi room, .map 0, .map 1, vi c]) (h2 : σ.bx 5 = some [vi room, .hsl j1 0 nds.length, .hsl j2 0 is.length]) (h3 : σ.mp 0 = some es) (h4 : σ.mp 1 = some fs) (h5 : σ.sl j1 = some (nds.map ndA)) (h6 : σ.sl j2 = some (is.map fun b => vb b)) (h7 : ∀ p ∈ bs, σ.bx p.1 = some p.2) (h8 : σ.next ≤ m) : (lwS room es fs c nds is j1 j2 bs m).Le σ where
  bx := fun i cs e => by
    simp only [lwS_bx] at e
    split at e
    · rename_i hi; subst hi; rw [h1]; exact e
    · split at e
      · rename_i hi; subst hi; rw [h2]; exact e
      · exact h7 _ (lkN_mem e)
  mp := fun i cs e => by
    simp only [lwS_mp] at e
    split at e
    · rename_i hi; subst hi; rw [h3]; exact e
    · split at e
      · rename_i hi; subst hi; rw [h4]; exact e
      · cases e
  sl := fun i cs e => by
    simp only [lwS_sl] at e
    split at e
    · rename_i hi; subst hi; rw [h5]; exact e
    · split at e
      · rename_i hi; subst hi; rw [h6]; exact e
      · cases e
  next := h8
section
variable {room : Int} {es fs : List (AV × AV)} {c : Int} {nds : List Nd} {is : List Bool} {j1 j2 : Nat} {bs : List (Nat × List AV)} {m : Nat}
theorem LwN.look (h : LwN j1 j2 bs m) {i : Nat} (hi : i ≤ 5 ∨ i = j1 ∨ i = j2) : lkN bs i = none := by
  cases hq : lkN bs i with
  | none => rfl
  | some v => have := h.bl _ (lkN_mem hq); simp at this; omega
theorem at_lwS (h : LwN j1 j2 bs m) : ArAt (lwS room es fs c nds is j1 j2 bs m) 2 0 1 room es fs c := by
  have a := h.l1
  have b := h.l2
  have n0 : ¬ 0 = j1 := by omega
  have n1 : ¬ 0 = j2 := by omega
  have n2 : ¬ 1 = j1 := by omega
  have n3 : ¬ 1 = j2 := by omega
  have n4 : ¬ 2 = j1 := by omega
  have n5 : ¬ 2 = j2 := by omega
  exact ⟨by simp, by simp, by simp, by omega, by omega, by omega, by simp [n4, n5], by simp [h.look (i := 0) (by omega), n0, n1], by simp [h.look (i := 1) (by omega), n2, n3]⟩
@[simp] theorem lwS_ar (es' fs' : List (AV × AV)) (c' : Int) : (lwS room es fs c nds is j1 j2 bs m).ar 2 0 1 room es' fs' c' = lwS room es' fs' c' nds is j1 j2 bs m := by
  unfold ASt.ar lwS
  congr 1
  · funext i
    by_cases h : i = 2
    · subst h; simp [upd]
    · simp [upd, h]
  · funext i
    by_cases h2 : i = 1
    · subst h2; simp [upd]
    · by_cases h1 : i = 0
      · subst h1; simp [upd]
      · simp [upd, h1, h2]
theorem rcat_lwS (h : LwN j1 j2 bs m) : RcAt (lwS room es fs c nds is j1 j2 bs m) 5 j1 j2 room nds is := by
  have a := h.l1
  have b := h.l2
  have n0 : ¬ j1 = 0 := by omega
  have n1 : ¬ j1 = 1 := by omega
  have n2 : ¬ j1 = 2 := by omega
  have n3 : ¬ j2 = 0 := by omega
  have n4 : ¬ j2 = 1 := by omega
  have n5 : ¬ j2 = 2 := by omega
  exact ⟨by simp, by simp, by simp [Ne.symm h.n], Ne.symm a.2.2, Ne.symm b.2.2, h.n, by simp [Ne.symm a.2.2, Ne.symm b.2.2], by simp [h.look (i := j1) (by omega), n0, n1, n2, a.2.2], by simp [h.look (i := j2) (by omega), n3, n4, n5, b.2.2]⟩
/-- Behind a call of the document's. -/
theorem lw_stay (h : LwN j1 j2 bs m) {τ : ASt} {nds' : List Nd} {is' : List Bool} {k1 k2 : Nat} (q1 : RcAt τ 5 k1 k2 room nds' is') (q2 : RcStay (lwS room es fs c nds is j1 j2 bs m) τ 5 j1 j2 k1 k2) : LwN k1 k2 bs τ.next ∧ (lwS room es fs c nds' is' k1 k2 bs τ.next).Le τ := by
  have a := h.l1
  have b := h.l2
  have hm := h.mm
  have p1 := q2.k1
  have p2 := q2.k2
  have p3 := q2.next
  have p4 := q1.n1
  have p5 := q1.n2
  simp only [lwS_next] at p1 p2 p3
  refine ⟨⟨by omega, by omega, q1.n3, by omega, fun p hp => ?_, h.bd⟩, le_lwS ?_ q1.bx ?_ ?_ q1.s1 q1.s2 (fun p hp => ?_) (Nat.le_refl _)⟩
  · have := h.bl p hp; omega
  · rw [q2.bx 2 (by simp; omega) (by omega)]; simp
  · rw [q2.mp 0 (by simp; omega)]; simp
  · rw [q2.mp 1 (by simp; omega)]; simp
  · obtain ⟨r1, r2, r3, r4⟩ := h.bl p hp
    rw [q2.bx p.1 (by simp; omega) (by omega)]
    simp [show ¬ p.1 = 2 by omega, show ¬ p.1 = 5 by omega, lkN_of h.bd hp]
end
theorem cl_vis (l : List Int) : Cl (.vsl (l.map vi)) := .vsl _ fun c hc => by obtain ⟨_, _, rfl⟩ := List.mem_map.1 hc; exact .p _
theorem cl_tup2 {a b : AV} (ha : Cl a) (hb : Cl b) : Cl (.tup [a, b]) := .tup _ fun c hc => by
  simp only [List.mem_cons, List.not_mem_nil, or_false] at hc
  rcases hc with rfl | rfl
  · exact ha
  · exact hb
theorem cl_one {x : AV} (h : Cl x) : ∀ a ∈ [x], Cl a := fun a ha => by obtain rfl := List.mem_singleton.1 ha; exact h
theorem cl_nd0 : Cl nd0 := .agg _ fun c hc => by
  simp only [List.mem_cons, List.not_mem_nil, or_false] at hc
  rcases hc with rfl | rfl | rfl | rfl <;> exact .p _
/-! ### the document's methods, so -/
theorem RC.of {f : FuncId} {args : List AV} {size : Int} {nds : List Nd} {is : List Bool} {R : AV → ASt → Prop} {R' : AV → List Nd → List Bool → Prop} (h : ACall Tryd.prog f (.ptr 0 0 :: args) (rcS size nds is 1 2 [] [] 3) R) (hr : ∀ r τ, R r τ → ∃ nds' is' k1 k2 m, R' r nds' is' ∧ RcN k1 k2 m [] [] ∧ (rcS size nds' is' k1 k2 [] [] m).Le τ) : RC Tryd.prog f args size nds is R' := h.mono hr
/-- What a list put leaves in both. -/
def PutR (room : Nat) (M : Nods) (N : Nms) (c : Int) (l : List Nd) (r : AV) (nds' : List Nd) (is' : List Bool) : Prop :=
  if ((ps0 M N c).puts l).M.length ≤ room then r = .tup [.vsl (((ps0 M N c).puts l).hs.map vi), vi 0] ∧ Both room ((ps0 M N c).puts l).M ((ps0 M N c).puts l).N ((ps0 M N c).puts l).c nds' is'
  else r = .tup [.p (.slice none 0 0), vi 3] ∧ Both room ((⟨((ps0 M N c).puts l).M, ((ps0 M N c).puts l).N, ((ps0 M N c).puts l).c⟩ : AS).drops ((ps0 M N c).puts l).gs).M ((⟨((ps0 M N c).puts l).M, ((ps0 M N c).puts l).N, ((ps0 M N c).puts l).c⟩ : AS).drops ((ps0 M N c).puts l).gs).N ((⟨((ps0 M N c).puts l).M, ((ps0 M N c).puts l).N, ((ps0 M N c).puts l).c⟩ : AS).drops ((ps0 M N c).puts l).gs).c nds' is'
theorem rcLive {room : Nat} {M : Nods} {N : Nms} {c : Int} {nds : List Nd} {is : List Bool} (h : Both room M N c nds is) (hr : room ≤ 65536) : RCr Tryd.prog 12 [] room nds is (.vsl ((livL M).map vi)) :=
  .of (cl_vis _) ((rlive_ok room nds is h.rel.len h.rel.pos (by have := h.lb; omega) 1 2 3 rcn0).mono fun r τ ⟨e1, m, e2, e3⟩ => ⟨by rw [e1, h.rel.live h.ai], m, e2, e3⟩)
theorem rcReach {room : Nat} {M : Nods} {N : Nms} {c : Int} {nds : List Nd} {is : List Bool} (h : Both room M N c nds is) (hr : room ≤ 65536) (on : List Int) (hon : on.length ≤ 1000000) : RCr Tryd.prog 23 [.vsl (on.map vi)] room nds is (.vsl ((rchL M on).map vi)) :=
  .of (cl_vis _) ((rreach_ok h.ai h.rel h.clo room (by have := h.lb; omega) (fun y hy => (h.nd y hy).r) on hon 1 2 3 rcn0).mono fun r τ ⟨e1, m, e2, e3⟩ => ⟨e1, m, e2, e3⟩)
theorem rcGet {room : Nat} {M : Nods} {N : Nms} {c : Int} {nds : List Nd} {is : List Bool} (h : Both room M N c nds is) (k : Int) (x : Nd) (hg : gotK M k = some x) : RCr Tryd.prog 16 [vi k] room nds is (.tup [ndA x, vi 0]) :=
  .of (cl_tup2 (cl_ndA x) (.p _)) ((rget_ok h.ai h.rel room k x hg 1 2 3 rcn0).mono fun r τ ⟨e1, m, e2, e3⟩ => ⟨e1, m, e2, e3⟩)
theorem rcGetE {room : Nat} {M : Nods} {N : Nms} {c : Int} {nds : List Nd} {is : List Bool} (h : Both room M N c nds is) (k : Int) (hg : gotK M k = none) : RCr Tryd.prog 16 [vi k] room nds is (.tup [nd0, vi 4]) :=
  .of (cl_tup2 cl_nd0 (.p _)) ((rgetE_ok h.ai h.rel room k hg 1 2 3 rcn0).mono fun r τ ⟨e1, m, e2, e3⟩ => ⟨e1, m, e2, e3⟩)
theorem rcSweepE {room : Nat} {M : Nods} {N : Nms} {c : Int} {nds : List Nd} {is : List Bool} (h : Both room M N c nds is) (hr : room ≤ 65536) (on : List Int) (hon : on.length ≤ 1000000) (hb : on.any (badS M) = true) : RCr Tryd.prog 22 [.vsl (on.map vi)] room nds is (.tup [vi 0, vi 4]) :=
  .of (cl_tup2 (.p _) (.p _)) ((rsweepE_ok h.ai h.rel h.clo room (by have := h.lb; omega) (fun y hy => (h.nd y hy).r) on hon 1 2 3 rcn0 true hb rfl).mono fun r τ ⟨e1, m, e2, e3⟩ => ⟨e1, m, e2, e3⟩)
theorem rcSweep {room : Nat} {M : Nods} {N : Nms} {c : Int} {nds : List Nd} {is : List Bool} (h : Both room M N c nds is) (hr : room ≤ 65536) (on : List Int) (hon : on.length ≤ 1000000) (hb : on.any (badS M) = false) (D : List Int) (hD : (livL M).filter (fun x => !decide (x ∈ rchL M on)) = D) (d : AS) (hd : (⟨M, N, c⟩ : AS).drops D = d) : RC Tryd.prog 22 [.vsl (on.map vi)] room nds is fun r nds' is' => r = .tup [vi (D.length : Nat), vi 0] ∧ Both room d.M d.N d.c nds' is' :=
  .of (rsweep_ok h.ai h.rel h.clo room (by have := h.lb; omega) (fun y hy => (h.nd y hy).r) on hon 1 2 3 rcn0 false hb rfl) fun r τ ⟨e1, is', k2, m, e2, e3, e4, e5⟩ => ⟨nds, is', 1, k2, m, ⟨by
    have := rch_part h.ai.ndM on
    rw [hD] at this
    rw [e1, show ((livL M).length : Int) - ((rchL M on).length : Int) = (D.length : Int) by omega], h.sweep hD hd e2 e3⟩, e4, e5⟩
theorem rcPutBad {room : Nat} {M : Nods} {N : Nms} {c : Int} {nds : List Nd} {is : List Bool} (h : Both room M N c nds is) (hr : room ≤ 65536) (l : List Nd) (hl : l.length ≤ 1000) (hx : ∀ x ∈ l, NdOk x) (hb : badL M l 0 = true) : RCr Tryd.prog 24 [.vsl (l.map ndA)] room nds is (.tup [.p (.slice none 0 0), vi 1]) :=
  .of (cl_tup2 (.p _) (.p _)) ((rputBad_ok room nds is (h.rsok hr) 1 2 3 rcn0 l (by omega) hx (by rw [badDL_eq h.ai h.rel]; exact hb)).mono fun r τ ⟨e1, m, e2, e3⟩ => ⟨e1, m, e2, e3⟩)
theorem rcPut {room : Nat} {M : Nods} {N : Nms} {c : Int} {nds : List Nd} {is : List Bool} (h : Both room M N c nds is) (hr : room ≤ 65536) (l : List Nd) (hl : l.length ≤ 1000) (hx : ∀ x ∈ l, NdOk x) (hb : badL M l 0 = false) : RC Tryd.prog 24 [.vsl (l.map ndA)] room nds is (PutR room M N c l) := by
  obtain ⟨F, hF⟩ : ∃ F, RS.puts room ⟨nds, is, []⟩ l = F := ⟨_, rfl⟩
  refine .of (rput_ok room nds is (h.rsok hr) 1 2 3 rcn0 l (by omega) hx (by rw [badDL_eq h.ai h.rel]; exact hb) F hF) fun r τ hq => ?_
  unfold PutR
  cases F with
  | some t =>
    obtain ⟨e1, k1, k2, m, e2, e3⟩ := hq
    obtain ⟨b1, b2, b3⟩ := h.put hr hl hx hb hF rfl
    refine ⟨t.nds, t.is, k1, k2, m, ?_, e2, e3⟩
    rw [if_pos b1, ← b3]
    exact ⟨e1, b2⟩
  | none =>
    obtain ⟨e1, nds', k1, k2, m, e2, e3, e4, e5, e6⟩ := hq
    obtain ⟨b1, b2⟩ := h.full hr hl hx hb hF rfl rfl
    refine ⟨nds', is, k1, k2, m, ?_, e5, e6⟩
    rw [if_neg (by omega)]
    exact ⟨e1, b2 nds' e2 e3 e4⟩
end Go.AL
/-! gridironlaw09.step. -/
namespace Go.AL
open Go.Proofs
set_option linter.unusedSimpArgs false
set_option linter.unusedVariables false
theorem rintsZ_ok : APure Tryd.prog 10 [.p (.slice none 0 0), .p (.slice none 0 0)] (vb true) := by
  have := rints_ok [] [] (by simp) (by simp)
  rw [decide_eq_true rfl] at this
  refine this.soft rfl fun i c c' hc hc' G w v hv => ?_
  match i, hc, hc' with
  | 0, hc, hc' => cases hc; cases hc'; exact rep_nil hv
  | 1, hc, hc' => cases hc; cases hc'; exact rep_nil hv
  | i + 2, hc, hc' => cases hc
theorem cl_putR {room : Nat} {M : Nods} {N : Nms} {c : Int} {l : List Nd} (r : AV) (nds' : List Nd) (is' : List Bool) (h : PutR room M N c l r nds' is') : Cl r := by
  unfold PutR at h
  split at h
  · rw [h.1]; exact cl_tup2 (cl_vis _) (.p _)
  · rw [h.1]; exact cl_tup2 (.p _) (.p _)
/-- Behind a step. -/
def StepQ (room : Nat) (r : AV) (τ : ASt) : Prop := r = vb true ∧ ∃ (M : Nods) (N : Nms) (c : Int) (nds : List Nd) (is : List Bool) (j1 j2 m : Nat), Both room M N c nds is ∧ LwN j1 j2 [] m ∧ (lwS room (esK ndA M) (esT vi N) c nds is j1 j2 [] m).Le τ
theorem acR {f : FuncId} {args : List AV} {room : Int} {es fs : List (AV × AV)} {c : Int} {r : AV} {nds : List Nd} {is : List Bool} {j1 j2 : Nat} {bs : List (Nat × List AV)} {m : Nat} (h : AC Tryd.prog f args room es fs c r es fs c) (ha : ∀ a ∈ args, Cl a) (hr : Cl r) (hes : clM es) (hfs : clM fs) (hn : LwN j1 j2 bs m) :
    ACall Tryd.prog f (.ptr 2 0 :: args) (lwS room es fs c nds is j1 j2 bs m) fun r' τ => r' = r ∧ τ = lwS room es fs c nds is j1 j2 bs m :=
  (h.call ha hr hes hfs hes hfs (at_lwS hn)).mono fun r' τ ⟨e1, e2⟩ => ⟨e1, by rw [e2, lwS_ar]⟩
set_option maxHeartbeats 8000000 in
set_option maxRecDepth 100000 in
theorem step5_ok {room : Nat} {M : Nods} {N : Nms} {c : Int} {nds : List Nd} {is : List Bool} (hB : Both room M N c nds is) (hr : room ≤ 65536) {j1 j2 m : Nat} (hn : LwN j1 j2 [] m) (a : Ac) (ha : AcOk a) (hk : a.k % 8 = 5) :
    ACall Tryd.prog 9 [.ptr 2 0, .ptr 5 0, acA a] (lwS room (esK ndA M) (esT vi N) c nds is j1 j2 [] m) (StepQ room) := by
  have hnd : acA a = .agg [.p (.int .u8 a.k), .vsl (a.l.map ndA), .vsl (a.roots.map vi)] := rfl
  have hlb := hB.lb
  have hrl := ha.rl
  have hll := ha.ll
  have hk0 := ha.k
  refine acall_of Tryd.func9 Tryd.ntmps9 rfl ?_
  simp only [List.length_cons, List.length_nil, List.cons_append, List.nil_append, List.replicate]
  rw [hnd]
  have hk8 : a.k.tmod 8 = 5 := by rw [Int.tmod_eq_emod_of_nonneg (by omega)]; exact hk
  repeat' first | refine aw_W [12, 14] @hk8 trivial ?_ | refine aw_cond rfl (fun h => ?_) (fun h => ?_)
  cases hb : a.roots.any (badS M) with
  | true =>
    refine awl_ar [] rfl rfl rfl (by kernel_rfl) (asweepE_ok M N room c hB.ai a.roots (by omega) hb) rfl (cl_one (cl_vis _)) (cl_tup2 (.p _) (.p _)) (cl_esN _) (cl_esT _) (cl_esN _) (cl_esT _) (at_lwS hn) ?_
    simp -implicitDefEqProofs
    repeat' first | refine aw_W [12, 14] trivial trivial ?_ | refine aw_cond rfl (fun h => ?_) (fun h => ?_)
    refine awl_cons rfl (opq_call rfl rfl rfl ((RCr.call (rcSweepE hB hr a.roots (by omega) hb) (cl_one (cl_vis _)) (cl_tup2 (.p _) (.p _)) (rcat_lwS hn)).mono fun r τ ⟨e1, e2⟩ => ?_))
    subst e1 e2
    refine awl_run' [] ?_
    simp -implicitDefEqProofs
    repeat' first | refine aw_W [12, 14] trivial trivial ?_ | refine aw_cond rfl (fun h => ?_) (fun h => ?_)
    exact ⟨by simp [tupOf], M, N, c, nds, is, j1, j2, m, hB, hn, le_same _⟩
  | false =>
    obtain ⟨D, hD⟩ : ∃ D, (livL M).filter (fun x => !decide (x ∈ rchL M a.roots)) = D := ⟨_, rfl⟩
    obtain ⟨d, hd⟩ : ∃ d, (⟨M, N, c⟩ : AS).drops D = d := ⟨_, rfl⟩
    refine awl_ar [] rfl rfl rfl (by kernel_rfl) (asweep_ok M N room c hB.ai a.roots (by omega) hb D hD d hd) rfl (cl_one (cl_vis _)) (cl_tup2 (.p _) (.p _)) (cl_esN _) (cl_esT _) (cl_esN _) (cl_esT _) (at_lwS hn) ?_
    simp -implicitDefEqProofs
    repeat' first | refine aw_W [12, 14] trivial trivial ?_ | refine aw_cond rfl (fun h => ?_) (fun h => ?_)
    refine awl_cons rfl (opq_call rfl rfl rfl ((RC.call (rcSweep hB hr a.roots (by omega) hb D hD d hd) (cl_one (cl_vis _)) (fun r nds is h => by rw [h.1]; exact cl_tup2 (.p _) (.p _)) (rcat_lwS hn)).mono fun r τ hq => ?_))
    obtain ⟨nds', is', k1, k2, hq1, hq2, hq3⟩ := hq
    obtain ⟨hn', hle⟩ := lw_stay hn hq2 hq3
    obtain ⟨rfl, hB'⟩ := hq1
    refine AWL.less hle ?_
    refine awl_run' [] ?_
    simp -implicitDefEqProofs
    repeat' first | refine aw_W [12, 14] trivial trivial ?_ | refine aw_cond rfl (fun h => ?_) (fun h => ?_)
    exact ⟨by simp [tupOf], d.M, d.N, d.c, nds', is', k1, k2, _, hB', hn', le_same _⟩
set_option maxHeartbeats 8000000 in
set_option maxRecDepth 100000 in
theorem step6_ok {room : Nat} {M : Nods} {N : Nms} {c : Int} {nds : List Nd} {is : List Bool} (hB : Both room M N c nds is) (hr : room ≤ 65536) {j1 j2 m : Nat} (hn : LwN j1 j2 [] m) (a : Ac) (ha : AcOk a) (hk : a.k % 8 = 6) :
    ACall Tryd.prog 9 [.ptr 2 0, .ptr 5 0, acA a] (lwS room (esK ndA M) (esT vi N) c nds is j1 j2 [] m) (StepQ room) := by
  have hnd : acA a = .agg [.p (.int .u8 a.k), .vsl (a.l.map ndA), .vsl (a.roots.map vi)] := rfl
  have hlb := hB.lb
  have hrl := ha.rl
  have hll := ha.ll
  have hk0 := ha.k
  refine acall_of Tryd.func9 Tryd.ntmps9 rfl ?_
  simp only [List.length_cons, List.length_nil, List.cons_append, List.nil_append, List.replicate]
  rw [hnd]
  have hk8 : a.k.tmod 8 = 6 := by rw [Int.tmod_eq_emod_of_nonneg (by omega)]; exact hk
  repeat' first | refine aw_W [12, 14] @hk8 trivial ?_ | refine aw_cond rfl (fun h => ?_) (fun h => ?_)
  refine yl_acall rfl rfl rfl (by kernel_rfl) rfl (acR (areach_ok M N room c hB.ai a.roots (by omega)) (cl_one (cl_vis _)) (cl_vis _) (cl_esN _) (cl_esT _) hn) ?_
  simp -implicitDefEqProofs
  repeat' first | refine aw_W [12, 14] trivial trivial ?_ | refine aw_cond rfl (fun h => ?_) (fun h => ?_)
  refine yl_acall rfl rfl rfl (by kernel_rfl) rfl (RCr.call (rcReach hB hr a.roots (by omega)) (cl_one (cl_vis _)) (cl_vis _) (rcat_lwS hn)) ?_
  simp -implicitDefEqProofs
  have hrb : (rchL M a.roots).length ≤ 1000000 := by
    have := rch_part hB.ai.ndM a.roots
    have := livL_len M
    have := hB.ai.klen
    omega
  have hi := rints_ok (rchL M a.roots) (rchL M a.roots) hrb hrb
  rw [decide_eq_true rfl] at hi
  repeat' first | refine aw_W [12, 14] trivial (And.intro @hi trivial) ?_ | refine aw_cond rfl (fun h => ?_) (fun h => ?_)
  exact ⟨by simp [tupOf], M, N, c, nds, is, j1, j2, m, hB, hn, le_same _⟩
set_option maxHeartbeats 8000000 in
set_option maxRecDepth 100000 in
theorem step7_ok {room : Nat} {M : Nods} {N : Nms} {c : Int} {nds : List Nd} {is : List Bool} (hB : Both room M N c nds is) (hr : room ≤ 65536) {j1 j2 m : Nat} (hn : LwN j1 j2 [] m) (a : Ac) (ha : AcOk a) (hk : a.k % 8 = 7) :
    ACall Tryd.prog 9 [.ptr 2 0, .ptr 5 0, acA a] (lwS room (esK ndA M) (esT vi N) c nds is j1 j2 [] m) (StepQ room) := by
  have hnd : acA a = .agg [.p (.int .u8 a.k), .vsl (a.l.map ndA), .vsl (a.roots.map vi)] := rfl
  have hlb := hB.lb
  have hrl := ha.rl
  have hll := ha.ll
  have hk0 := ha.k
  refine acall_of Tryd.func9 Tryd.ntmps9 rfl ?_
  simp only [List.length_cons, List.length_nil, List.cons_append, List.nil_append, List.replicate]
  rw [hnd]
  have hk8 : a.k.tmod 8 = 7 := by rw [Int.tmod_eq_emod_of_nonneg (by omega)]; exact hk
  by_cases hr0 : a.roots = []
  · have hl0 : a.roots.length = 0 := by rw [hr0]; rfl
    repeat' first | refine aw_W [12, 14] (And.intro @hk8 @hr0) trivial ?_ | refine aw_cond rfl (fun h => ?_) (fun h => ?_)
    have g1 := hn.l1
    have g2 := hn.l2
    have g3 := hn.mm
    have m2 : ¬ m = 2 := by omega
    have m5 : ¬ m = 5 := by omega
    have m3 : ¬ m + 1 = m := by omega
    have m6 : ¬ m + 1 = 2 := by omega
    have m7 : ¬ m + 1 = 5 := by omega
    have m8 : ¬ 2 = m + 1 := by omega
    have m9 : ¬ 5 = m + 1 := by omega
    have n12 : ¬ j2 = j1 := fun e => hn.n e.symm
    cases hg : gotK M (0 : Int) with
    | some x =>
      have hxo := (hB.ai.pos _ x hg).2.2
      have hs := same09_ok x x (by have := hxo.rl; omega) (by have := hxo.rl; omega) (by have := hxo.nl; omega) (by have := hxo.nl; omega)
      have hxd : ndA x = .agg [vi x.k, .vsl (x.refs.map vi), .vsl (x.nums.map vi), vs x.text] := rfl
      have c1 := aget_ok M (esT vi N) (cl_esT N) room c (0 : Int) x hg hxo
      have c2 := rcGet hB (0 : Int) x hg
      rw [decide_eq_true rfl] at hs
      rw [hxd] at hs c1 c2
      refine awl_cons rfl (opq_call rfl rfl rfl ((acR c1 (cl_one (.p _)) (cl_tup2 (by rw [← hxd]; exact cl_ndA x) (.p _)) (cl_esN _) (cl_esT _) hn).mono fun r τ ⟨e1, e2⟩ => ?_))
      subst e1 e2
      refine awl_run' [12, 14] ?_
      simp -implicitDefEqProofs
      repeat' first | refine aw_W [12, 14] (And.intro @m2 @m5) trivial ?_ | refine aw_cond rfl (fun h => ?_) (fun h => ?_)
      have hn' : LwN j1 j2 [(m, [vi x.k, .vsl (x.refs.map vi), .vsl (x.nums.map vi), vs x.text])] (m + 1) := ⟨by omega, by omega, hn.n, by omega, by simp; omega, by simp⟩
      refine AWL.less (τ := lwS room (esK ndA M) (esT vi N) c nds is j1 j2 [(m, [vi x.k, .vsl (x.refs.map vi), .vsl (x.nums.map vi), vs x.text])] (m + 1)) (le_lwS (by simp [upd, Ne.symm m2]) (by simp [upd, Ne.symm m5]) (by simp) (by simp) (by simp) (by simp [n12]) (by simp [upd]) (by simp)) ?_
      refine awl_cons rfl (opq_call rfl rfl rfl ((RCr.call c2 (cl_one (.p _)) (cl_tup2 (by rw [← hxd]; exact cl_ndA x) (.p _)) (rcat_lwS hn')).mono fun r τ ⟨e1, e2⟩ => ?_))
      subst e1 e2
      refine awl_run' [12, 14] ?_
      simp -implicitDefEqProofs
      repeat' first | refine aw_W [12, 14] (And.intro @m2 (And.intro @m5 (And.intro @m3 (And.intro @m6 @m7)))) (And.intro @hs trivial) ?_ | refine aw_cond rfl (fun h => ?_) (fun h => ?_)
      exact ⟨by simp [tupOf], M, N, c, nds, is, j1, j2, m + 2, hB, ⟨by omega, by omega, hn.n, by omega, by simp, by simp⟩, le_lwS (by simp [upd, Ne.symm m2, m8]) (by simp [upd, Ne.symm m5, m9]) (by simp) (by simp) (by simp) (by simp [n12]) (by simp) (by simp)⟩
    | none =>
      have hs := same09Z_ok
      have c1 := agetE_ok M (esT vi N) (cl_esT N) room c (0 : Int) hg
      have c2 := rcGetE hB (0 : Int) hg
      have c3 := cl_nd0
      rw [show nd0 = .agg [vi 0, .p (.slice none 0 0), .p (.slice none 0 0), vs ⟨#[]⟩] from rfl] at hs c1 c2 c3
      refine awl_cons rfl (opq_call rfl rfl rfl ((acR c1 (cl_one (.p _)) (cl_tup2 c3 (.p _)) (cl_esN _) (cl_esT _) hn).mono fun r τ ⟨e1, e2⟩ => ?_))
      subst e1 e2
      refine awl_run' [12, 14] ?_
      simp -implicitDefEqProofs
      repeat' first | refine aw_W [12, 14] (And.intro @m2 @m5) trivial ?_ | refine aw_cond rfl (fun h => ?_) (fun h => ?_)
      have hn' : LwN j1 j2 [(m, [vi 0, .p (.slice none 0 0), .p (.slice none 0 0), vs ⟨#[]⟩])] (m + 1) := ⟨by omega, by omega, hn.n, by omega, by simp; omega, by simp⟩
      refine AWL.less (τ := lwS room (esK ndA M) (esT vi N) c nds is j1 j2 [(m, [vi 0, .p (.slice none 0 0), .p (.slice none 0 0), vs ⟨#[]⟩])] (m + 1)) (le_lwS (by simp [upd, Ne.symm m2]) (by simp [upd, Ne.symm m5]) (by simp) (by simp) (by simp) (by simp [n12]) (by simp [upd]) (by simp)) ?_
      refine awl_cons rfl (opq_call rfl rfl rfl ((RCr.call c2 (cl_one (.p _)) (cl_tup2 c3 (.p _)) (rcat_lwS hn')).mono fun r τ ⟨e1, e2⟩ => ?_))
      subst e1 e2
      refine awl_run' [12, 14] ?_
      simp -implicitDefEqProofs
      repeat' first | refine aw_W [12, 14] (And.intro @m2 (And.intro @m5 (And.intro @m3 (And.intro @m6 @m7)))) (And.intro @hs trivial) ?_ | refine aw_cond rfl (fun h => ?_) (fun h => ?_)
      exact ⟨by simp [tupOf], M, N, c, nds, is, j1, j2, m + 2, hB, ⟨by omega, by omega, hn.n, by omega, by simp, by simp⟩, le_lwS (by simp [upd, Ne.symm m2, m8]) (by simp [upd, Ne.symm m5, m9]) (by simp) (by simp) (by simp) (by simp [n12]) (by simp) (by simp)⟩
  · obtain ⟨h, rs, hrs⟩ : ∃ h rs, a.roots = h :: rs := by
      cases e : a.roots with
      | nil => exact absurd e hr0
      | cons h rs => exact ⟨h, rs, rfl⟩
    rw [hrs]
    repeat' first | refine aw_W [12, 14] @hk8 trivial ?_ | refine aw_cond rfl (fun h => ?_) (fun h => ?_)
    have g1 := hn.l1
    have g2 := hn.l2
    have g3 := hn.mm
    have m2 : ¬ m = 2 := by omega
    have m5 : ¬ m = 5 := by omega
    have m3 : ¬ m + 1 = m := by omega
    have m6 : ¬ m + 1 = 2 := by omega
    have m7 : ¬ m + 1 = 5 := by omega
    have m8 : ¬ 2 = m + 1 := by omega
    have m9 : ¬ 5 = m + 1 := by omega
    have n12 : ¬ j2 = j1 := fun e => hn.n e.symm
    cases hg : gotK M h with
    | some x =>
      have hxo := (hB.ai.pos _ x hg).2.2
      have hs := same09_ok x x (by have := hxo.rl; omega) (by have := hxo.rl; omega) (by have := hxo.nl; omega) (by have := hxo.nl; omega)
      have hxd : ndA x = .agg [vi x.k, .vsl (x.refs.map vi), .vsl (x.nums.map vi), vs x.text] := rfl
      have c1 := aget_ok M (esT vi N) (cl_esT N) room c h x hg hxo
      have c2 := rcGet hB h x hg
      rw [decide_eq_true rfl] at hs
      rw [hxd] at hs c1 c2
      refine awl_cons rfl (opq_call rfl rfl rfl ((acR c1 (cl_one (.p _)) (cl_tup2 (by rw [← hxd]; exact cl_ndA x) (.p _)) (cl_esN _) (cl_esT _) hn).mono fun r τ ⟨e1, e2⟩ => ?_))
      subst e1 e2
      refine awl_run' [12, 14] ?_
      simp -implicitDefEqProofs
      repeat' first | refine aw_W [12, 14] (And.intro @m2 @m5) trivial ?_ | refine aw_cond rfl (fun h => ?_) (fun h => ?_)
      have hn' : LwN j1 j2 [(m, [vi x.k, .vsl (x.refs.map vi), .vsl (x.nums.map vi), vs x.text])] (m + 1) := ⟨by omega, by omega, hn.n, by omega, by simp; omega, by simp⟩
      refine AWL.less (τ := lwS room (esK ndA M) (esT vi N) c nds is j1 j2 [(m, [vi x.k, .vsl (x.refs.map vi), .vsl (x.nums.map vi), vs x.text])] (m + 1)) (le_lwS (by simp [upd, Ne.symm m2]) (by simp [upd, Ne.symm m5]) (by simp) (by simp) (by simp) (by simp [n12]) (by simp [upd]) (by simp)) ?_
      refine awl_cons rfl (opq_call rfl rfl rfl ((RCr.call c2 (cl_one (.p _)) (cl_tup2 (by rw [← hxd]; exact cl_ndA x) (.p _)) (rcat_lwS hn')).mono fun r τ ⟨e1, e2⟩ => ?_))
      subst e1 e2
      refine awl_run' [12, 14] ?_
      simp -implicitDefEqProofs
      repeat' first | refine aw_W [12, 14] (And.intro @m2 (And.intro @m5 (And.intro @m3 (And.intro @m6 @m7)))) (And.intro @hs trivial) ?_ | refine aw_cond rfl (fun h => ?_) (fun h => ?_)
      exact ⟨by simp [tupOf], M, N, c, nds, is, j1, j2, m + 2, hB, ⟨by omega, by omega, hn.n, by omega, by simp, by simp⟩, le_lwS (by simp [upd, Ne.symm m2, m8]) (by simp [upd, Ne.symm m5, m9]) (by simp) (by simp) (by simp) (by simp [n12]) (by simp) (by simp)⟩
    | none =>
      have hs := same09Z_ok
      have c1 := agetE_ok M (esT vi N) (cl_esT N) room c h hg
      have c2 := rcGetE hB h hg
      have c3 := cl_nd0
      rw [show nd0 = .agg [vi 0, .p (.slice none 0 0), .p (.slice none 0 0), vs ⟨#[]⟩] from rfl] at hs c1 c2 c3
      refine awl_cons rfl (opq_call rfl rfl rfl ((acR c1 (cl_one (.p _)) (cl_tup2 c3 (.p _)) (cl_esN _) (cl_esT _) hn).mono fun r τ ⟨e1, e2⟩ => ?_))
      subst e1 e2
      refine awl_run' [12, 14] ?_
      simp -implicitDefEqProofs
      repeat' first | refine aw_W [12, 14] (And.intro @m2 @m5) trivial ?_ | refine aw_cond rfl (fun h => ?_) (fun h => ?_)
      have hn' : LwN j1 j2 [(m, [vi 0, .p (.slice none 0 0), .p (.slice none 0 0), vs ⟨#[]⟩])] (m + 1) := ⟨by omega, by omega, hn.n, by omega, by simp; omega, by simp⟩
      refine AWL.less (τ := lwS room (esK ndA M) (esT vi N) c nds is j1 j2 [(m, [vi 0, .p (.slice none 0 0), .p (.slice none 0 0), vs ⟨#[]⟩])] (m + 1)) (le_lwS (by simp [upd, Ne.symm m2]) (by simp [upd, Ne.symm m5]) (by simp) (by simp) (by simp) (by simp [n12]) (by simp [upd]) (by simp)) ?_
      refine awl_cons rfl (opq_call rfl rfl rfl ((RCr.call c2 (cl_one (.p _)) (cl_tup2 c3 (.p _)) (rcat_lwS hn')).mono fun r τ ⟨e1, e2⟩ => ?_))
      subst e1 e2
      refine awl_run' [12, 14] ?_
      simp -implicitDefEqProofs
      repeat' first | refine aw_W [12, 14] (And.intro @m2 (And.intro @m5 (And.intro @m3 (And.intro @m6 @m7)))) (And.intro @hs trivial) ?_ | refine aw_cond rfl (fun h => ?_) (fun h => ?_)
      exact ⟨by simp [tupOf], M, N, c, nds, is, j1, j2, m + 2, hB, ⟨by omega, by omega, hn.n, by omega, by simp, by simp⟩, le_lwS (by simp [upd, Ne.symm m2, m8]) (by simp [upd, Ne.symm m5, m9]) (by simp) (by simp) (by simp) (by simp [n12]) (by simp) (by simp)⟩
set_option maxHeartbeats 8000000 in
set_option maxRecDepth 100000 in
theorem step0_ok {room : Nat} {M : Nods} {N : Nms} {c : Int} {nds : List Nd} {is : List Bool} (hB : Both room M N c nds is) (hr : room ≤ 65536) {j1 j2 m : Nat} (hn : LwN j1 j2 [] m) (a : Ac) (ha : AcOk a) (hk : a.k % 8 < 5) :
    ACall Tryd.prog 9 [.ptr 2 0, .ptr 5 0, acA a] (lwS room (esK ndA M) (esT vi N) c nds is j1 j2 [] m) (StepQ room) := by
  have hnd : acA a = .agg [.p (.int .u8 a.k), .vsl (a.l.map ndA), .vsl (a.roots.map vi)] := rfl
  have hlb := hB.lb
  have hrl := ha.rl
  have hll := ha.ll
  have hk0 := ha.k
  refine acall_of Tryd.func9 Tryd.ntmps9 rfl ?_
  simp only [List.length_cons, List.length_nil, List.cons_append, List.nil_append, List.replicate]
  rw [hnd]
  obtain ⟨kk, hkk⟩ : ∃ kk, a.k.tmod 8 = kk := ⟨_, rfl⟩
  have hkk2 : kk < 5 := by rw [← hkk, Int.tmod_eq_emod_of_nonneg (by omega)]; exact hk
  have h5 : ¬ kk = 5 := by omega
  have h6 : ¬ kk = 6 := by omega
  have h7 : ¬ kk = 7 := by omega
  repeat' first | refine aw_W [12, 14] (And.intro @hkk (And.intro @h5 (And.intro @h6 @h7))) trivial ?_ | refine aw_cond rfl (fun h => ?_) (fun h => ?_)
  have hx : ∀ x ∈ a.l, NdOk x := fun x hx => (ha.nd x hx).1
  have hno := nodes09_ok a.l (by omega)
  cases hb : badL M a.l 0 with
  | true =>
    refine awl_ar [] rfl rfl rfl (by kernel_rfl) (aputBad_ok M N room c a.l (hB.lok hr (by omega) hx) hb) rfl (cl_one (.vsl _ (cl_nds _))) (cl_tup2 (.p _) (.p _)) (cl_esN _) (cl_esT _) (cl_esN _) (cl_esT _) (at_lwS hn) ?_
    simp -implicitDefEqProofs
    repeat' first | refine aw_W [12, 14] trivial (And.intro @hno trivial) ?_ | refine aw_cond rfl (fun h => ?_) (fun h => ?_)
    refine awl_cons rfl (opq_call rfl rfl rfl ((RCr.call (rcPutBad hB hr a.l (by omega) hx hb) (cl_one (.vsl _ (cl_nds _))) (cl_tup2 (.p _) (.p _)) (rcat_lwS hn)).mono fun r τ ⟨e1, e2⟩ => ?_))
    subst e1 e2
    refine awl_run' [] ?_
    simp -implicitDefEqProofs
    repeat' first | refine aw_W [12, 14] trivial (And.intro @rintsZ_ok trivial) ?_ | refine aw_cond rfl (fun h => ?_) (fun h => ?_)
    exact ⟨by simp [tupOf], M, N, c, nds, is, j1, j2, m, hB, hn, le_same _⟩
  | false =>
    have hL := hB.lok hr (l := a.l) (by omega) hx
    obtain ⟨s, hs⟩ : ∃ s, (ps0 M N c).puts a.l = s := ⟨_, rfl⟩
    by_cases hsm : s.M.length ≤ room
    · refine awl_ar [] rfl rfl rfl (by kernel_rfl) (aputOk_ok M N room c a.l hL hb s hs (by omega)) rfl (cl_one (.vsl _ (cl_nds _))) (cl_tup2 (cl_vis _) (.p _)) (cl_esN _) (cl_esT _) (cl_esN _) (cl_esT _) (at_lwS hn) ?_
      simp -implicitDefEqProofs
      repeat' first | refine aw_W [12, 14] trivial (And.intro @hno trivial) ?_ | refine aw_cond rfl (fun h => ?_) (fun h => ?_)
      refine awl_cons rfl (opq_call rfl rfl rfl ((RC.call (rcPut hB hr a.l (by omega) hx hb) (cl_one (.vsl _ (cl_nds _))) cl_putR (rcat_lwS hn)).mono fun r τ hq => ?_))
      obtain ⟨nds', is', k1, k2, hq1, hq2, hq3⟩ := hq
      obtain ⟨hn', hle⟩ := lw_stay hn hq2 hq3
      rw [PutR, hs, if_pos hsm] at hq1
      obtain ⟨rfl, hB'⟩ := hq1
      have hsl : s.hs.length ≤ 1000000 := by
        have := (PI.puts hL a.l.length (Nat.le_refl _)).2
        rw [List.take_length, hs] at this
        omega
      have hi := rints_ok s.hs s.hs hsl hsl
      rw [decide_eq_true rfl] at hi
      refine AWL.less hle ?_
      refine awl_run' [] ?_
      simp -implicitDefEqProofs
      repeat' first | refine aw_W [12, 14] trivial (And.intro @hi trivial) ?_ | refine aw_cond rfl (fun h => ?_) (fun h => ?_)
      exact ⟨by simp [tupOf], s.M, s.N, s.c, nds', is', k1, k2, _, hB', hn', le_same _⟩
    · obtain ⟨d, hd⟩ : ∃ d, (⟨s.M, s.N, s.c⟩ : AS).drops s.gs = d := ⟨_, rfl⟩
      refine awl_ar [] rfl rfl rfl (by kernel_rfl) (aputFull_ok M N room c a.l hL hb s hs (by omega) d hd) rfl (cl_one (.vsl _ (cl_nds _))) (cl_tup2 (.p _) (.p _)) (cl_esN _) (cl_esT _) (cl_esN _) (cl_esT _) (at_lwS hn) ?_
      simp -implicitDefEqProofs
      repeat' first | refine aw_W [12, 14] trivial (And.intro @hno trivial) ?_ | refine aw_cond rfl (fun h => ?_) (fun h => ?_)
      refine awl_cons rfl (opq_call rfl rfl rfl ((RC.call (rcPut hB hr a.l (by omega) hx hb) (cl_one (.vsl _ (cl_nds _))) cl_putR (rcat_lwS hn)).mono fun r τ hq => ?_))
      obtain ⟨nds', is', k1, k2, hq1, hq2, hq3⟩ := hq
      obtain ⟨hn', hle⟩ := lw_stay hn hq2 hq3
      rw [PutR, hs, if_neg hsm, hd] at hq1
      obtain ⟨rfl, hB'⟩ := hq1
      refine AWL.less hle ?_
      refine awl_run' [] ?_
      simp -implicitDefEqProofs
      repeat' first | refine aw_W [12, 14] trivial (And.intro @rintsZ_ok trivial) ?_ | refine aw_cond rfl (fun h => ?_) (fun h => ?_)
      exact ⟨by simp [tupOf], d.M, d.N, d.c, nds', is', k1, k2, _, hB', hn', le_same _⟩
theorem step09_ok {room : Nat} {M : Nods} {N : Nms} {c : Int} {nds : List Nd} {is : List Bool} (hB : Both room M N c nds is) (hr : room ≤ 65536) {j1 j2 m : Nat} (hn : LwN j1 j2 [] m) (a : Ac) (ha : AcOk a) :
    ACall Tryd.prog 9 [.ptr 2 0, .ptr 5 0, acA a] (lwS room (esK ndA M) (esT vi N) c nds is j1 j2 [] m) (StepQ room) := by
  have hk := ha.k
  by_cases h5 : a.k % 8 = 5
  · exact step5_ok hB hr hn a ha h5
  · by_cases h6 : a.k % 8 = 6
    · exact step6_ok hB hr hn a ha h6
    · by_cases h7 : a.k % 8 = 7
      · exact step7_ok hB hr hn a ha h7
      · exact step0_ok hB hr hn a ha (by omega)
end Go.AL
/-! gridironlaw09.alive: what its acts come to, plainly; memory with the program's arena alone. -/
namespace Go.AL
open Go.Proofs
set_option linter.unusedSimpArgs false
set_option linter.unusedVariables false
theorem put_new {s : PS} {x : Nd} (hA : AI s.M s.N s.c) (hno : ∀ n, gotK s.M n ≠ some (resN s.hs x)) {h0 : Int} (h1 : gotK s.M h0 = none) (h2 : 1 ≤ h0) (h3 : ∀ k, 1 ≤ k → k < h0 → (gotK s.M k).isSome = true) :
    (s.put x).M = putK s.M h0 (resN s.hs x) ∧ (s.put x).hs = s.hs ++ [h0] ∧ (s.put x).gs = s.gs ++ [h0] := by
  obtain ⟨n1, n2, n3, n4⟩ := hA.next
  have hh : hN s.M s.c = h0 := by
    rcases Int.lt_trichotomy (hN s.M s.c) h0 with h | h | h
    · have := h3 _ n1 h
      rw [n3] at this; cases this
    · exact h
    · have := n4 _ h2 h
      rw [h1] at this; cases this
  have hg : gotT s.N (nmB (resN s.hs x)) = none := by
    cases e : gotT s.N (nmB (resN s.hs x)) with
    | none => rfl
    | some k =>
      obtain ⟨y, e1, e2⟩ := hA.bwd _ _ e
      obtain rfl := nmB_inj e2
      exact absurd e1 (hno k)
  unfold PS.put
  rw [hg, hh]
  exact ⟨rfl, rfl, rfl⟩
theorem put_old {s : PS} {x : Nd} (hA : AI s.M s.N s.c) {h : Int} (h1 : gotK s.M h = some (resN s.hs x)) : s.put x = { s with hs := s.hs ++ [h] } := by
  unfold PS.put
  rw [hA.fwd _ _ h1]
theorem livL_is {M : Nods} (hn : (M.map Prod.fst).Nodup) {L : List Int} (h1 : L.Pairwise (· < ·)) (h2 : ∀ x, x ∈ L ↔ (gotK M x).isSome = true) : livL M = L := rise_ext (livL_lt hn) h1 fun x => by rw [mem_livL, h2]
def nA : Nd := ⟨1, [], [], ⟨#[120]⟩⟩
def nB : Nd := ⟨2, [-1, 0], [5], ⟨#[]⟩⟩
def nB' : Nd := ⟨2, [1, 0], [5], ⟨#[]⟩⟩
def nC : Nd := ⟨3, [], [], ⟨#[]⟩⟩
def nD : Nd := ⟨4, [], [], ⟨#[]⟩⟩
def nF : Nd := ⟨0, [3], [], ⟨#[]⟩⟩
def nE : Nd := ⟨7, [1], [], ⟨#[]⟩⟩
theorem okA : NdOk nA := ⟨by decide, by simp [nA], by simp [nA], by simp [nA], by simp [nA], by decide⟩
theorem okB : NdOk nB := ⟨by decide, by simp [nB], by simp [nB], by simp [nB], by simp [nB], by decide⟩
theorem okC : NdOk nC := ⟨by decide, by simp [nC], by simp [nC], by simp [nC], by simp [nC], by decide⟩
theorem okD : NdOk nD := ⟨by decide, by simp [nD], by simp [nD], by simp [nD], by simp [nD], by decide⟩
theorem okF : NdOk nF := ⟨by decide, by simp [nF], by simp [nF], by simp [nF], by simp [nF], by decide⟩
theorem okE : NdOk nE := ⟨by decide, by simp [nE], by simp [nE], by simp [nE], by simp [nE], by decide⟩
theorem lok_of {M : Nods} {N : Nms} {c : Int} (h : AI M N c) (hm : M.length ≤ 10) {l : List Nd} (hl : l.length ≤ 10) (hx : ∀ x ∈ l, NdOk x) : LOk M N c 3 l := ⟨h, by omega, by omega, hx, by omega⟩
def got1 (n : Int) : Option Nd := if n = 1 then some nA else if n = 2 then some nB' else none
theorem alive_s1 : ∃ s, (ps0 [] [] 1).puts [nA, nB, nA] = s ∧ s.hs = [1, 2, 1] ∧ AI s.M s.N s.c ∧ (∀ n, gotK s.M n = got1 n) ∧ s.M.length = 2 := by
  refine ⟨_, rfl, ?_⟩
  have hL := lok_of AI.empty (by simp) (l := [nA, nB, nA]) (by simp) (by intro x hx; simp at hx; rcases hx with rfl | rfl | rfl <;> first | exact okA | exact okB)
  have p1 := (PI.puts hL 1 (by simp)).1
  have p2 := (PI.puts hL 2 (by simp)).1
  have p3 := (PI.puts hL 3 (by simp)).1
  have e1 : (ps0 [] [] 1).puts ([nA, nB, nA].take 1) = (ps0 [] [] 1).put nA := rfl
  have e2 : (ps0 [] [] 1).puts ([nA, nB, nA].take 2) = ((ps0 [] [] 1).put nA).put nB := rfl
  have e3 : (ps0 [] [] 1).puts ([nA, nB, nA].take 3) = (((ps0 [] [] 1).put nA).put nB).put nA := rfl
  have e4 : (ps0 [] [] 1).puts [nA, nB, nA] = (((ps0 [] [] 1).put nA).put nB).put nA := rfl
  rw [e1] at p1
  rw [e2] at p2
  rw [e3] at p3
  rw [e4]
  obtain ⟨a1, a2, a3⟩ := put_new (s := ps0 [] [] 1) (x := nA) AI.empty (fun n => by simp [ps0, gotK]) (h0 := 1) (by simp [ps0, gotK]) (by omega) (fun k h1 h2 => by omega)
  generalize (ps0 [] [] 1).put nA = s1 at *
  have g1 : ∀ n, gotK s1.M n = if 1 = n then some nA else none := fun n => by rw [a1, gotK_put]; rfl
  have r2 : resN s1.hs nB = nB' := by rw [a2]; rfl
  obtain ⟨b1, b2, b3⟩ := put_new (s := s1) (x := nB) p1.ai (fun n => by rw [g1, r2]; split <;> simp [nA, nB']) (h0 := 2) (by rw [g1]; rfl) (by omega) (fun k h1 h2 => by
    obtain rfl : k = 1 := by omega
    rw [g1]; rfl)
  generalize s1.put nB = s2 at *
  have g2 : ∀ n, gotK s2.M n = got1 n := fun n => by
    rw [b1, gotK_put, r2, g1, got1]
    by_cases h1 : n = 1
    · subst h1; rfl
    · by_cases h2 : n = 2
      · subst h2; rfl
      · simp [h1, h2, Ne.symm h1, Ne.symm h2]
  have r3 : resN s2.hs nA = nA := by rfl
  have o3 := put_old (s := s2) (x := nA) p2.ai (h := 1) (by rw [g2, r3]; rfl)
  rw [o3]
  have hl : livL s2.M = [1, 2] := livL_is p2.ai.ndM (by simp) fun x => by
    rw [g2, got1]
    by_cases h1 : x = 1
    · simp [h1]
    · by_cases h2 : x = 2
      · simp [h2]
      · simp [h1, h2]
  refine ⟨by simp [b2, a2, ps0], p2.ai, g2, ?_⟩
  have := livL_len s2.M
  rw [hl] at this
  exact this.symm
theorem alive_s2 {M : Nods} {N : Nms} {c : Int} (hA : AI M N c) (hg : ∀ n, gotK M n = got1 n) (hm : M.length = 2) : ∃ s d, (ps0 M N c).puts [nC, nD] = s ∧ 3 < s.M.length ∧ (⟨s.M, s.N, s.c⟩ : AS).drops s.gs = d ∧ AI d.M d.N d.c ∧ ∀ n, gotK d.M n = got1 n := by
  refine ⟨_, _, rfl, ?_, rfl, ?_⟩
  · have hL := lok_of hA (by omega) (l := [nC, nD]) (by simp) (by intro x hx; simp at hx; rcases hx with rfl | rfl <;> first | exact okC | exact okD)
    have p1 := (PI.puts hL 1 (by simp)).1
    have p2 := (PI.puts hL 2 (by simp)).1
    have e1 : (ps0 M N c).puts ([nC, nD].take 1) = (ps0 M N c).put nC := rfl
    have e2 : (ps0 M N c).puts ([nC, nD].take 2) = ((ps0 M N c).put nC).put nD := rfl
    have e4 : (ps0 M N c).puts [nC, nD] = ((ps0 M N c).put nC).put nD := rfl
    rw [e1] at p1
    rw [e2] at p2
    rw [e4]
    have g0 : ∀ n, gotK (ps0 M N c).M n = got1 n := hg
    have r1 : resN (ps0 M N c).hs nC = nC := rfl
    obtain ⟨a1, a2, a3⟩ := put_new (s := ps0 M N c) (x := nC) hA (fun n => by rw [g0, r1, got1]; split <;> (try split) <;> simp [nA, nB', nC]) (h0 := 3) (by rw [g0]; rfl) (by omega) (fun k h1 h2 => by
      rw [g0, got1]
      by_cases h1 : k = 1
      · simp [h1]
      · simp [show k = 2 by omega])
    generalize (ps0 M N c).put nC = s1 at *
    have g1 : ∀ n, gotK s1.M n = if 3 = n then some nC else got1 n := fun n => by rw [a1, gotK_put, r1, g0]
    have r2 : resN s1.hs nD = nD := rfl
    obtain ⟨b1, b2, b3⟩ := put_new (s := s1) (x := nD) p1.ai (fun n => by rw [g1, r2]; split <;> (try unfold got1) <;> (try split) <;> (try split) <;> simp [nA, nB', nC, nD]) (h0 := 4) (by rw [g1]; rfl) (by omega) (fun k h1 h2 => by
      rw [g1, got1]
      by_cases h1 : k = 1
      · simp [h1]
      · by_cases h2 : k = 2
        · simp [h2]
        · simp [show k = 3 by omega])
    generalize s1.put nD = s2 at *
    have g2 : ∀ n, gotK s2.M n = if 4 = n then some nD else if 3 = n then some nC else got1 n := fun n => by rw [b1, gotK_put, r2, g1]
    have := sub_len [1, 2, 3, 4] (s2.M.map Prod.fst) (by simp) fun x hx => gotK_mem.1 (by
      simp only [List.mem_cons, List.not_mem_nil, or_false] at hx
      rw [g2, got1]
      rcases hx with rfl | rfl | rfl | rfl <;> rfl)
    simp only [List.length_map, List.length_cons, List.length_nil] at this
    omega
  · have hL := lok_of hA (by omega) (l := [nC, nD]) (by simp) (by intro x hx; simp at hx; rcases hx with rfl | rfl <;> first | exact okC | exact okD)
    obtain ⟨b1, b2⟩ := back_got (room := 3) (by exact_mod_cast hL) (s := (ps0 M N c).puts [nC, nD]) rfl rfl
    exact ⟨b1, fun n => by rw [b2, hg]⟩
def got3 (n : Int) : Option Nd := if n = 1 then some nA else none
theorem alive_s3 {M : Nods} {N : Nms} {c : Int} (hA : AI M N c) (hg : ∀ n, gotK M n = got1 n) : ∃ D d, (livL M).filter (fun x => !decide (x ∈ rchL M [1])) = D ∧ D.length = 1 ∧ (⟨M, N, c⟩ : AS).drops D = d ∧ AI d.M d.N d.c ∧ (∀ n, gotK d.M n = got3 n) ∧ d.M.length = 1 := by
  have hl : livL M = [1, 2] := livL_is hA.ndM (by simp) fun x => by
    rw [hg, got1]
    by_cases h1 : x = 1
    · simp [h1]
    · by_cases h2 : x = 2
      · simp [h2]
      · simp [h1, h2]
  have hr : ∀ x, Rch M [1] x → x = 1 := fun x h => by
    induction h with
    | root h hm _ => simpa using hm
    | step h y r _ hy hr _ ih =>
      subst ih
      rw [hg] at hy
      have : y = nA := by simpa [got1] using hy.symm
      subst this
      simp [nA] at hr
  have h1 : Rch M [1] 1 := .root 1 (by simp) (by rw [hg]; rfl)
  have m1 : (1 : Int) ∈ rchL M [1] := mem_rchL.2 h1
  have m2 : ¬ (2 : Int) ∈ rchL M [1] := fun h => by have := hr _ (mem_rchL.1 h); omega
  have hD : (livL M).filter (fun x => !decide (x ∈ rchL M [1])) = [2] := by rw [hl]; simp [List.filter_cons, m1, m2]
  obtain ⟨b1, b2⟩ := swept_got hA (on := [1]) hD rfl
  have b3 : ∀ n, gotK ((⟨M, N, c⟩ : AS).drops [2]).M n = got3 n := fun n => by
    rw [b2, hg]
    by_cases e : n = 1
    · subst e; rw [if_pos m1]; rfl
    · rw [if_neg (fun h => e (hr _ (mem_rchL.1 h)))]; simp [got3, e]
  refine ⟨_, _, hD, rfl, rfl, b1, b3, ?_⟩
  have hl3 : livL ((⟨M, N, c⟩ : AS).drops [2]).M = [1] := livL_is b1.ndM (by simp) fun x => by
    rw [b3, got3]
    by_cases h1 : x = 1
    · simp [h1]
    · simp [h1]
  have := livL_len ((⟨M, N, c⟩ : AS).drops [2]).M
  rw [hl3] at this
  exact this.symm
theorem alive_s4 {M : Nods} {N : Nms} {c : Int} (hA : AI M N c) (hg : ∀ n, gotK M n = got3 n) (hm : M.length = 1) : ∃ s, (ps0 M N c).puts [nE] = s ∧ s.hs = [2] ∧ AI s.M s.N s.c ∧ gotK s.M 2 = some nE ∧ s.M.length = 2 := by
  refine ⟨_, rfl, ?_⟩
  have hL := lok_of hA (by omega) (l := [nE]) (by simp) (by intro x hx; simp at hx; subst hx; exact okE)
  have p1 := (PI.puts hL 1 (by simp)).1
  have e1 : (ps0 M N c).puts ([nE].take 1) = (ps0 M N c).put nE := rfl
  have e4 : (ps0 M N c).puts [nE] = (ps0 M N c).put nE := rfl
  rw [e1] at p1
  rw [e4]
  have g0 : ∀ n, gotK (ps0 M N c).M n = got3 n := hg
  have r1 : resN (ps0 M N c).hs nE = nE := rfl
  obtain ⟨a1, a2, a3⟩ := put_new (s := ps0 M N c) (x := nE) hA (fun n => by rw [g0, r1, got3]; split <;> simp [nA, nE]) (h0 := 2) (by rw [g0]; rfl) (by omega) (fun k h1 h2 => by
    obtain rfl : k = 1 := by omega
    rw [g0]; rfl)
  generalize (ps0 M N c).put nE = s1 at *
  have g1 : ∀ n, gotK s1.M n = if 2 = n then some nE else got3 n := fun n => by rw [a1, gotK_put, r1, g0]
  have hl3 : livL s1.M = [1, 2] := livL_is p1.ai.ndM (by simp) fun x => by
    rw [g1, got3]
    by_cases h1 : x = 1
    · simp [h1]
    · by_cases h2 : x = 2
      · simp [h2]
      · simp [h1, h2, Ne.symm h2]
  have := livL_len s1.M
  rw [hl3] at this
  exact ⟨by simp [a2, ps0], p1.ai, by rw [g1]; rfl, this.symm⟩
end Go.AL
/-! What one holds, said more softly. -/
namespace Go.AL
set_option linter.unusedVariables false
theorem awl_soft {P : Program} {σ : ASt} {D : List Deferred} {Q : Exit → List AV → ASt → Prop} {fr : List AV} {ops : Array Oper} {l : List Oper} (i : Nat) {c c' : AV} (hi : fr[i]? = some c) (hc : ∀ G w v, Rep G w c v → Rep G w c' v) (h : AWL P D ops Q l (fr.set i c') σ) : AWL P D ops Q l fr σ := by
  intro G a w hs
  refine h G a w ⟨⟨by simpa using hs.tmps.1, fun j c1 v h1 hv => ?_⟩, hs.defers, hs.w⟩
  rw [List.getElem?_set] at h1
  split at h1
  · rename_i e
    subst e
    split at h1
    · obtain rfl := Option.some.inj h1
      exact hc G w v (hs.tmps.2 i c v hi hv)
    · cases h1
  · exact hs.tmps.2 j c1 v h1 hv
end Go.AL
/-! gridironlaw09.alive. -/
namespace Go.AL
open Go.Proofs
set_option linter.unusedSimpArgs false
set_option linter.unusedVariables false
/-- The program's arena, number 2 (maps 0 and 1), and some boxes and slices beside it. -/
def laS (room : Int) (es fs : List (AV × AV)) (c : Int) (bs ss : List (Nat × List AV)) (m : Nat) : ASt := ⟨fun i => if i = 2 then some [vi room, .map 0, .map 1, vi c] else lkN bs i, fun i => if i = 0 then some es else if i = 1 then some fs else none, fun i => lkN ss i, m⟩
section
variable (room : Int) (es fs : List (AV × AV)) (c : Int) (bs ss : List (Nat × List AV)) (m i : Nat)
@[simp] theorem laS_bx : (laS room es fs c bs ss m).bx i = if i = 2 then some [vi room, .map 0, .map 1, vi c] else lkN bs i := rfl
@[simp] theorem laS_mp : (laS room es fs c bs ss m).mp i = if i = 0 then some es else if i = 1 then some fs else none := rfl
@[simp] theorem laS_sl : (laS room es fs c bs ss m).sl i = lkN ss i := rfl
@[simp] theorem laS_next : (laS room es fs c bs ss m).next = m := rfl
end
theorem le_laS {room : Int} {es fs : List (AV × AV)} {c : Int} {bs ss : List (Nat × List AV)} {m : Nat} {σ : ASt} (h1 : σ.bx 2 = some [vi room, .map 0, .map 1, vi c]) (h3 : σ.mp 0 = some es) (h4 : σ.mp 1 = some fs) (h5 : ∀ p ∈ ss, σ.sl p.1 = some p.2) (h7 : ∀ p ∈ bs, σ.bx p.1 = some p.2) (h8 : σ.next ≤ m) : (laS room es fs c bs ss m).Le σ where
  bx := fun i cs e => by
    simp only [laS_bx] at e
    split at e
    · rename_i hi; subst hi; rw [h1]; exact e
    · exact h7 _ (lkN_mem e)
  mp := fun i cs e => by
    simp only [laS_mp] at e
    split at e
    · rename_i hi; subst hi; rw [h3]; exact e
    · split at e
      · rename_i hi; subst hi; rw [h4]; exact e
      · cases e
  sl := fun i cs e => h5 _ (lkN_mem e)
  next := h8
section
variable {room : Int} {es fs : List (AV × AV)} {c : Int} {bs ss : List (Nat × List AV)} {m : Nat}
theorem at_laS (h1 : ∀ p ∈ bs, 2 < p.1) (h2 : ∀ p ∈ ss, 2 < p.1) : ArAt (laS room es fs c bs ss m) 2 0 1 room es fs c := by
  have b0 : lkN bs 0 = none := lkN_lo fun p hp => by have := h1 p hp; omega
  have b1 : lkN bs 1 = none := lkN_lo fun p hp => by have := h1 p hp; omega
  have s0 : lkN ss 0 = none := lkN_lo fun p hp => by have := h2 p hp; omega
  have s1 : lkN ss 1 = none := lkN_lo fun p hp => by have := h2 p hp; omega
  have s2 : lkN ss 2 = none := lkN_lo fun p hp => by have := h2 p hp; omega
  exact ⟨by simp, by simp, by simp, by omega, by omega, by omega, by simp [s2], by simp [b0, s0], by simp [b1, s1]⟩
@[simp] theorem laS_ar (es' fs' : List (AV × AV)) (c' : Int) : (laS room es fs c bs ss m).ar 2 0 1 room es' fs' c' = laS room es' fs' c' bs ss m := by
  unfold ASt.ar laS
  congr 1
  · funext i
    by_cases h : i = 2
    · subst h; simp [upd]
    · simp [upd, h]
  · funext i
    by_cases h2 : i = 1
    · subst h2; simp [upd]
    · by_cases h1 : i = 0
      · subst h1; simp [upd]
      · simp [upd, h1, h2]
end
/-- A node as a text has it: what is nil is empty. -/
def ndS (p : Nd × Bool × Bool) : AV := .agg [vi p.1.k, if p.2.1 = true then .p (.slice none 0 0) else .vsl (p.1.refs.map vi), if p.2.2 = true then .p (.slice none 0 0) else .vsl (p.1.nums.map vi), vs p.1.text]
theorem rep_ndS {G : Ghost} {w : World} {l : List (Nd × Bool × Bool)} (h : ∀ p ∈ l, (p.2.1 = true → p.1.refs = []) ∧ (p.2.2 = true → p.1.nums = [])) {v : Value} (hr : Rep G w (.vsl (l.map ndS)) v) : Rep G w (.vsl (l.map fun p => ndA p.1)) v := by
  have soft : ∀ (i j : Nat) c', rowCell (l.map fun p => ndA p.1) i j = some c' → ∃ c, rowCell (l.map ndS) i j = some c ∧ ∀ u, Rep G w c u → Rep G w c' u := by
    intro i j c' hc
    unfold rowCell at hc ⊢
    rw [List.getElem?_map] at hc ⊢
    cases hl : l[i]? with
    | none => rw [hl] at hc; cases hc
    | some p =>
      rw [hl] at hc
      obtain ⟨h1, h2⟩ := h p (List.mem_of_getElem? hl)
      simp only [Option.map_some, Option.bind_some] at hc ⊢
      match j, hc with
      | 0, hc => cases hc; exact ⟨_, rfl, fun u hu => hu⟩
      | 1, hc =>
        cases hc
        refine ⟨_, rfl, fun u hu => ?_⟩
        split at hu
        · rename_i e; rw [h1 e]; exact rep_nil hu
        · exact hu
      | 2, hc =>
        cases hc
        refine ⟨_, rfl, fun u hu => ?_⟩
        split at hu
        · rename_i e; rw [h2 e]; exact rep_nil hu
        · exact hu
      | 3, hc => cases hc; exact ⟨_, rfl, fun u hu => hu⟩
      | j + 4, hc => simp [ndA, AV.cells] at hc
  generalize hx : l.map ndS = xs at hr
  cases hr with
  | vnil a cap =>
    obtain rfl := List.map_eq_nil_iff.1 hx
    exact .vnil a cap
  | vsl _ β o s cap val hcap hs h1 h2 =>
    subst hx
    rw [show (l.map ndS).length = (l.map fun p => ndA p.1).length by simp]
    refine .vsl _ β o s cap val (by simpa using hcap) (fun i x hx => ?_) (fun i j c hc => ?_) (fun i j c hc => ?_)
    · rw [List.getElem?_map] at hx
      obtain ⟨p, hp, rfl⟩ := Option.map_eq_some_iff.1 hx
      have := hs i (ndS p) (by rw [List.getElem?_map, hp]; rfl)
      rw [← this]; rfl
    · obtain ⟨c0, q1, _⟩ := soft i j c hc
      exact h1 i j c0 q1
    · obtain ⟨c0, q1, q2⟩ := soft i j c hc
      exact q2 _ (h2 i j c0 q1)
set_option maxHeartbeats 16000000 in
set_option maxRecDepth 100000 in
theorem alive9_ok : APure Tryd.prog 6 [] (vb true) := by
  obtain ⟨s1, q1, hs1, ai1, g1, m1⟩ := alive_s1
  refine apure_in Tryd.func6 Tryd.ntmps6 rfl ?_
  repeat' first | refine aw_N [13] trivial trivial ?_ | refine aw_cond rfl (fun h => ?_) (fun h => ?_)
  refine awl_cons rfl (opq_call rfl rfl rfl ((anew_ok 3 (by omega) _).mono fun r τ ⟨e1, e2⟩ => ?_))
  subst e1 e2
  refine AWL.less (τ := laS 3 (esK ndA []) (esT vi []) 1 [] [] 3) (le_laS (by simp [ASt.addMp, ASt.addBx, σ0]) (by simp [ASt.addMp, ASt.addBx, σ0, esK, upd]) (by simp [ASt.addMp, ASt.addBx, σ0, esT, upd]) (by simp) (by simp) (by simp [ASt.addMp, ASt.addBx, σ0])) ?_
  refine awl_run' [13] ?_
  simp -implicitDefEqProofs
  repeat' first | refine aw_N [13] trivial trivial ?_ | refine aw_cond rfl (fun h => ?_) (fun h => ?_)
  have c1 := aputOk_ok [] [] 3 1 [nA, nB, nA] (lok_of AI.empty (by simp) (by simp) (by intro x hx; simp at hx; rcases hx with rfl | rfl | rfl <;> first | exact okA | exact okB)) (by decide) s1 q1 (by omega)
  rw [hs1] at c1
  refine awl_soft 26 (c' := .vsl ([nA, nB, nA].map ndA)) rfl (fun G w v h => rep_ndS (l := [(nA, true, true), (nB, false, false), (nA, true, true)]) (by simp [nA, nB, nC, nD, nE, nF]) h) ?_
  simp -implicitDefEqProofs only [List.set]
  refine awl_ar [13] rfl rfl rfl (by kernel_rfl) c1 rfl (cl_one (.vsl _ (cl_nds _))) (cl_tup2 (cl_vis _) (.p _)) (cl_esN _) (cl_esT _) (cl_esN _) (cl_esT _) (at_laS (by simp) (by simp)) ?_
  simp -implicitDefEqProofs
  repeat' first | refine aw_N [13] trivial trivial ?_ | refine aw_cond rfl (fun h => ?_) (fun h => ?_)
  obtain ⟨s2, d2, q2, m2, e2, ai2, g2⟩ := alive_s2 ai1 g1 m1
  have c2 := aputFull_ok s1.M s1.N 3 s1.c [nC, nD] (lok_of ai1 (by omega) (by simp) (by intro x hx; simp at hx; rcases hx with rfl | rfl <;> first | exact okC | exact okD)) (by simp [badL, nC, nD]) s2 q2 (by omega) d2 e2
  refine awl_soft 34 (c' := .vsl ([nC, nD].map ndA)) rfl (fun G w v h => rep_ndS (l := [(nC, true, true), (nD, true, true)]) (by simp [nA, nB, nC, nD, nE, nF]) h) ?_
  simp -implicitDefEqProofs only [List.set]
  refine awl_ar [13] rfl rfl rfl (by kernel_rfl) c2 rfl (cl_one (.vsl _ (cl_nds _))) (cl_tup2 (.p _) (.p _)) (cl_esN _) (cl_esT _) (cl_esN _) (cl_esT _) (at_laS (by simp) (by simp)) ?_
  simp -implicitDefEqProofs
  repeat' first | refine aw_N [13] trivial trivial ?_ | refine aw_cond rfl (fun h => ?_) (fun h => ?_)
  have hm2 : d2.M.length = 2 := by
    have := livL_len d2.M
    rw [livL_is ai2.ndM (L := [1, 2]) (by simp) fun x => by
      rw [g2, got1]
      by_cases h1 : x = 1
      · simp [h1]
      · by_cases h2 : x = 2
        · simp [h2]
        · simp [h1, h2]] at this
    exact this.symm
  have c3 := aputBad_ok d2.M d2.N 3 d2.c [nF, nD] (lok_of ai2 (by omega) (by simp) (by intro x hx; simp at hx; rcases hx with rfl | rfl <;> first | exact okF | exact okD)) (by simp [badL, badR, nF, g2, got1])
  refine awl_soft 43 (c' := .vsl ([nF, nD].map ndA)) rfl (fun G w v h => rep_ndS (l := [(nF, false, true), (nD, true, true)]) (by simp [nA, nB, nC, nD, nE, nF]) h) ?_
  simp -implicitDefEqProofs only [List.set]
  refine awl_ar [13] rfl rfl rfl (by kernel_rfl) c3 rfl (cl_one (.vsl _ (cl_nds _))) (cl_tup2 (.p _) (.p _)) (cl_esN _) (cl_esT _) (cl_esN _) (cl_esT _) (at_laS (by simp) (by simp)) ?_
  simp -implicitDefEqProofs
  repeat' first | refine aw_N [13] trivial trivial ?_ | refine aw_cond rfl (fun h => ?_) (fun h => ?_)
  obtain ⟨D, d3, qD, lD, e3, ai3, g3, m3⟩ := alive_s3 ai2 g2
  have c4 := asweep_ok d2.M d2.N 3 d2.c ai2 [1] (by simp) (by simp [badS, g2, got1]) D qD d3 e3
  rw [lD] at c4
  refine awl_ar [13] rfl rfl rfl (by kernel_rfl) c4 rfl (cl_one (cl_vis [1])) (cl_tup2 (.p _) (.p _)) (cl_esN _) (cl_esT _) (cl_esN _) (cl_esT _) (at_laS (by simp) (by simp)) ?_
  simp -implicitDefEqProofs
  repeat' first | refine aw_N [13] trivial trivial ?_ | refine aw_cond rfl (fun h => ?_) (fun h => ?_)
  obtain ⟨s4, q4, hs4, ai4, g4, m4⟩ := alive_s4 ai3 g3 m3
  have c5 := aputOk_ok d3.M d3.N 3 d3.c [nE] (lok_of ai3 (by omega) (by simp) (by intro x hx; simp at hx; subst hx; exact okE)) (by simp [badL, badR, nE, g3, got3]) s4 q4 (by omega)
  rw [hs4] at c5
  refine awl_soft 57 (c' := .vsl ([nE].map ndA)) rfl (fun G w v h => rep_ndS (l := [(nE, false, true)]) (by simp [nA, nB, nC, nD, nE, nF]) h) ?_
  simp -implicitDefEqProofs only [List.set]
  refine awl_ar [13] rfl rfl rfl (by kernel_rfl) c5 rfl (cl_one (.vsl _ (cl_nds _))) (cl_tup2 (cl_vis _) (.p _)) (cl_esN _) (cl_esT _) (cl_esN _) (cl_esT _) (at_laS (by simp) (by simp)) ?_
  simp -implicitDefEqProofs
  repeat' first | refine aw_N [13] trivial trivial ?_ | refine aw_cond rfl (fun h => ?_) (fun h => ?_)
  have c6 := aget_ok s4.M (esT vi s4.N) (cl_esT _) 3 s4.c 2 nE g4 okE
  rw [show ndA nE = .agg [vi 7, .vsl [vi 1], .vsl [], vs ⟨#[]⟩] from rfl] at c6
  refine awl_ar [13] rfl rfl rfl (by kernel_rfl) c6 rfl (cl_one (.p _)) (cl_tup2 (by have := cl_ndA nE; exact this) (.p _)) (cl_esN _) (cl_esT _) (cl_esN _) (cl_esT _) (at_laS (by simp) (by simp)) ?_
  simp -implicitDefEqProofs
  repeat' first | refine aw_N [13] trivial trivial ?_ | refine aw_cond rfl (fun h => ?_) (fun h => ?_)
  refine awl_unopt 147 (c := .ptr 2 0) rfl ?_
  simp -implicitDefEqProofs only [List.set]
  refine AWL.less (τ := laS 3 (esK ndA s4.M) (esT vi s4.N) s4.c [] [] 4) (le_laS (by simp [upd]) (by simp) (by simp) (by simp) (by simp) (by simp)) ?_
  have c7 := alen_ok s4.M (esT vi s4.N) 3 s4.c
  rw [m4] at c7
  refine awl_ar [13] rfl rfl rfl (by kernel_rfl) c7 rfl (by simp) (.p _) (cl_esN _) (cl_esT _) (cl_esN _) (cl_esT _) (at_laS (by simp) (by simp)) ?_
  simp -implicitDefEqProofs
  repeat' first | refine aw_N [13] trivial trivial ?_ | refine aw_cond rfl (fun h => ?_) (fun h => ?_)
  refine awl_unopt 152 (c := .ptr 2 0) rfl ?_
  simp -implicitDefEqProofs only [List.set]
  refine awl_ar [13] rfl rfl rfl (by kernel_rfl) (aroom_ok _ _ 3 s4.c) rfl (by simp) (.p _) (cl_esN _) (cl_esT _) (cl_esN _) (cl_esT _) (at_laS (by simp) (by simp)) ?_
  simp -implicitDefEqProofs
  repeat' first | refine aw_N [13] trivial trivial ?_ | refine aw_cond rfl (fun h => ?_) (fun h => ?_)
  all_goals first | rfl | (simp [tupOf]; done) | trace_state
end Go.AL
/-! make of a slice, in a region that draws. -/
namespace Go.AL
set_option linter.unusedVariables false
set_option linter.unusedSimpArgs false
variable {P : Program} {σ : ASt} {D : List Deferred} {Q : Exit → List AV → ASt → Prop} {fr : List AV} {o : Oper} {rest : List Oper}
theorem zl_makeS {mu imp : List Nat} {l : List Oper} {K : List AV → ASt → Prop} {i : Nat} {old : List ASt} {pd : List Pend} {t : TypeId} {lo co : Operand} (hz : zst mu imp o = true) (ho : o.op = .makeSlice t lo co) (hg : o.guard = none) {n : Nat} {kl kc : IntKind} (hl : aev fr lo = .p (.int kl n)) (hc : aev fr co = .p (.int kc n)) {el : TypeId} {sz by_ : Nat} {g : Bool} {z : AV}
    (ht : telem P t = some (sz, g, by_)) (hel : telemT P t = some el) (hz0 : tzero P el = some z) (hzn : z.cells.length = sz) (hpos : 0 < sz) (hB : by_ * n ≤ 281474976710656) (hS : n ≤ 9223372036854775807)
    (hk2 : pendOk P mu imp l (old.length + 1) (σ.addSl (List.replicate n z)) pd ∧ Shut (ZRun P mu imp l K (i + 1) rest (aput fr o.dst (.hsl σ.next 0 n)) (σ.addSl (List.replicate n z)) (σ :: old) pd)) : ZS P mu imp l K i (o :: rest) fr σ old pd := by
  intro hok
  unfold ZL; rw [if_pos hz]
  refine ⟨_, _, yldT_opq hg fun ρ hρ => ?_, pendOk_yld hok hk2.1, zl_run hk2.2.out hok⟩
  have e1 : ρ lo = aev fr lo := hρ lo (by rw [ho]; simp [Op.operands])
  have e2 : ρ co = aev fr co := hρ co (by rw [ho]; simp [Op.operands])
  exact opq_makeS ho (e1.trans hl) (e2.trans hc) ht hel hz0 hzn hpos hB hS ⟨rfl, rfl⟩
end Go.AL
