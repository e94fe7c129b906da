/- Parts of the proof of GraphBehind: the logic, contracts, plain laws. -/
import Derived.Test.YtofopejmidlceaaZGraphBehind15
/-! Contracts: graph's cycle, Cyclic; a number put into what is nil, or not. -/
namespace Go.AL
open Go.Proofs
set_option linter.unusedSimpArgs false
set_option linter.unusedVariables false
open Classical in
noncomputable def onCyc (L : List Lnk) (n : Int) : Bool := decide (n ∈ hangL L [n])
noncomputable def cycL (L : List Lnk) : List Int := (nodesL L).filter fun n => onCyc L n
theorem hangL_len (L : List Lnk) (on : List Int) : (hangL L on).length ≤ L.length := by
  unfold hangL
  rw [sortI_len]
  refine Nat.le_trans (List.length_filter_le _ _) ?_
  simp
set_option maxHeartbeats 8000000 in
set_option maxRecDepth 100000 in
theorem gcycle_ok {L : List Lnk} (hL : GOk L) (n : Int) : APure Try.prog 30 [gV L, vi n] (vb (onCyc L n)) := by
  have hh := ghang_ok hL [n] (by simp)
  have hhl := hangL_len L [n]
  have hLl := hL.len
  have hc := icontains_ok (hangL L [n]) n (by omega)
  have hd : decide (n ∈ hangL L [n]) = onCyc L n := by unfold onCyc; rw [decide_eq_decide]
  rw [hd] at hc
  generalize hangL L [n] = l at *
  generalize onCyc L n = r at *
  simp only [List.map_cons, List.map_nil] at hh
  refine apure_in Try.func30 Try.ntmps30 rfl ?_
  repeat' first | refine aw_N [] trivial (And.intro @hh (And.intro @hc trivial)) ?_ | refine aw_cond rfl (fun h => ?_) (fun h => ?_)
  all_goals first | rfl | (simp [tupOf]; done) | trace_state
set_option maxHeartbeats 8000000 in
set_option maxRecDepth 100000 in
theorem gcyclic1_ok {L : List Lnk} (hL : GOk L) (n : Int) : BK Try.prog 29 [vi n, .ptr 0 0] [gV L] (vb (!onCyc L n)) [gV L] := by
  have hc := gcycle_ok hL n
  generalize onCyc L n = r at *
  refine ⟨?_, by simp, by simp, by simp⟩
  refine bc_of Try.func29 Try.ntmps29 rfl ?_
  simp only [List.length_cons, List.length_nil, List.cons_append, List.nil_append, List.replicate]
  repeat' first | refine aw_N [] trivial (And.intro @hc trivial) ?_ | refine aw_cond rfl (fun h => ?_) (fun h => ?_)
  exact ⟨rfl, rfl⟩
set_option maxHeartbeats 8000000 in
set_option maxRecDepth 100000 in
theorem gorder1_ok (l : List Int) (hl : l.length ≤ 1000) (n : Int) : BK Try.prog 32 [vi n, .ptr 0 0] [.vsl (l.map vi)] (vb (decide (n ∈ l))) [.vsl (l.map vi)] := by
  have hc := icontains_ok l n (by omega)
  refine ⟨?_, by simp, by simp, by simp⟩
  refine bc_of Try.func32 Try.ntmps32 rfl ?_
  simp only [List.length_cons, List.length_nil, List.cons_append, List.nil_append, List.replicate]
  repeat' first | refine aw_N [] trivial (And.intro @hc trivial) ?_ | refine aw_cond rfl (fun h => ?_) (fun h => ?_)
  exact ⟨rfl, rfl⟩
set_option maxHeartbeats 8000000 in
set_option maxRecDepth 100000 in
theorem gcyclic_ok {L : List Lnk} (hL : GOk L) : APure Try.prog 13 [gV L] (.vsl ((cycL L).map vi)) := by
  have hgc : Cl (gV L) := by simp
  have hnl := nodesL_len L
  have hLl := hL.len
  refine apure_in Try.func13 Try.ntmps13 rfl ?_
  repeat' first | refine aw_N [1] trivial trivial ?_ | refine aw_cond rfl (fun h => ?_) (fun h => ?_)
  refine awl_cons rfl (opq_call rfl rfl rfl ((gnodesA_ok hL _).mono fun r τ ⟨e1, e2⟩ => ?_))
  subst e1 e2
  refine awl_run' [1] ?_
  simp -implicitDefEqProofs
  repeat' first | refine aw_N [1] trivial trivial ?_ | refine aw_cond rfl (fun h => ?_) (fun h => ?_)
  have hd := ideleteC_ok (fq := 29) (by kernel_rfl) (σ := ((σ0.addBx [gV L]).addBx [mapV (readsM L)]).addSl ((nodesL L).map vi)) (cs := [gV L]) (p := fun n => !onCyc L n) (l := nodesL L) (fun z _ => gcyclic1_ok hL z) (by omega) (by simp) (b := 0) (k := 2) (by simp [ASt.addBx, ASt.addSl, upd, σ0]) (by simp [ASt.addBx, ASt.addSl, upd, σ0]) (by omega) (by simp [ASt.addBx, ASt.addSl, upd, σ0])
  rw [hnl] at hd
  refine awl_cons rfl (opq_call rfl rfl rfl (hd.mono fun r τ ⟨e1, e2⟩ => ?_))
  subst e1 e2
  refine awl_run' [1] ?_
  simp -implicitDefEqProofs
  repeat' first | refine aw_N [1] trivial trivial ?_ | refine aw_cond rfl (fun h => ?_) (fun h => ?_)
  all_goals first | (simp [tupOf, cycL]; done) | trace_state
end Go.AL
/-! Nil, taken as an empty slice of the function's own. -/
namespace Go.AL
open Go.RowKit (Below)
set_option linter.unusedVariables false
set_option linter.unusedSimpArgs false
variable {P : Program} {σ : ASt} {D : List Deferred} {Q : Exit → List AV → ASt → Prop} {fr : List AV}
theorem aw_nilH {c : Code} {i : Nat} (hi : fr[i]? = some (.p (.slice none 0 0))) (h : AW P D c Q (fr.set i (.hsl σ.next 0 0)) (σ.addSl [])) : AW P D c Q fr σ := by
  intro r iR G a w hs
  obtain ⟨G', h1, h2, h3⟩ := new_nil hs.w w (Below.refl _ _) none
  have hr := hs.tmps.mono h1
  refine wp_mono (h r iR G' a w ⟨⟨by simpa using hr.1, fun j c v hc hv => ?_⟩, hs.defers.mono h1, h2⟩) fun e a w h => lift_le h1 h
  rw [List.getElem?_set] at hc
  split at hc
  · rename_i e
    subst e
    split at hc
    · obtain rfl := Option.some.inj hc
      have := hr.2 i _ v hi hv
      cases this
      exact h3
    · cases hc
  · exact hr.2 j c v hc hv
end Go.AL
/-! The order of a graph, plainly. -/
namespace Go.AL
open Go.Proofs
set_option linter.unusedSimpArgs false
set_option linter.unusedVariables false
noncomputable def plainL (L : List Lnk) : List Int := (nodesL L).filter fun n => !onCyc L n
def redL (L : List Lnk) (n : Int) : List Int := (gotK (readsM L) n).getD []
/-- How many of those that are read are plain, and not told. -/
def wtc (P : List Int) (o l : List Int) : Nat := (l.filter fun x => decide (x ∈ P) && !decide (x ∈ o)).length
noncomputable def wtL (L : List Lnk) (o : List Int) (n : Int) : Nat := wtc (plainL L) o (redL L n)
noncomputable def rdyL (L : List Lnk) (o : List Int) : List Int := (plainL L).filter fun y => !decide (y ∈ o) && decide (wtL L o y = 0)
noncomputable def ordI (L : List Lnk) : Nat → List Int
  | 0 => []
  | i + 1 => ordI L i ++ (rdyL L (ordI L i)).head?.toList
noncomputable def ordL (L : List Lnk) : List Int := ordI L L.length
theorem plainL_lt {L : List Lnk} (hn : (L.map Prod.fst).Nodup) : (plainL L).Pairwise (· < ·) := (sortI_lt hn).filter _
theorem plainL_len (L : List Lnk) : (plainL L).length ≤ L.length := by
  rw [← nodesL_len L]; exact List.length_filter_le _ _
theorem plainL_node {L : List Lnk} {y : Int} (h : y ∈ plainL L) : ∃ p ∈ L, p.1 = y := by
  have := (List.mem_filter.1 h).1
  rw [nodesL, sortI_mem] at this
  obtain ⟨p, hp, e⟩ := List.mem_map.1 this
  exact ⟨p, hp, e⟩
theorem key_inj {L : List Lnk} (hn : (L.map Prod.fst).Nodup) {p q : Lnk} (hp : p ∈ L) (hq : q ∈ L) (e : p.1 = q.1) : p = q := by
  induction L with
  | nil => cases hp
  | cons c L ih =>
    simp only [List.map_cons, List.nodup_cons] at hn
    rcases List.mem_cons.1 hp with h1 | hp' <;> rcases List.mem_cons.1 hq with h2 | hq'
    · rw [h1, h2]
    · subst h1; exact (hn.1 (List.mem_map.2 ⟨q, hq', e.symm⟩)).elim
    · subst h2; exact (hn.1 (List.mem_map.2 ⟨p, hp', e⟩)).elim
    · exact ih hn.2 hp' hq'
theorem redL_of {L : List Lnk} (hn : (L.map Prod.fst).Nodup) {p : Lnk} (hp : p ∈ L) : redL L p.1 = csL p.2 := by
  unfold redL; rw [got_readsM hn hp]; rfl
theorem redL_nodup {L : List Lnk} (hn : (L.map Prod.fst).Nodup) {y : Int} (hy : y ∈ plainL L) : (redL L y).Nodup := by
  obtain ⟨p, hp, rfl⟩ := plainL_node hy
  rw [redL_of hn hp]
  exact lt_nodup (csL_lt _)
theorem rdL_red {L : List Lnk} (hn : (L.map Prod.fst).Nodup) {y n : Int} (hy : y ∈ plainL L) : y ∈ rdL L n ↔ n ∈ redL L y := by
  obtain ⟨p, hp, rfl⟩ := plainL_node hy
  rw [redL_of hn hp, csL_mem, mem_rdL]
  constructor
  · rintro ⟨q, hq, h1, h2⟩
    rw [← key_inj hn hq hp h2]; exact h1
  · intro h; exact ⟨p, hp, h, rfl⟩
theorem rdL_nodup {L : List Lnk} (hn : (L.map Prod.fst).Nodup) (n : Int) : (rdL L n).Nodup := by
  unfold rdL
  exact hn.sublist (List.Sublist.map _ List.filter_sublist)
theorem wtc_step (P o : List Int) {n : Int} (hP : n ∈ P) (ho : n ∉ o) : ∀ l : List Int, l.Nodup → wtc P o l = wtc P (o ++ [n]) l + if n ∈ l then 1 else 0
  | [], _ => rfl
  | x :: l, hl => by
    obtain ⟨h1, h2⟩ := List.nodup_cons.1 hl
    have ih := wtc_step P o hP ho l h2
    unfold wtc at ih ⊢
    by_cases e : x = n
    · subst e
      have hx : ¬ x ∈ l := h1
      rw [if_neg hx] at ih
      simp [hP, ho, ih]
    · have e' : ¬ n = x := fun h => e h.symm
      by_cases hc : x ∈ P ∧ x ∉ o
      · have hc1 : (decide (x ∈ P) && !decide (x ∈ o)) = true := by simp [hc.1, hc.2]
        have hc2 : (decide (x ∈ P) && !decide (x ∈ o ++ [n])) = true := by simp [hc.1, hc.2, e]
        rw [List.filter_cons_of_pos (by simp only [hc1]), List.filter_cons_of_pos (by simp only [hc2]), List.length_cons, List.length_cons, ih]
        simp only [List.mem_cons, e', false_or]
        omega
      · have hc1 : (decide (x ∈ P) && !decide (x ∈ o)) = false := by
          by_cases h : x ∈ P
          · have : x ∈ o := Classical.not_not.1 fun h' => hc ⟨h, h'⟩
            simp [this]
          · simp [h]
        have hc2 : (decide (x ∈ P) && !decide (x ∈ o ++ [n])) = false := by
          by_cases h : x ∈ P
          · have : x ∈ o := Classical.not_not.1 fun h' => hc ⟨h, h'⟩
            simp [this]
          · simp [h]
        rw [List.filter_cons_of_neg (by simp only [hc1]; decide), List.filter_cons_of_neg (by simp only [hc2]; decide), ih]
        simp [e']
theorem wtL_step {L : List Lnk} (hn : (L.map Prod.fst).Nodup) {o : List Int} {n y : Int} (hP : n ∈ plainL L) (ho : n ∉ o) (hy : y ∈ plainL L) : wtL L o y = wtL L (o ++ [n]) y + if y ∈ rdL L n then 1 else 0 := by
  have := wtc_step (plainL L) o hP ho (redL L y) (redL_nodup hn hy)
  simp only [rdL_red hn hy]
  exact this
/-! ### with -/
theorem lowI_front (l : List Int) (x : Int) : ∀ y ∈ l.take (lowI l x), y < x := by
  have : l.take (lowI l x) = l.takeWhile fun y => decide (y < x) := by
    unfold lowI
    induction l with
    | nil => rfl
    | cons a l ih =>
      by_cases h : a < x
      · simp [List.takeWhile_cons, h, ih]
      · simp [List.takeWhile_cons, h]
  intro y hy
  rw [this] at hy
  have := List.all_eq_true.1 (List.all_takeWhile (p := fun y => decide (y < x)) (l := l)) y hy
  simpa using this
theorem lowI_back {l : List Int} {x : Int} (hs : l.Pairwise (· < ·)) : ∀ y ∈ l.drop (lowI l x), x ≤ y := by
  induction l with
  | nil => simp
  | cons a l ih =>
    obtain ⟨h1, h2⟩ := List.pairwise_cons.1 hs
    intro y hy
    unfold lowI at hy
    by_cases h : a < x
    · simp only [List.takeWhile_cons, decide_eq_true h, if_true, List.length_cons, List.drop_succ_cons] at hy
      exact ih h2 y hy
    · simp only [List.takeWhile_cons, decide_eq_false h, Bool.false_eq_true, if_false, List.length_nil, List.drop_zero] at hy
      rcases List.mem_cons.1 hy with rfl | hy
      · omega
      · have := h1 y hy; omega
theorem withI_mem (l : List Int) (x y : Int) : y ∈ withI l x ↔ y = x ∨ y ∈ l := by
  unfold withI insAt
  rw [List.mem_append, List.mem_cons]
  have := List.take_append_drop (lowI l x) l
  constructor
  · rintro (h | h | h)
    · exact .inr (List.mem_of_mem_take h)
    · exact .inl h
    · exact .inr (List.mem_of_mem_drop h)
  · rintro (h | h)
    · exact .inr (.inl h)
    · rw [← this] at h
      exact (List.mem_append.1 h).imp id .inr
theorem withI_lt {l : List Int} {x : Int} (hs : l.Pairwise (· < ·)) (hx : x ∉ l) : (withI l x).Pairwise (· < ·) := by
  unfold withI insAt
  rw [List.pairwise_append]
  refine ⟨hs.sublist (List.take_sublist _ _), ?_, fun a ha b hb => ?_⟩
  · rw [List.pairwise_cons]
    refine ⟨fun y hy => ?_, hs.sublist (List.drop_sublist _ _)⟩
    have h1 := lowI_back hs y hy
    have h2 : x ≠ y := fun e => hx (e ▸ List.mem_of_mem_drop hy)
    omega
  · have h1 := lowI_front l x a ha
    rcases List.mem_cons.1 hb with rfl | hb
    · exact h1
    · have := lowI_back hs b hb; omega
theorem with_filter {P : List Int} (hP : P.Pairwise (· < ·)) {q q' : Int → Bool} {x : Int} (hx : x ∈ P) (hq : q x = false) (hq' : ∀ y ∈ P, q' y = (q y || decide (y = x))) : withI (P.filter q) x = P.filter q' := by
  refine rise_ext (withI_lt (hP.filter _) fun h => ?_) (hP.filter _) fun y => ?_
  · have := (List.mem_filter.1 h).2; rw [hq] at this; cases this
  · rw [withI_mem, List.mem_filter, List.mem_filter]
    constructor
    · rintro (rfl | ⟨h1, h2⟩)
      · exact ⟨hx, by rw [hq' y hx]; simp⟩
      · exact ⟨h1, by rw [hq' y h1, h2]; rfl⟩
    · rintro ⟨h1, h2⟩
      rw [hq' y h1, Bool.or_eq_true, decide_eq_true_eq] at h2
      exact h2.elim (fun h => .inr ⟨h1, h⟩) .inl
/-! ### the order -/
structure OrdOk (L : List Lnk) (o : List Int) : Prop where
  eq : o = ordI L o.length
  sub : ∀ y ∈ o, y ∈ plainL L
  nd : o.Nodup
  zero : ∀ y ∈ o, wtL L o y = 0
theorem OrdOk.nil (L : List Lnk) : OrdOk L [] := ⟨rfl, by simp, by simp, by simp⟩
theorem sub_len {l : List Int} : ∀ {S : List Int}, S.Nodup → (∀ x ∈ S, x ∈ l) → S.length ≤ l.length
  | [], _, _ => Nat.zero_le _
  | x :: S, hn, hs => by
    obtain ⟨h1, h2⟩ := List.nodup_cons.1 hn
    have hx := hs x List.mem_cons_self
    have := sub_len (l := l.erase x) h2 fun y hy => (List.mem_erase_of_ne (fun e => h1 (by rw [← e]; exact hy))).2 (hs y (List.mem_cons_of_mem _ hy))
    rw [List.length_erase_of_mem hx] at this
    have hl : 0 < l.length := List.length_pos_of_mem hx
    simp; omega
theorem OrdOk.len {L : List Lnk} {o : List Int} (h : OrdOk L o) : o.length ≤ (plainL L).length := sub_len h.nd h.sub
theorem mem_rdyL {L : List Lnk} {o : List Int} {y : Int} : y ∈ rdyL L o ↔ y ∈ plainL L ∧ y ∉ o ∧ wtL L o y = 0 := by
  unfold rdyL
  rw [List.mem_filter]
  simp
theorem OrdOk.step {L : List Lnk} (hn : (L.map Prod.fst).Nodup) {o : List Int} {n : Int} (h : OrdOk L o) (hr : (rdyL L o).head? = some n) : OrdOk L (o ++ [n]) := by
  obtain ⟨hP, ho, hz⟩ := mem_rdyL.1 (List.mem_of_mem_head? hr)
  have mono : ∀ y ∈ plainL L, wtL L o y = 0 → wtL L (o ++ [n]) y = 0 := fun y hy h0 => by
    have := wtL_step hn hP ho hy; omega
  refine ⟨?_, fun y hy => ?_, ?_, fun y hy => ?_⟩
  · rw [List.length_append, List.length_singleton, ordI, ← h.eq, hr]; rfl
  · rcases List.mem_append.1 hy with hy | hy
    · exact h.sub y hy
    · obtain rfl := List.mem_singleton.1 hy; exact hP
  · rw [List.nodup_append]
    refine ⟨h.nd, by simp, fun a ha b hb => ?_⟩
    obtain rfl := List.mem_singleton.1 hb
    exact fun e => ho (e ▸ ha)
  · rcases List.mem_append.1 hy with hy | hy
    · exact mono y (h.sub y hy) (h.zero y hy)
    · obtain rfl := List.mem_singleton.1 hy; exact mono y hP hz
theorem OrdOk.done {L : List Lnk} {o : List Int} (h : OrdOk L o) (hr : rdyL L o = []) : o = ordL L := by
  have key : ∀ k, ordI L (o.length + k) = o := by
    intro k
    induction k with
    | zero => exact h.eq.symm
    | succ k ih => rw [Nat.add_succ, ordI, ih, hr]; simp
  have hl := h.len
  have := plainL_len L
  have := key (L.length - o.length)
  rw [show o.length + (L.length - o.length) = L.length by omega] at this
  exact this.symm
theorem ordOk_ordI {L : List Lnk} (hn : (L.map Prod.fst).Nodup) : ∀ i, ∃ o, OrdOk L o ∧ ordI L i = o ∧ (o.length = i ∨ rdyL L o = [])
  | 0 => ⟨[], .nil L, rfl, .inl rfl⟩
  | i + 1 => by
    obtain ⟨o, h1, h2, h3⟩ := ordOk_ordI hn i
    rw [ordI, h2]
    cases hr : (rdyL L o).head? with
    | none =>
      refine ⟨o, h1, by simp, .inr ?_⟩
      exact List.head?_eq_none_iff.1 hr
    | some n =>
      rcases h3 with h3 | h3
      · exact ⟨o ++ [n], h1.step hn hr, by simp, .inl (by simp [h3])⟩
      · rw [h3] at hr; cases hr
/-- The order is whole: no one more is ready. -/
theorem ordL_ok {L : List Lnk} (hn : (L.map Prod.fst).Nodup) : OrdOk L (ordL L) ∧ rdyL L (ordL L) = [] := by
  obtain ⟨o, h1, h2, h3⟩ := ordOk_ordI hn L.length
  have he : ordL L = o := h2
  rw [he]
  refine ⟨h1, ?_⟩
  rcases h3 with h3 | h3
  · refine List.eq_nil_iff_forall_not_mem.2 fun y hy => ?_
    obtain ⟨hP, ho, _⟩ := mem_rdyL.1 hy
    have := sub_len (l := plainL L) (S := y :: o) (List.nodup_cons.2 ⟨ho, h1.nd⟩) (fun x hx => by
      rcases List.mem_cons.1 hx with rfl | hx
      · exact hP
      · exact h1.sub x hx)
    have h4 := plainL_len L
    simp at this; omega
  · exact h3
/-- Behind the head. -/
theorem rdyL_tail {L : List Lnk} (hn : (L.map Prod.fst).Nodup) {o : List Int} {n : Int} {r : List Int} (hr : rdyL L o = n :: r) : r = (plainL L).filter fun y => !decide (y ∈ o ++ [n]) && decide (wtL L (o ++ [n]) y + (if y ∈ (rdL L n).drop 0 then 1 else 0) = 0) := by
  have hs : (rdyL L o).Pairwise (· < ·) := (plainL_lt hn).filter _
  obtain ⟨hP, ho, hz⟩ := mem_rdyL.1 (hr ▸ List.mem_cons_self : n ∈ rdyL L o)
  rw [hr] at hs
  obtain ⟨hs1, hs2⟩ := List.pairwise_cons.1 hs
  refine rise_ext hs2 ((plainL_lt hn).filter _) fun y => ?_
  rw [List.mem_filter]
  have hm : y ∈ rdyL L o ↔ y = n ∨ y ∈ r := by rw [hr, List.mem_cons]
  constructor
  · intro hy
    obtain ⟨h1, h2, h3⟩ := mem_rdyL.1 (hm.2 (.inr hy))
    have hne : y ≠ n := fun e => by have := hs1 y hy; omega
    have := wtL_step hn hP ho h1
    refine ⟨h1, ?_⟩
    rw [List.drop_zero, ← this, h3]
    simp [h2, hne]
  · rintro ⟨h1, h2⟩
    rw [List.drop_zero, ← wtL_step hn hP ho h1] at h2
    simp at h2
    exact (hm.1 (mem_rdyL.2 ⟨h1, h2.1.1, h2.2⟩)).resolve_left h2.1.2
end Go.AL
/-! Contract: graph's Order. -/
namespace Go.AL
open Go.Proofs
set_option linter.unusedSimpArgs false
set_option linter.unusedVariables false
theorem gwithD_ok {σ : ASt} {b off : Nat} {us : List Int} (hb : σ.sl b = some (us.map vi)) (hbn : b < σ.next) (hn : off ≤ us.length) (x : Int) (hbig : us.length - off ≤ 1000000) (hs : (us.drop off).Pairwise (· < ·)) :
    ACall Try.prog 34 [.hsl b off (us.length - off), vi x] σ fun r τ => r = .hsl (σ.next + 1) 0 (withI (us.drop off) x).length ∧ τ = (((σ.addSl [vi x]).dropSl b).addSl ((withI (us.drop off) x).map vi)) := by
  have ht : (us.drop off).take (us.length - off) = us.drop off := List.take_of_length_le (by simp)
  have h := gwith_ok hb hbn (off := off) (m := us.length - off) (by omega) x hbig (by rw [ht]; exact hs.imp fun h => by omega)
  rw [ht] at h
  rw [withI_len, List.length_drop]
  exact h
def oS (W : List (Int × Int)) (b : Nat) (us : List Int) (c : Nat) (vs : List Int) (m : Nat) : ASt := ⟨fun _ => none, fun i => if i = 3 then some (esK vi W) else none, fun i => if i = b then some (us.map vi) else if i = c then some (vs.map vi) else none, m⟩
section
variable (W : List (Int × Int)) (b : Nat) (us : List Int) (c : Nat) (vs : List Int) (m i : Nat)
@[simp] theorem oS_bx : (oS W b us c vs m).bx i = none := rfl
@[simp] theorem oS_mp : (oS W b us c vs m).mp i = if i = 3 then some (esK vi W) else none := rfl
@[simp] theorem oS_sl : (oS W b us c vs m).sl i = if i = b then some (us.map vi) else if i = c then some (vs.map vi) else none := rfl
@[simp] theorem oS_next : (oS W b us c vs m).next = m := rfl
end
theorem le_oS {W : List (Int × Int)} {b : Nat} {us : List Int} {c : Nat} {vs : List Int} {m : Nat} {σ : ASt} (h1 : σ.mp 3 = some (esK vi W)) (h2 : σ.sl b = some (us.map vi)) (h4 : c ≠ b → σ.sl c = some (vs.map vi)) (h3 : σ.next ≤ m) : (oS W b us c vs m).Le σ where
  bx := fun i c e => by cases e
  mp := fun i c e => by
    simp only [oS_mp] at e
    split at e
    · rename_i hi; subst hi; rw [h1]; exact e
    · cases e
  sl := fun i x e => by
    simp only [oS_sl] at e
    split at e
    · rename_i hi; subst hi; rw [h2]; exact e
    · split at e
      · rename_i hn hi; subst hi; rw [h4 hn]; exact e
      · cases e
  next := h3
def WOk (P : List Int) (W : List (Int × Int)) (f : Int → Nat) : Prop := ∀ y ∈ P, (gotK W y).getD 0 = (f y : Int)
theorem WOk.put {P : List Int} {W : List (Int × Int)} {f f' : Int → Nat} (h : WOk P W f) (n : Int) (v : Nat) (hf : ∀ y ∈ P, f' y = if n = y then v else f y) : WOk P (putK W n (v : Int)) f' := fun y hy => by
  rw [gotK_put, hf y hy]
  split
  · rfl
  · exact h y hy
theorem WOk.out {P : List Int} {W : List (Int × Int)} {f f' : Int → Nat} (h : WOk P W f) {n : Int} (hn : n ∉ P) (v : Int) (hf : ∀ y ∈ P, f' y = f y) : WOk P (putK W n v) f' := fun y hy => by
  have hne : ¬ n = y := fun e => hn (by rw [e]; exact hy)
  rw [gotK_put, if_neg hne, hf y hy]
  exact h y hy
theorem WOk.congr {P : List Int} {W : List (Int × Int)} {f f' : Int → Nat} (h : WOk P W f) (hf : ∀ y ∈ P, f' y = f y) : WOk P W f' := fun y hy => by rw [hf y hy]; exact h y hy
noncomputable def f1 (L : List Lnk) (i : Nat) (y : Int) : Nat := if y ∈ (plainL L).take i then wtL L [] y else 0
noncomputable def f2 (L : List Lnk) (i : Nat) (n : Int) (j : Nat) (y : Int) : Nat := if y = n then wtc (plainL L) [] ((redL L n).take j) else f1 L i y
noncomputable def r1 (L : List Lnk) (i : Nat) : List Int := (plainL L).filter fun y => decide (y ∈ (plainL L).take i) && decide (wtL L [] y = 0)
noncomputable def f3 (L : List Lnk) (o : List Int) (n : Int) (j : Nat) (y : Int) : Nat := wtL L o y + if y ∈ (rdL L n).drop j then 1 else 0
noncomputable def r3 (L : List Lnk) (o : List Int) (n : Int) (j : Nat) : List Int := (plainL L).filter fun y => !decide (y ∈ o) && decide (f3 L o n j y = 0)
theorem redL_len {L : List Lnk} (hL : GOk L) {y : Int} (hy : y ∈ plainL L) : (redL L y).length ≤ 1000 := by
  obtain ⟨p, hp, rfl⟩ := plainL_node hy
  rw [redL_of hL.nd hp]
  exact Nat.le_trans (csL_len _) (hL.rlen p hp)
theorem got_redL {L : List Lnk} (hL : GOk L) {y : Int} (hy : y ∈ plainL L) : gotK (readsM L) y = some (redL L y) := by
  obtain ⟨p, hp, rfl⟩ := plainL_node hy
  rw [redL_of hL.nd hp, got_readsM hL.nd hp]
theorem wtc_le (P o l : List Int) : wtc P o l ≤ l.length := List.length_filter_le _ _
theorem nd_take {P : List Int} (h : P.Nodup) {i : Nat} {n : Int} (hn : P[i]? = some n) : n ∉ P.take i := fun hm => by
  obtain ⟨k, hk⟩ := List.getElem?_of_mem hm
  have hki : k < i := by
    have := (List.getElem?_eq_some_iff.1 hk).1
    simp at this; omega
  rw [List.getElem?_take_of_lt hki] at hk
  have h1 := (List.getElem?_eq_some_iff.1 hn)
  obtain ⟨h2, h3⟩ := List.getElem?_eq_some_iff.1 hk
  obtain ⟨h4, h5⟩ := h1
  have := (List.pairwise_iff_getElem.1 h) k i h2 h4 hki
  exact this (h3.trans h5.symm)
theorem f2_zero {L : List Lnk} (hn : (L.map Prod.fst).Nodup) {i : Nat} {n : Int} (hi : (plainL L)[i]? = some n) (y : Int) : f2 L i n 0 y = f1 L i y := by
  unfold f2
  split
  · rename_i e; subst e
    rw [f1, if_neg (nd_take (lt_nodup (plainL_lt hn)) hi)]; rfl
  · rfl
theorem f2_succ {L : List Lnk} {i : Nat} {n : Int} {j : Nat} {x : Int} (hx : (redL L n)[j]? = some x) (y : Int) : f2 L i n (j + 1) y = if n = y then (f2 L i n j n + if x ∈ plainL L then 1 else 0) else f2 L i n j y := by
  unfold f2
  by_cases e : y = n
  · subst e
    simp only [if_true]
    unfold wtc
    rw [List.take_add_one, hx, Option.toList_some, List.filter_append, List.length_append]
    congr 1
    by_cases h : x ∈ plainL L <;> simp [h]
  · have e' : ¬ n = y := fun h => e h.symm
    simp [e, e']
theorem f2_done {L : List Lnk} {i : Nat} {n : Int} {j : Nat} (hi : (plainL L)[i]? = some n) (hj : (redL L n).length ≤ j) (y : Int) : f1 L (i + 1) y = f2 L i n j y := by
  unfold f2
  rw [List.take_of_length_le hj]
  unfold f1
  rw [List.take_add_one, hi, Option.toList_some]
  simp only [List.mem_append, List.mem_singleton]
  by_cases e : y = n
  · subst e; simp [wtL]
  · simp [e]
theorem r1_succ {L : List Lnk} (hn : (L.map Prod.fst).Nodup) {i : Nat} {n : Int} (hi : (plainL L)[i]? = some n) : r1 L (i + 1) = if wtL L [] n = 0 then withI (r1 L i) n else r1 L i := by
  have hx := List.mem_of_getElem? hi
  have hnt := nd_take (lt_nodup (plainL_lt hn)) hi
  have htk : (plainL L).take (i + 1) = (plainL L).take i ++ [n] := by rw [List.take_add_one, hi, Option.toList_some]
  split
  · rename_i h0
    refine (with_filter (plainL_lt hn) hx (by simp [hnt]) fun y hy => ?_).symm
    rw [htk]
    by_cases e : y = n
    · subst e; simp [h0]
    · simp [e]
  · rename_i h0
    refine List.filter_congr fun y hy => ?_
    rw [htk]
    by_cases e : y = n
    · subst e; simp [h0]
    · simp [e]
theorem r1_whole (L : List Lnk) {i : Nat} (hi : (plainL L).length ≤ i) : r1 L i = rdyL L [] := by
  unfold r1 rdyL
  rw [List.take_of_length_le hi]
  refine List.filter_congr fun y hy => ?_
  simp [hy]
theorem drop_get' {D : List Int} {j : Nat} {x : Int} (hx : D[j]? = some x) : D.drop j = x :: D.drop (j + 1) := by
  obtain ⟨h, e⟩ := List.getElem?_eq_some_iff.1 hx
  rw [List.drop_eq_getElem_cons h, e]
theorem f3_succ {L : List Lnk} (hn : (L.map Prod.fst).Nodup) {o : List Int} {n : Int} {j : Nat} {x : Int} (hx : (rdL L n)[j]? = some x) (y : Int) : f3 L o n (j + 1) y = if x = y then wtL L o x else f3 L o n j y := by
  have hd := drop_get' hx
  have hnd : ((rdL L n).drop j).Nodup := (rdL_nodup hn n).sublist (List.drop_sublist _ _)
  rw [hd] at hnd
  have h1 := (List.nodup_cons.1 hnd).1
  unfold f3
  rw [hd]
  by_cases e : x = y
  · subst e; simp [h1]
  · have e' : ¬ y = x := fun h => e h.symm
    simp [e, e']
theorem f3_at {L : List Lnk} {o : List Int} {n : Int} {j : Nat} {x : Int} (hx : (rdL L n)[j]? = some x) : f3 L o n j x = wtL L o x + 1 := by
  unfold f3; rw [drop_get' hx]; simp
theorem r3_out {L : List Lnk} (hn : (L.map Prod.fst).Nodup) {o : List Int} {n : Int} {j : Nat} {x : Int} (hx : (rdL L n)[j]? = some x) (h : x ∉ plainL L ∨ wtL L o x ≠ 0) : r3 L o n (j + 1) = r3 L o n j := by
  refine List.filter_congr fun y hy => ?_
  rw [f3_succ hn hx]
  by_cases e : x = y
  · subst e
    have h := h.resolve_left fun h' => h' hy
    rw [if_pos rfl, f3_at hx]
    simp [h]
  · rw [if_neg e]
theorem r3_with {L : List Lnk} (hn : (L.map Prod.fst).Nodup) {o : List Int} {n : Int} {j : Nat} {x : Int} (hx : (rdL L n)[j]? = some x) (hP : x ∈ plainL L) (ho : x ∉ o) (h : wtL L o x = 0) : r3 L o n (j + 1) = withI (r3 L o n j) x := by
  refine (with_filter (plainL_lt hn) hP (by rw [f3_at hx]; simp) fun y hy => ?_).symm
  rw [f3_succ hn hx]
  by_cases e : x = y
  · subst e; simp [h, ho]
  · have e' : ¬ y = x := fun h => e h.symm
    simp [e, e']
theorem r3_done {L : List Lnk} {o : List Int} {n : Int} {j : Nat} (hj : (rdL L n).length ≤ j) : r3 L o n j = rdyL L o := by
  unfold r3 rdyL f3
  rw [List.drop_eq_nil_of_le hj]
  simp
theorem f3_done {L : List Lnk} {o : List Int} {n : Int} {j : Nat} (hj : (rdL L n).length ≤ j) (y : Int) : wtL L o y = f3 L o n j y := by
  unfold f3
  rw [List.drop_eq_nil_of_le hj]
  simp
theorem f3_zero {L : List Lnk} (hn : (L.map Prod.fst).Nodup) {o : List Int} {n : Int} (hP : n ∈ plainL L) (ho : n ∉ o) {y : Int} (hy : y ∈ plainL L) : f3 L (o ++ [n]) n 0 y = wtL L o y := by
  unfold f3
  rw [wtL_step hn hP ho hy, List.drop_zero]
theorem r1_lt {L : List Lnk} (hn : (L.map Prod.fst).Nodup) (i : Nat) : (r1 L i).Pairwise (· < ·) := (plainL_lt hn).filter _
theorem r3_lt {L : List Lnk} (hn : (L.map Prod.fst).Nodup) (o : List Int) (n : Int) (j : Nat) : (r3 L o n j).Pairwise (· < ·) := (plainL_lt hn).filter _
theorem r1_len (L : List Lnk) (i : Nat) : (r1 L i).length ≤ (plainL L).length := List.length_filter_le _ _
theorem r3_len (L : List Lnk) (o : List Int) (n : Int) (j : Nat) : (r3 L o n j).length ≤ (plainL L).length := List.length_filter_le _ _
/-- Who is told reads no one who is not. -/
theorem told_not {L : List Lnk} (hn : (L.map Prod.fst).Nodup) {o : List Int} {n x : Int} {j : Nat} (hk : OrdOk L o) (hr : n ∈ rdyL L o) (hx : (rdL L n)[j]? = some x) (hP : x ∈ plainL L) : x ∉ o ++ [n] := fun hm => by
  obtain ⟨h1, h2, h3⟩ := mem_rdyL.1 hr
  have h4 := wtL_step hn h1 h2 hP
  rw [if_pos (List.mem_of_getElem? hx)] at h4
  rcases List.mem_append.1 hm with hm | hm
  · have := hk.zero x hm; omega
  · obtain rfl := List.mem_singleton.1 hm; omega
end Go.AL
/-! Contracts: gridironref12's find, has, May, Nodes, reads. -/
namespace Go.AL
open Go.Proofs
set_option linter.unusedSimpArgs false
set_option linter.unusedVariables false
def inG (L : List Lnk) (n : Int) : Bool := decide (n ∈ L.map Prod.fst)
end Go.AL
/-! Contract: gridironref12's Hang. -/
namespace Go.AL
open Go.Proofs
set_option linter.unusedSimpArgs false
set_option linter.unusedVariables false
def rdsA (l on : List Int) : Bool := l.any fun r => decide (r ∈ on)
theorem rdsA_iff {l on : List Int} : rdsA l on = true ↔ ∃ n ∈ l, n ∈ on := by
  unfold rdsA
  rw [List.any_eq_true]
  simp
structure RhF (L : List Lnk) (on F : List Int) : Prop where
  nd : F.Nodup
  sound : ∀ x ∈ F, Hg L on x
/-- Nothing is to be found among these. -/
def RhC (L : List Lnk) (on F : List Int) : Prop := ∀ p ∈ L, (rdsA p.2 on || rdsA p.2 F) = true → p.1 ∈ F
theorem RhF.len {L : List Lnk} {on F : List Int} (h : RhF L on F) : F.length ≤ L.length := keys_len h.nd fun x hx => (h.sound x hx).node
theorem RhF.add {L : List Lnk} {on F : List Int} (h : RhF L on F) {a : Int} {l : List Int} (hp : (a, l) ∈ L) (hr : rdsA l on = true ∨ rdsA l F = true) (ha : a ∉ F) : RhF L on (F ++ [a]) := by
  refine ⟨?_, fun x hx => ?_⟩
  · rw [List.nodup_append]
    refine ⟨h.nd, by simp, fun x hx y hy => ?_⟩
    obtain rfl := List.mem_singleton.1 hy
    exact fun e => ha (e ▸ hx)
  · rcases List.mem_append.1 hx with hx | hx
    · exact h.sound x hx
    · obtain rfl := List.mem_singleton.1 hx
      rcases hr with hr | hr
      · obtain ⟨n, h1, h2⟩ := rdsA_iff.1 hr
        exact .base _ hp n h1 h2
      · obtain ⟨n, h1, h2⟩ := rdsA_iff.1 hr
        exact .step _ hp n h1 (h.sound n h2)
/-- In a pass. -/
structure RhJ (L : List Lnk) (on : List Int) (k : Nat) (i : Nat) (m : Bool) (F : List Int) : Prop where
  ok : RhF L on F
  le : k ≤ F.length
  yes : m = true → k < F.length
  no : m = false → F.length = k ∧ RhC (L.take i) on F
theorem RhJ.skip {L : List Lnk} {on : List Int} {k i : Nat} {m : Bool} {F : List Int} (h : RhJ L on k i m F) {a : Int} {l : List Int} (hp : L[i]? = some (a, l)) (hc : (rdsA l on || rdsA l F) = true → a ∈ F) : RhJ L on k (i + 1) m F := by
  refine ⟨h.ok, h.le, h.yes, fun e => ⟨(h.no e).1, fun p hq => ?_⟩⟩
  rw [List.take_add_one, hp, Option.toList_some] at hq
  rcases List.mem_append.1 hq with hq | hq
  · exact (h.no e).2 p hq
  · obtain rfl := List.mem_singleton.1 hq; exact hc
theorem RhJ.add {L : List Lnk} {on : List Int} {k i : Nat} {m : Bool} {F : List Int} (h : RhJ L on k i m F) {a : Int} {l : List Int} (hp : L[i]? = some (a, l)) (hr : rdsA l on = true ∨ rdsA l F = true) (ha : a ∉ F) : RhJ L on k (i + 1) true (F ++ [a]) := by
  have := h.le
  exact ⟨h.ok.add (List.mem_of_getElem? hp) hr ha, by simp; omega, fun _ => by simp; omega, fun e => by cases e⟩
end Go.AL
/-! Contracts: gridironref12's Cyclic, ready. -/
namespace Go.AL
open Go.Proofs
set_option linter.unusedSimpArgs false
set_option linter.unusedVariables false
end Go.AL
/-! Contracts: gridironref12's ready, Order. -/
namespace Go.AL
open Go.Proofs
set_option linter.unusedSimpArgs false
set_option linter.unusedVariables false
def rdyB (L : List Lnk) (cyc told : List Int) (r : Int) : Bool := !(inG L r && !decide (r ∈ cyc) && !decide (r ∈ told))
end Go.AL
/-! Contract: gridironref12's Order. -/
namespace Go.AL
open Go.Proofs
set_option linter.unusedSimpArgs false
set_option linter.unusedVariables false
theorem mem_cycL {L : List Lnk} {y : Int} : y ∈ cycL L ↔ y ∈ L.map Prod.fst ∧ onCyc L y = true := by
  unfold cycL; rw [List.mem_filter, nodesL, sortI_mem]
theorem mem_plainL {L : List Lnk} {y : Int} : y ∈ plainL L ↔ y ∈ L.map Prod.fst ∧ onCyc L y = false := by
  unfold plainL; rw [List.mem_filter, nodesL, sortI_mem]
  simp
theorem rdyB_iff (L : List Lnk) (o : List Int) (r : Int) : rdyB L (cycL L) o r = true ↔ (r ∈ plainL L → r ∈ o) := by
  unfold rdyB inG
  have h1 := @mem_cycL L r
  have h2 := @mem_plainL L r
  by_cases hk : r ∈ L.map Prod.fst
  · cases hc : onCyc L r
    · have a : r ∉ cycL L := fun h => by have := (h1.1 h).2; rw [hc] at this; cases this
      have b : r ∈ plainL L := h2.2 ⟨hk, hc⟩
      by_cases ho : r ∈ o <;> simp [hk, a, b, ho]
    · have a : r ∈ cycL L := h1.2 ⟨hk, hc⟩
      have b : r ∉ plainL L := fun h => by have := (h2.1 h).2; rw [hc] at this; cases this
      simp [a, b]
  · have b : r ∉ plainL L := fun h => hk (h2.1 h).1
    simp [hk, b]
theorem may_iff {L : List Lnk} (hn : (L.map Prod.fst).Nodup) {p : Lnk} (hp : p ∈ L) (o : List Int) : (p.2.all fun r => rdyB L (cycL L) o r) = decide (wtL L o p.1 = 0) := by
  have h : (p.2.all fun r => rdyB L (cycL L) o r) = true ↔ wtL L o p.1 = 0 := by
    rw [List.all_eq_true]
    unfold wtL wtc
    rw [List.length_eq_zero_iff, List.filter_eq_nil_iff, redL_of hn hp]
    constructor
    · intro h x hx
      have := (rdyB_iff L o x).1 (h x ((csL_mem _ _).1 hx))
      simpa using this
    · intro h x hx
      refine (rdyB_iff L o x).2 ?_
      have := h x ((csL_mem _ _).2 hx)
      simpa using this
  by_cases h0 : wtL L o p.1 = 0
  · rw [h.2 h0]; simp [h0]
  · rw [decide_eq_false h0]
    cases hc : p.2.all fun r => rdyB L (cycL L) o r
    · rfl
    · exact (h0 (h.1 hc)).elim
noncomputable def rdQ (L : List Lnk) (o : List Int) (y : Int) : Bool := !onCyc L y && !decide (y ∈ o) && decide (wtL L o y = 0)
theorem rdyL_Q (L : List Lnk) (o : List Int) : rdyL L o = (nodesL L).filter fun y => rdQ L o y := by
  unfold rdyL plainL
  rw [List.filter_filter]
  refine List.filter_congr fun y _ => ?_
  unfold rdQ
  cases onCyc L y <;> cases decide (y ∈ o) <;> cases decide (wtL L o y = 0) <;> rfl
end Go.AL
/-! Contracts: gridironref12's May, gridironref09.Ints, gridironlaw12's fits, of, has. -/
namespace Go.AL
open Go.Proofs
set_option linter.unusedSimpArgs false
set_option linter.unusedVariables false
set_option maxHeartbeats 8000000 in
set_option maxRecDepth 100000 in
theorem rints_ok (l l2 : List Int) (h : l.length ≤ 1000000) (h2 : l2.length ≤ 1000000) : APure Try.prog 10 [.vsl (l.map vi), .vsl (l2.map vi)] (vb (decide (l = l2))) := by
  have hvl : (l.map vi).length = l.length := List.length_map _
  have hvl2 : (l2.map vi).length = l2.length := List.length_map _
  by_cases hlen : l.length = l2.length
  · have hleni : (l.length : Int) = l2.length := by omega
    refine apure_in Try.func10 Try.ntmps10 rfl ?_
    repeat' first | refine aw_W [] (And.intro @hlen (And.intro @hleni (And.intro @hvl @hvl2))) trivial ?_ | refine aw_cond rfl (fun h => ?_) (fun h => ?_)
    refine aw_loopW [0, 1, 5] (fun q fr σ => ∃ i M : Nat, i + q = l.length ∧ l.take i = l2.take i ∧ σ = mkSt [] [] M ∧ fr = frm 26 [(0, .vsl (l.map vi)), (1, .vsl (l2.map vi)), (5, vi (i : Nat))]) l.length ?_ ?_
    · exact ⟨mkSt [] [] 0, le_mkSt (by simp) (by simp) (by simp [σ0]), 0, 0, by omega, by simp, rfl, by simp⟩
    · rintro q fr σ ⟨i, M, hi, hx, rfl, rfl⟩
      simp -implicitDefEqProofs
      by_cases hlt : i < l.length
      · have hlti : (i : Int) < l.length := by omega
        have hlt2 : i < l2.length := by omega
        have hlti2 : (i : Int) < l2.length := by omega
        obtain ⟨t, ht⟩ : ∃ t, l[i] = t := ⟨_, rfl⟩
        have hgt : l[i]? = some t := by rw [List.getElem?_eq_getElem hlt, ht]
        obtain ⟨t2, ht2⟩ : ∃ t, l2[i] = t := ⟨_, rfl⟩
        have hgt2 : l2[i]? = some t2 := by rw [List.getElem?_eq_getElem hlt2, ht2]
        have wi : IntKind.i64.wrap ((i : Int) + 1) = (i : Int) + 1 := wrap_id (by omega) (by omega)
        by_cases hv : t = t2
        · have hx1 : l.take (i + 1) = l2.take (i + 1) := by rw [List.take_add_one, List.take_add_one, hx, hgt, hgt2, hv]
          repeat' first | refine aw_W [] (And.intro @hlt (And.intro @hlti (And.intro @hlt2 (And.intro @hlti2 (And.intro @ht (And.intro @ht2 (And.intro @hgt (And.intro @hgt2 (And.intro @hvl (And.intro @hvl2 (And.intro @wi @hv))))))))))) trivial ?_ | refine aw_cond rfl (fun h => ?_) (fun h => ?_)
          all_goals first | exact ⟨q - 1, by omega, mkSt [] [] M, le_mkSt (by simp) (by simp) (by simp), i + 1, by omega, hx1, ⟨M, rfl⟩, by simp⟩ | trace_state
        · have hne : ¬ l = l2 := fun e => by rw [e, hgt2] at hgt; exact hv (Option.some.inj hgt).symm
          rw [decide_eq_false hne]
          repeat' first | refine aw_W [] (And.intro @hlt (And.intro @hlti (And.intro @hlt2 (And.intro @hlti2 (And.intro @ht (And.intro @ht2 (And.intro @hgt (And.intro @hgt2 (And.intro @hvl (And.intro @hvl2 (And.intro @wi @hv))))))))))) trivial ?_ | refine aw_cond rfl (fun h => ?_) (fun h => ?_)
          all_goals first | rfl | (simp [tupOf]; done) | trace_state
      · have hlti : ¬ (i : Int) < l.length := by omega
        rw [List.take_of_length_le (by omega), List.take_of_length_le (by omega)] at hx
        rw [decide_eq_true hx]
        repeat' first | refine aw_W [] (And.intro @hlti @hvl) trivial ?_ | refine aw_cond rfl (fun h => ?_) (fun h => ?_)
        all_goals first | rfl | (simp [tupOf]; done) | trace_state
  · have hne : ¬ l = l2 := fun e => hlen (by rw [e])
    have hleni : ¬ (l.length : Int) = l2.length := by omega
    rw [decide_eq_false hne]
    refine apure_in Try.func10 Try.ntmps10 rfl ?_
    repeat' first | refine aw_W [] (And.intro @hlen (And.intro @hleni (And.intro @hvl @hvl2))) trivial ?_ | refine aw_cond rfl (fun h => ?_) (fun h => ?_)
    all_goals first | rfl | (simp [tupOf]; done) | trace_state
/-- The place of a number, or -1. -/
def plc (v : Int) (l : List Int) : Int := idxI v l 0
set_option maxHeartbeats 8000000 in
set_option maxRecDepth 100000 in
theorem lhas12_ok (l : List Int) (v : Int) (hl : l.length ≤ 1000000000) : APure Try.prog 19 [.vsl (l.map vi), vi v] (vi (plc v l)) := by
  have hvl : (l.map vi).length = l.length := List.length_map _
  unfold plc
  refine apure_in Try.func19 Try.ntmps19 rfl ?_
  repeat' first | refine aw_N [] trivial trivial ?_ | refine aw_cond rfl (fun h => ?_) (fun h => ?_)
  refine aw_loopW [0, 1, 5] (fun q fr σ => ∃ i M : Nat, i + q = l.length ∧ idxI v (l.drop i) i = idxI v l 0 ∧ σ = mkSt [] [] M ∧ fr = frm 19 [(0, .vsl (l.map vi)), (1, vi v), (5, vi (i : Nat))]) l.length ?_ ?_
  · exact ⟨mkSt [] [] 0, le_mkSt (by simp) (by simp) (by simp [σ0]), 0, 0, by omega, by simp, rfl, by simp⟩
  · rintro q fr σ ⟨i, M, hi, hx, rfl, rfl⟩
    simp -implicitDefEqProofs
    by_cases hlt : i < l.length
    · have hlti : (i : Int) < l.length := by omega
      obtain ⟨t, ht⟩ : ∃ t, l[i] = t := ⟨_, rfl⟩
      have wi : IntKind.i64.wrap ((i : Int) + 1) = (i : Int) + 1 := wrap_id (by omega) (by omega)
      rw [List.drop_eq_getElem_cons hlt, ht, idxI] at hx
      by_cases hv : t = v
      · rw [if_pos hv.symm] at hx
        rw [← hx]
        repeat' first | refine aw_N [] (And.intro @hlt (And.intro @hlti (And.intro @ht (And.intro @hvl (And.intro @wi @hv))))) trivial ?_ | refine aw_cond rfl (fun h => ?_) (fun h => ?_)
        all_goals first | rfl | (simp [tupOf]; done) | trace_state
      · rw [if_neg fun e => hv e.symm] at hx
        repeat' first | refine aw_N [] (And.intro @hlt (And.intro @hlti (And.intro @ht (And.intro @hvl (And.intro @wi @hv))))) trivial ?_ | refine aw_cond rfl (fun h => ?_) (fun h => ?_)
        all_goals first | exact ⟨q - 1, by omega, mkSt [] [] M, le_mkSt (by simp) (by simp) (by simp), i + 1, by omega, hx, ⟨M, rfl⟩, by simp⟩ | trace_state
    · have hlti : ¬ (i : Int) < l.length := by omega
      rw [List.drop_eq_nil_of_le (by omega), idxI] at hx
      rw [← hx]
      repeat' first | refine aw_N [] (And.intro @hlti @hvl) trivial ?_ | refine aw_cond rfl (fun h => ?_) (fun h => ?_)
      all_goals first | rfl | (simp [tupOf]; done) | trace_state
def lfits (L : List Lnk) : Bool := decide (L.length ≤ 60) && L.all fun p => decide (p.2.length ≤ 60)
set_option maxHeartbeats 8000000 in
set_option maxRecDepth 100000 in
theorem lfits12_ok (L : List Lnk) : APure Try.prog 5 [.vsl (lks L)] (vb (lfits L)) := by
  have hvl := lks_len L
  unfold lfits
  by_cases hlen : L.length ≤ 60
  · have hleni : ¬ (60 : Int) < L.length := by omega
    have hlenn : ¬ 60 < L.length := by omega
    rw [decide_eq_true hlen]
    simp only [Bool.true_and]
    refine apure_in Try.func5 Try.ntmps5 rfl ?_
    repeat' first | refine aw_N [] (And.intro @hleni (And.intro @hlenn @hvl)) trivial ?_ | refine aw_cond rfl (fun h => ?_) (fun h => ?_)
    refine aw_loopW [0, 3] (fun q fr σ => ∃ i M : Nat, i + q = L.length ∧ (∀ p ∈ L.take i, p.2.length ≤ 60) ∧ σ = mkSt [] [] M ∧ fr = frm 20 [(0, .vsl (lks L)), (3, vi (i : Nat))]) L.length ?_ ?_
    · exact ⟨mkSt [] [] 0, le_mkSt (by simp) (by simp) (by simp [σ0]), 0, 0, by omega, by simp, rfl, by simp⟩
    · rintro q fr σ ⟨i, M, hi, hx, rfl, rfl⟩
      simp -implicitDefEqProofs
      by_cases hlt : i < L.length
      · have hlti : (i : Int) < L.length := by omega
        obtain ⟨a, l, hp⟩ : ∃ a l, L[i]? = some (a, l) := ⟨_, _, List.getElem?_eq_getElem hlt⟩
        have hg := lks_get hp
        have hla : i < (lks L).length := by rw [hvl]; exact hlt
        obtain ⟨_, hgl⟩ := List.getElem?_eq_some_iff.1 hg
        have wi : IntKind.i64.wrap ((i : Int) + 1) = (i : Int) + 1 := wrap_id (by omega) (by omega)
        by_cases hv : l.length ≤ 60
        · have hx1 : ∀ p ∈ L.take (i + 1), p.2.length ≤ 60 := by
            rw [List.take_add_one, hp, Option.toList_some]
            intro y hy
            rcases List.mem_append.1 hy with hy | hy
            · exact hx y hy
            · obtain rfl := List.mem_singleton.1 hy; exact hv
          have hvi : ¬ (60 : Int) < l.length := by omega
          have hvn : ¬ 60 < l.length := by omega
          repeat' first | refine aw_N [] (And.intro @hlt (And.intro @hlti (And.intro @hla (And.intro @hg (And.intro @hgl (And.intro @hvl (And.intro @wi (And.intro @hvi @hvn)))))))) trivial ?_ | refine aw_cond rfl (fun h => ?_) (fun h => ?_)
          exact ⟨q - 1, by omega, mkSt [] [] M, le_mkSt (by simp) (by simp) (by simp), i + 1, by omega, (fun x y h => hx1 (x, y) h), ⟨M, rfl⟩, by simp⟩
        · have hm : (L.all fun p => decide (p.2.length ≤ 60)) = false := by
            rw [List.all_eq_false]
            exact ⟨_, List.mem_of_getElem? hp, by simpa using hv⟩
          have hvi : (60 : Int) < l.length := by omega
          have hvn : 60 < l.length := by omega
          rw [hm]
          repeat' first | refine aw_N [] (And.intro @hlt (And.intro @hlti (And.intro @hla (And.intro @hg (And.intro @hgl (And.intro @hvl (And.intro @wi (And.intro @hvi @hvn)))))))) trivial ?_ | refine aw_cond rfl (fun h => ?_) (fun h => ?_)
          all_goals first | rfl | (simp [tupOf]; done) | trace_state
      · have hlti : ¬ (i : Int) < L.length := by omega
        rw [List.take_of_length_le (by omega)] at hx
        have hm : (L.all fun p => decide (p.2.length ≤ 60)) = true := List.all_eq_true.2 fun p hp => decide_eq_true (hx p hp)
        rw [hm]
        repeat' first | refine aw_N [] (And.intro @hlti @hvl) trivial ?_ | refine aw_cond rfl (fun h => ?_) (fun h => ?_)
        all_goals first | rfl | (simp [tupOf]; done) | trace_state
  · have hleni : (60 : Int) < L.length := by omega
    have hlenn : 60 < L.length := by omega
    rw [decide_eq_false hlen]
    simp only [Bool.false_and]
    refine apure_in Try.func5 Try.ntmps5 rfl ?_
    repeat' first | refine aw_N [] (And.intro @hleni (And.intro @hlenn @hvl)) trivial ?_ | refine aw_cond rfl (fun h => ?_) (fun h => ?_)
    all_goals first | rfl | (simp [tupOf]; done) | trace_state
end Go.AL
/-! Contract: gridironref12's May. -/
namespace Go.AL
open Go.Proofs
set_option linter.unusedSimpArgs false
set_option linter.unusedVariables false
theorem fitsG_iff {n : Int} : fitsG n = true ↔ 0 ≤ n ∧ n < 1024 := by simp [fitsG]
end Go.AL
