/- Parts of the proof of ArenaStays: the logic, contracts, plain laws. -/
import Derived.Test.YtofopejmidlceaaDoorZArenaStays17
import Derived.Test.YtofopejmidlceaaDoorZArenaStays10
import Derived.Test.YtofopejmidlceaaDoorZArenaStays9
/-! The plain law: lists put, and sweeps, side by side. -/
namespace Go.AL
set_option linter.unusedSimpArgs false
set_option linter.unusedVariables false
theorem put_len (s : PS) (x : Nd) : s.M.length ≤ (s.put x).M.length := by
  unfold PS.put
  split
  · exact Nat.le_refl _
  · simp only
    unfold putK
    split <;> simp
theorem puts_len : ∀ (l : List Nd) (s : PS), s.M.length ≤ (s.puts l).M.length
  | [], s => Nat.le_refl _
  | x :: l, s => Nat.le_trans (put_len s x) (puts_len l (s.put x))
theorem bad_refs {M : Nods} {k : Nat} {x : Nd} (h : x.refs.any (badR M k) = false) : (∀ r ∈ x.refs, r ≤ 0 ∨ (gotK M r).isSome = true) ∧ ∀ r ∈ x.refs, -1 - r < k := by
  rw [List.any_eq_false] at h
  refine ⟨fun r hr => ?_, fun r hr => ?_⟩
  · have := h r hr
    simp [badR] at this
    by_cases h0 : 0 < r
    · have h1 := this.1 h0
      refine .inr ?_
      cases e : gotK M r with
      | none => rw [e] at h1; simp at h1
      | some y => rfl
    · exact .inl (by omega)
  · have := h r hr
    simp [badR] at this
    omega
theorem LkA.puts {size : Nat} {M0 : Nods} : ∀ (l : List Nd) (s : PS) (t : RS), LkA size M0 s t → (∀ x ∈ l, NdOk x) → badL M0 l s.hs.length = false → M0.length + s.hs.length + l.length < 100000 →
    match t.puts size l with
    | some t' => LkA size M0 (s.puts l) t'
    | none => size < (s.puts l).M.length
  | [], s, t, h, _, _, _ => h
  | x :: l, s, t, h, hx, hb, hl => by
    simp only [badL, Bool.or_eq_false_iff] at hb
    simp only [List.length_cons] at hl
    obtain ⟨q1, q2⟩ := bad_refs hb.1
    have hxo := resN_ok (hx x (by simp)) h.pi.ok
    have h1 := h.one hxo (by omega) q1 q2
    have h2 := (h.pi.put hxo (by omega)).2
    rw [RS.puts]
    have e : s.puts (x :: l) = (s.put x).puts l := rfl
    rw [e]
    cases ho : t.one size x with
    | some t' =>
      rw [ho] at h1
      rw [Option.bind_some]
      exact LkA.puts l (s.put x) t' h1 (fun y hy => hx y (List.mem_cons_of_mem _ hy)) (by rw [h2]; exact hb.2) (by omega)
    | none =>
      rw [ho] at h1
      rw [Option.bind_none]
      exact Nat.lt_of_lt_of_le h1 (puts_len l _)
/-- What a batch leaves as it was. -/
structure PO (M0 : Nods) (s : PS) : Prop where
  keep : ∀ n, n ∉ s.gs → gotK s.M n = gotK M0 n
  new : ∀ n ∈ s.gs, gotK M0 n = none
theorem PO.put {M0 : Nods} {n : Nat} {s : PS} {x : Nd} (h : PO M0 s) (hp : PI n s) : PO M0 (s.put x) := by
  obtain ⟨n1, n2, n3, n4⟩ := hp.ai.next
  unfold PS.put
  cases hg : gotT s.N (nmB (resN s.hs x)) with
  | some k => exact ⟨h.keep, h.new⟩
  | none =>
    refine ⟨fun n hn => ?_, fun n hn => ?_⟩
    · simp only [List.mem_append, List.mem_singleton, not_or] at hn
      simp only
      rw [gotK_put, if_neg (fun e => hn.2 e.symm)]
      exact h.keep n hn.1
    · rcases List.mem_append.1 hn with hn | hn
      · exact h.new n hn
      · obtain rfl := List.mem_singleton.1 hn
        by_cases e : hN s.M s.c ∈ s.gs
        · exact h.new _ e
        · rw [← h.keep _ e]; exact n3
theorem PO.puts {M : Nods} {N : Nms} {c a : Int} {l : List Nd} (h : LOk M N c a l) : ∀ i ≤ l.length, PO M ((ps0 M N c).puts (l.take i))
  | 0, _ => ⟨fun n _ => rfl, fun n hn => by cases hn⟩
  | i + 1, hi => by
    have h1 := PO.puts h i (by omega)
    have h2 := (PI.puts h i (by omega)).1
    obtain ⟨x, hx⟩ : ∃ x, l[i]? = some x := ⟨_, List.getElem?_eq_getElem (by omega)⟩
    rw [puts_take hx]
    exact h1.put h2
/-- Both, side by side, with room for so many. -/
structure Both (room : Nat) (M : Nods) (N : Nms) (c : Int) (nds : List Nd) (is : List Bool) : Prop where
  ai : AI M N c
  rel : Rel M nds is
  clo : Clo M
  lb : is.length ≤ room + 1
  nd : ∀ y ∈ nds, NdL y
theorem Rel.mlen {M : Nods} {N : Nms} {c : Int} {nds : List Nd} {is : List Bool} (hA : AI M N c) (hR : Rel M nds is) : M.length + 1 ≤ is.length := by
  have hp := hR.pos
  have := sub_len (M.map Prod.fst) (seqI 1 (is.length - 1)) hA.ndM fun x hx => by
    have hs := gotK_mem.2 hx
    obtain ⟨y, hy⟩ : ∃ y, gotK M x = some y := by
      cases e : gotK M x with
      | none => rw [e] at hs; cases hs
      | some y => exact ⟨y, rfl⟩
    have h1 := (hA.pos x y hy).1
    obtain ⟨n, rfl⟩ : ∃ n : Nat, x = n := ⟨x.toNat, by omega⟩
    have := (List.getElem?_eq_some_iff.1 (hR.gotten (by omega) hy).1).1
    exact seqI_mem.2 (by omega)
  rw [seqI_len, List.length_map] at this
  omega
theorem Both.start (room : Nat) : Both room [] [] 1 [ndZ] [false] := by
  refine ⟨AI.empty, ⟨rfl, by simp, fun h h1 => ?_⟩, (fun h x e => by cases e), by simp, fun y hy => ?_⟩
  · rw [if_neg]; · rfl
    intro e
    have := (List.getElem?_eq_some_iff.1 e).1
    simp at this
    omega
  · obtain rfl := List.mem_singleton.1 hy
    exact ⟨by simp [ndZ], by simp [ndZ]⟩
theorem RSOk.puts {size : Int} : ∀ (l : List Nd) (n : Nat) (t t' : RS), RSOk n t → n + l.length ≤ 10000 → (∀ x ∈ l, NdOk x) → t.puts size l = some t' → RSOk (n + l.length) t'
  | [], n, t, t', h, _, _, e => by cases e; exact h
  | x :: l, n, t, t', h, hl, hx, e => by
    rw [RS.puts] at e
    simp only [List.length_cons] at hl
    cases ho : t.one size x with
    | none => rw [ho] at e; cases e
    | some t1 =>
      rw [ho, Option.bind_some] at e
      have := RSOk.puts l (n + 1) t1 t' (h.one (by omega) (hx x (by simp)) ho) (by omega) (fun y hy => hx y (List.mem_cons_of_mem _ hy)) e
      rwa [show n + 1 + l.length = n + (x :: l).length by simp; omega] at this
theorem Both.lok {room : Nat} {M : Nods} {N : Nms} {c : Int} {nds : List Nd} {is : List Bool} (h : Both room M N c nds is) (hr : room ≤ 65536) {l : List Nd} (hl : l.length ≤ 1000) (hx : ∀ x ∈ l, NdOk x) : LOk M N c room l :=
  ⟨h.ai, by have := h.rel.mlen h.ai; have := h.lb; omega, by omega, hx, by omega⟩
theorem Both.rsok {room : Nat} {M : Nods} {N : Nms} {c : Int} {nds : List Nd} {is : List Bool} (h : Both room M N c nds is) (hr : room ≤ 65536) : RSOk 0 ⟨nds, is, []⟩ :=
  ⟨h.rel.len, h.rel.pos, by have := h.lb; simp; omega, h.nd, by simp, rfl⟩
theorem Both.put {room : Nat} {M : Nods} {N : Nms} {c : Int} {nds : List Nd} {is : List Bool} (h : Both room M N c nds is) (hr : room ≤ 65536) {l : List Nd} (hl : l.length ≤ 1000) (hx : ∀ x ∈ l, NdOk x) (hb : badL M l 0 = false) {t : RS} (ht : RS.puts room ⟨nds, is, []⟩ l = some t) {s : PS} (hs : (ps0 M N c).puts l = s) :
    s.M.length ≤ room ∧ Both room s.M s.N s.c t.nds t.is ∧ t.out = s.hs := by
  have h0 : LkA room M (ps0 M N c) ⟨nds, is, []⟩ := ⟨PI.zero h.ai, h.rel, rfl, h.lb, fun _ _ => rfl, (fun n hn => by cases hn), h.clo⟩
  have hm := h.rel.mlen h.ai
  have hlb := h.lb
  have h1 := LkA.puts l _ _ h0 hx hb (by simp [ps0]; omega)
  rw [ht, hs] at h1
  simp only at h1
  have h2 := h1.rel.mlen h1.pi.ai
  have h3 := h1.lb
  exact ⟨by omega, ⟨h1.pi.ai, h1.rel, h1.clo, h1.lb, (RSOk.puts l 0 _ _ (h.rsok hr) (by omega) hx ht).nd⟩, h1.out⟩
theorem back_got {room : Nat} {M : Nods} {N : Nms} {c : Int} {l : List Nd} (hL : LOk M N c room l) {s : PS} (hs : (ps0 M N c).puts l = s) {d : AS} (hd : (⟨s.M, s.N, s.c⟩ : AS).drops s.gs = d) : AI d.M d.N d.c ∧ ∀ n, gotK d.M n = gotK M n := by
  have h1 := (PI.puts hL l.length (Nat.le_refl _)).1
  have h2 := PO.puts hL l.length (Nat.le_refl _)
  rw [List.take_length, hs] at h1 h2
  subst hd
  refine ⟨AS.drops_ai (s := ⟨s.M, s.N, s.c⟩) h1.ai, fun n => ?_⟩
  rw [AS.drops_got (s := ⟨s.M, s.N, s.c⟩) h1.ai]
  by_cases e : n ∈ s.gs
  · rw [if_pos e, h2.new n e]
  · rw [if_neg e]; exact h2.keep n e
theorem Both.full {room : Nat} {M : Nods} {N : Nms} {c : Int} {nds : List Nd} {is : List Bool} (h : Both room M N c nds is) (hr : room ≤ 65536) {l : List Nd} (hl : l.length ≤ 1000) (hx : ∀ x ∈ l, NdOk x) (hb : badL M l 0 = false) (ht : RS.puts room ⟨nds, is, []⟩ l = none) {s : PS} (hs : (ps0 M N c).puts l = s) {d : AS} (hd : (⟨s.M, s.N, s.c⟩ : AS).drops s.gs = d) :
    room < s.M.length ∧ ∀ nds' : List Nd, nds'.length = is.length → (∀ h : Nat, is[h]? = some true → nds'[h]? = nds[h]?) → (∀ y ∈ nds', NdL y) → Both room d.M d.N d.c nds' is := by
  have h0 : LkA room M (ps0 M N c) ⟨nds, is, []⟩ := ⟨PI.zero h.ai, h.rel, rfl, h.lb, fun _ _ => rfl, (fun n hn => by cases hn), h.clo⟩
  have hm := h.rel.mlen h.ai
  have hlb := h.lb
  have h1 := LkA.puts l _ _ h0 hx hb (by simp [ps0]; omega)
  rw [ht, hs] at h1
  simp only at h1
  obtain ⟨b1, b2⟩ := back_got (h.lok hr hl hx) hs hd
  refine ⟨h1, fun nds' e1 e2 e3 => ⟨b1, ⟨e1, h.rel.pos, fun n hn => ?_⟩, fun k x hk r hr => ?_, h.lb, e3⟩⟩
  · rw [b2, h.rel.at_ n hn]
    by_cases e : is[n]? = some true
    · rw [if_pos e, if_pos e, e2 n e]
    · rw [if_neg e, if_neg e]
  · rw [b2] at hk ⊢
    exact h.clo k x hk r hr
theorem part_len (L : List Int) (p : Int → Bool) : (L.filter p).length + (L.filter fun x => !p x).length = L.length := by
  induction L with
  | nil => rfl
  | cons a L ih =>
    simp only [List.filter_cons]
    cases p a <;> simp <;> omega
theorem rch_part {M : Nods} (hn : (M.map Prod.fst).Nodup) (on : List Int) : (rchL M on).length + ((livL M).filter fun x => !decide (x ∈ rchL M on)).length = (livL M).length := by
  have : rchL M on = (livL M).filter fun x => decide (x ∈ rchL M on) := rise_ext (rchL_lt hn on) ((livL_lt hn).filter _) fun x => by
    rw [List.mem_filter, decide_eq_true_eq]
    exact ⟨fun h => ⟨mem_livL.2 (mem_rchL.1 h).live, h⟩, fun h => h.2⟩
  have h2 := part_len (livL M) fun x => decide (x ∈ rchL M on)
  rw [← this] at h2
  exact h2
theorem swept_got {M : Nods} {N : Nms} {c : Int} (hA : AI M N c) {on D : List Int} (hD : (livL M).filter (fun x => !decide (x ∈ rchL M on)) = D) {d : AS} (hd : (⟨M, N, c⟩ : AS).drops D = d) : AI d.M d.N d.c ∧ ∀ n, gotK d.M n = if n ∈ rchL M on then gotK M n else none := by
  subst hd
  refine ⟨AS.drops_ai (s := ⟨M, N, c⟩) hA, fun n => ?_⟩
  rw [AS.drops_got (s := ⟨M, N, c⟩) hA, ← hD]
  by_cases e : n ∈ rchL M on
  · rw [if_pos e, if_neg (by simp [List.mem_filter, e])]
  · rw [if_neg e]
    by_cases e2 : (gotK M n).isSome = true
    · rw [if_pos (List.mem_filter.2 ⟨mem_livL.2 e2, by simp [e]⟩)]
    · have : gotK M n = none := by cases q : gotK M n <;> simp_all
      simp [this]
theorem swept_clo {M : Nods} (hC : Clo M) (hp : ∀ h x, gotK M h = some x → 1 ≤ h) {M' : Nods} {on : List Int} (hg : ∀ n, gotK M' n = if n ∈ rchL M on then gotK M n else none) : Clo M' := fun k x hk r hr => by
  rw [hg] at hk
  split at hk
  · rename_i hm
    rcases hC k x hk r hr with h | h
    · exact .inl h
    · refine .inr ?_
      rw [hg, if_pos (mem_rchL.2 (.step k x r (mem_rchL.1 hm) hk hr h))]
      exact h
  · cases hk
theorem Both.sweep {room : Nat} {M : Nods} {N : Nms} {c : Int} {nds : List Nd} {is : List Bool} (h : Both room M N c nds is) {on D : List Int} (hD : (livL M).filter (fun x => !decide (x ∈ rchL M on)) = D) {d : AS} (hd : (⟨M, N, c⟩ : AS).drops D = d) {is' : List Bool} (hl : is'.length = is.length) (hi : ∀ h : Nat, is'[h]? = some true ↔ (h : Int) ∈ rchL M on) : Both room d.M d.N d.c nds is' := by
  obtain ⟨b1, b2⟩ := swept_got h.ai hD hd
  refine ⟨b1, ⟨by rw [hl]; exact h.rel.len, by rw [hl]; exact h.rel.pos, fun n hn => ?_⟩, swept_clo h.clo (fun k x hk => (h.ai.pos k x hk).1) b2, by rw [hl]; exact h.lb, h.nd⟩
  rw [b2]
  by_cases e : (n : Int) ∈ rchL M on
  · rw [if_pos e, if_pos ((hi n).2 e)]
    obtain ⟨y, hy⟩ : ∃ y, gotK M n = some y := by
      have := (mem_rchL.1 e).live
      cases q : gotK M n with
      | none => rw [q] at this; cases this
      | some y => exact ⟨y, rfl⟩
    rw [hy, (h.rel.gotten hn hy).2]
  · rw [if_neg e, if_neg (fun q => e ((hi n).1 q))]
end Go.AL
/-! A call that leaves memory as it was, to the last number. -/
namespace Go.AL
set_option linter.unusedVariables false
set_option linter.unusedSimpArgs false
variable {P : Program} {σ : ASt} {D : List Deferred} {Q : Exit → List AV → ASt → Prop} {fr : List AV} {ops : Array Oper} {o : Oper} {rest : List Oper}
theorem MpOK.closed {G G' : Ghost} {w : World} {b : Nat} {es : List (AV × AV)} (hg : G'.mp b = G.mp b) (hst : ∀ β o, G.st β o → G'.st β o) (hc : ∀ p ∈ es, Cl p.1 ∧ Cl p.2) (h : MpOK G w b es) : MpOK G' w b es := by
  rcases h with ⟨μ, ents, clock, h1, h2, h3, h4, h5⟩ | ⟨μ, o, fr, h1, h2, h3, h4⟩
  · refine .inl ⟨μ, ents, clock, by rw [hg]; exact h1, h2, h3, fun i k x e a c => ?_, h5⟩
    obtain ⟨q1, q2, q3⟩ := h4 i k x e a c
    have := hc _ (List.mem_of_getElem? a)
    exact ⟨q1.closed hst this.1, q2.closed hst this.2, q3⟩
  · refine .inr ⟨μ, o, fr, by rw [hg]; exact h1, h2, ?_, h4⟩
    have hfr : ∀ c ∈ fr, Cl c := by
      rw [h4] at hc
      have := (hc (noV, .tup [.ob (erO o), .agg fr]) (by simp [obE])).2
      cases this with
      | tup _ h =>
        have := h (.agg fr) (by simp)
        cases this with
        | agg _ h => exact h
    have := ObR.to (f := id) (fun x hx v hr => Rep.closed hst hr (hfr x hx)) h3
    simpa using this
/-- Numbers that are not there. -/
def loR (k B i : Nat) : Nat := if i < k then i else B + i
def Ghost.lo (G : Ghost) (k B : Nat) : Ghost := ⟨G.base, G.st, fun i => G.bx (loR k B i), fun i => G.mp (loR k B i), fun i => G.sl (loR k B i)⟩
theorem ACall.tidy {f : FuncId} {args : List AV} {r0 : AV} (hb : ∀ i cs, σ.bx i = some cs → ∀ c ∈ cs, Lo σ.next c) (hm : ∀ i es, σ.mp i = some es → ∀ p ∈ es, Cl p.1 ∧ Cl p.2) (hs : ∀ i xs, σ.sl i = some xs → ∀ x ∈ xs, Cl x)
    (h : ACall P f args σ fun r τ => r = r0 ∧ (∀ i cs, σ.bx i = some cs → τ.bx i = some cs) ∧ (∀ i es, σ.mp i = some es → τ.mp i = some es) ∧ (∀ i xs, σ.sl i = some xs → τ.sl i = some xs)) (hr : Cl r0) : ACall P f args σ fun r τ => r = r0 ∧ τ = σ := by
  intro G w vs hv hw
  refine Calls.mono (h G w vs hv hw) fun e w' he => retOf_mono (fun v w1 ho => ?_) he
  obtain ⟨r, G', τ, hl, hw', hr1, rfl, e1, e2, e3⟩ := ho
  obtain ⟨B, hB⟩ : ∃ B, B = τ.next := ⟨_, rfl⟩
  have lo : ∀ i, i < σ.next → loR σ.next B i = i := fun i hi => by unfold loR; rw [if_pos hi]
  have hi : ∀ i, σ.next ≤ i → G'.bx (loR σ.next B i) = none ∧ G'.mp (loR σ.next B i) = none ∧ G'.sl (loR σ.next B i) = none := fun i hi => by
    unfold loR
    rw [if_neg (by omega)]
    have := hw'.fresh (B + i) (by omega)
    exact ⟨this.1, this.2.1, this.2.2.1⟩
  obtain ⟨G2, hG2⟩ : ∃ G2, G2 = G'.lo σ.next B := ⟨_, rfl⟩
  have gst : ∀ β o, G'.st β o ↔ G2.st β o := fun β o => by rw [hG2]; exact Iff.rfl
  have gbx : ∀ i, G2.bx i = G'.bx (loR σ.next B i) := fun i => by rw [hG2]; rfl
  have gmp : ∀ i, G2.mp i = G'.mp (loR σ.next B i) := fun i => by rw [hG2]; rfl
  have gsl : ∀ i, G2.sl i = G'.sl (loR σ.next B i) := fun i => by rw [hG2]; rfl
  have ren_ : ∀ {x v}, Lo σ.next x → Rep G' w1 x v → Rep G2 w1 x v := fun {x v} hx hr => by
    refine Rep.ren_of (G := G2) (G' := G') (ρ := loR σ.next B) gbx gmp gsl (fun β o h => (gst β o).1 h) _ x (Nat.le_refl _) v ?_
    rw [hx (loR σ.next B) lo]; exact hr
  have low : ∀ {i : Nat}, (σ.bx i ≠ none ∨ σ.mp i ≠ none ∨ σ.sl i ≠ none) → i < σ.next := fun {i} h => by
    rcases Nat.lt_or_ge i σ.next with h' | h'
    · exact h'
    · obtain ⟨_, _, _, f1, f2, f3⟩ := hw.fresh i h'
      rcases h with h | h | h
      · exact absurd f1 h
      · exact absurd f2 h
      · exact absurd f3 h
  have own_ : ∀ β k, Owns G2 σ β k → Owns G' τ β k := fun β k hk => by
    cases hk with
    | bx b β cs h1 g1 => exact .bx b β cs (e1 _ _ h1) (by rw [gbx, lo b (low (.inl (by rw [h1]; simp)))] at g1; exact g1)
    | mp b β es h1 g1 => exact .mp b β es (e2 _ _ h1) (by rw [gmp, lo b (low (.inr (.inl (by rw [h1]; simp))))] at g1; exact g1)
    | sl b β r xs h1 g1 => exact .sl b β r xs (e3 _ _ h1) (by rw [gsl, lo b (low (.inr (.inr (by rw [h1]; simp))))] at g1; exact g1)
  refine ⟨r, G2, σ, ⟨by rw [hG2]; exact hl.base, fun b β e => ?_, fun b β e => ?_, fun b β e => ?_, fun β o e => (gst β o).1 (hl.st β o e), fun β o e => hl.st2 β o ((gst β o).2 e), hl.cell, hl.below⟩, ⟨by rw [hG2]; exact hw'.base, fun b cs e => ?_, fun b es e => ?_, fun b xs e => ?_, fun β k hk => ?_, fun β o e => hw'.stIn β o ((gst β o).2 e), fun b hb' => ?_⟩, hr1.closed (fun β o e => (gst β o).1 e) hr, rfl, rfl⟩
  · rcases Nat.lt_or_ge b σ.next with h' | h'
    · rw [gbx, lo b h']; exact hl.bx b β e
    · rw [(hw.fresh b h').1] at e; cases e
  · rcases Nat.lt_or_ge b σ.next with h' | h'
    · rw [gmp, lo b h']; exact hl.mp b β e
    · rw [(hw.fresh b h').2.1] at e; cases e
  · rcases Nat.lt_or_ge b σ.next with h' | h'
    · rw [gsl, lo b h']; exact hl.sl b β e
    · rw [(hw.fresh b h').2.2.1] at e; cases e
  · obtain ⟨β, arr, el, k1, k2, k3, k4⟩ := hw'.bx b cs (e1 _ _ e)
    exact ⟨β, arr, el, by rw [gbx, lo b (low (.inl (by rw [e]; simp)))]; exact k1, k2, k3, fun i c v a c' => ren_ (hb b cs e c (List.mem_of_getElem? a)) (k4 i c v a c')⟩
  · exact (hw'.mp b es (e2 _ _ e)).closed (by rw [gmp, lo b (low (.inr (.inl (by rw [e]; simp))))]) (fun β o e => (gst β o).1 e) (hm b es e)
  · have hlt := low (i := b) (.inr (.inr (by rw [e]; simp)))
    rcases hw'.sl b xs (e3 _ _ e) with ⟨g, rfl⟩ | ⟨β, o, s, cap, arr, el, k1, k2, k3, k4, k5, k6⟩
    · exact .inl ⟨by rw [gsl, lo b hlt]; exact g, rfl⟩
    · refine .inr ⟨β, o, s, cap, arr, el, by rw [gsl, lo b hlt]; exact k1, k2, k3, k4, k5, fun i j c v hc hv => ?_⟩
      unfold rowCell at hc
      obtain ⟨x, hx, hcj⟩ := Option.bind_eq_some_iff.1 hc
      have hcl := hs b xs e x (List.mem_of_getElem? hx)
      have hc2 : Cl c := by
        cases x with
        | agg cs =>
          cases hcl with
          | agg _ h => exact h c (List.mem_of_getElem? hcj)
        | _ =>
          have := List.mem_of_getElem? hcj
          simp only [AV.cells, List.mem_singleton] at this
          subst this; exact hcl
      exact (k6 i j c v (by unfold rowCell; rw [hx, Option.bind_some]; exact hcj) hv).closed (fun β o e => (gst β o).1 e) hc2
  · obtain ⟨a1, a2, a3⟩ := hw'.own β k (own_ β k hk)
    exact ⟨by rw [hG2]; exact a1, fun k' hk' => a2 k' (own_ _ _ hk'), fun o e => a3 o ((gst β o).2 e)⟩
  · obtain ⟨_, _, _, f1, f2, f3⟩ := hw.fresh b hb'
    obtain ⟨g1, g2, g3⟩ := hi b hb'
    exact ⟨by rw [gbx]; exact g1, by rw [gmp]; exact g2, by rw [gsl]; exact g3, f1, f2, f3⟩
/-- Such a call, in a region that draws. -/
theorem yl_acall {K : List AV → Prop} {f : Operand} {aa : Array Operand} {ts : Array TypeId} (ho : o.op = .call { callee := .value f, args := aa, argTypes := ts }) (hg : o.guard = none)
    {F : FuncId} {first cap : List AV} (hf : acallee (aev fr f) = some (F, first, cap)) (hc : callable P F = true) {args : List AV} (ha : first ++ aa.toList.map (aev fr) ++ cap = args) {r : AV} (h : ACall P F args σ fun r' τ => r' = r ∧ τ = σ)
    (hk : Shut (YRun P ops σ K rest (aput fr o.dst r))) : YL P ops σ K (o :: rest) fr :=
  ⟨_, yld_opq hg fun ρ hρ => by
    have e1 : ρ f = aev fr f := hρ f (by rw [ho]; simp [Op.operands, Call.operands])
    have e2 : aa.toList.map ρ = aa.toList.map (aev fr) := List.map_congr_left fun x hx => hρ x (by rw [ho]; simp [Op.operands, Call.operands]; exact .inr (by simpa using hx))
    exact opq_call ho (by rw [e1]; exact hf) hc (by rw [e2, ha]; exact h), yl_run hk.out⟩
end Go.AL
/-! Calls of the document's methods from other memory. -/
namespace Go.AL
open Go.Proofs
set_option linter.unusedSimpArgs false
set_option linter.unusedVariables false
/-- A method of the document's arena. -/
def RC (P : Program) (f : FuncId) (args : List AV) (size : Int) (nds : List Nd) (is : List Bool) (R : AV → List Nd → List Bool → Prop) : Prop :=
  ACall P f (.ptr 0 0 :: args) (rcS size nds is 1 2 [] [] 3) fun r τ => ∃ nds' is' k1 k2 m, R r nds' is' ∧ RcN k1 k2 m [] [] ∧ (rcS size nds' is' k1 k2 [] [] m).Le τ
structure RcAt (σ : ASt) (b j1 j2 : Nat) (size : Int) (nds : List Nd) (is : List Bool) : Prop where
  bx : σ.bx b = some [vi size, .hsl j1 0 nds.length, .hsl j2 0 is.length]
  s1 : σ.sl j1 = some (nds.map ndA)
  s2 : σ.sl j2 = some (is.map fun b => vb b)
  n1 : b ≠ j1
  n2 : b ≠ j2
  n3 : j1 ≠ j2
  zb : σ.mp b = none ∧ σ.sl b = none
  z1 : σ.bx j1 = none ∧ σ.mp j1 = none
  z2 : σ.bx j2 = none ∧ σ.mp j2 = none
theorem cl_nds (nds : List Nd) : ∀ c ∈ nds.map ndA, Cl c := fun c hc => by obtain ⟨_, _, rfl⟩ := List.mem_map.1 hc; exact cl_ndA _
theorem cl_iss (is : List Bool) : ∀ c ∈ is.map (fun b => (vb b : AV)), Cl c := fun c hc => by obtain ⟨_, _, rfl⟩ := List.mem_map.1 hc; exact .p _
/-- What stays of memory. -/
structure RcStay (σ σ' : ASt) (b j1 j2 k1 k2 : Nat) : Prop where
  bx : ∀ i < σ.next, i ≠ b → σ'.bx i = σ.bx i
  mp : ∀ i < σ.next, σ'.mp i = σ.mp i
  sl : ∀ i < σ.next, i ≠ j1 → i ≠ j2 → i ≠ b → σ'.sl i = σ.sl i
  k1 : (k1 = j1 ∨ k1 = j2 ∨ σ.next ≤ k1) ∧ k1 < σ'.next
  k2 : (k2 = j1 ∨ k2 = j2 ∨ σ.next ≤ k2) ∧ k2 < σ'.next
  next : σ.next ≤ σ'.next
theorem RC.call {P : Program} {σ : ASt} {f : FuncId} {args : List AV} {size : Int} {nds : List Nd} {is : List Bool} {R : AV → List Nd → List Bool → Prop} {b j1 j2 : Nat} (h : RC P f args size nds is R) (ha : ∀ a ∈ args, Cl a) (hr : ∀ r nds is, R r nds is → Cl r) (at_ : RcAt σ b j1 j2 size nds is) :
    ACall P f (.ptr b 0 :: args) σ fun r σ' => ∃ nds' is' k1 k2, R r nds' is' ∧ RcAt σ' b k1 k2 size nds' is' ∧ RcStay σ σ' b j1 j2 k1 k2 := by
  obtain ⟨hb, hs1, hs2, n1, n2, n3, ⟨zb1, zb2⟩, ⟨z11, z12⟩, ⟨z21, z22⟩⟩ := at_
  refine acall_ok fun hok => ?_
  have hbn : b < σ.next := by
    rcases Nat.lt_or_ge b σ.next with h' | h'
    · exact h'
    · rw [hok.bx b h'] at hb; cases hb
  have h1n : j1 < σ.next := by
    rcases Nat.lt_or_ge j1 σ.next with h' | h'
    · exact h'
    · rw [hok.sl j1 h'] at hs1; cases hs1
  have h2n : j2 < σ.next := by
    rcases Nat.lt_or_ge j2 σ.next with h' | h'
    · exact h'
    · rw [hok.sl j2 h'] at hs2; cases hs2
  obtain ⟨ρ, hρ⟩ : ∃ ρ, ρ = ridx [b, j1, j2] σ.next := ⟨_, rfl⟩
  have r0 : ρ 0 = b := by rw [hρ]; rfl
  have r1 : ρ 1 = j1 := by rw [hρ]; rfl
  have r2 : ρ 2 = j2 := by rw [hρ]; rfl
  have r3 : ∀ k, 3 ≤ k → ρ k = σ.next + (k - 3) := fun k hk => by rw [hρ]; unfold ridx; rw [if_neg (by simp; omega)]; rfl
  have hlt : ∀ x ∈ [b, j1, j2], x < σ.next := by intro x hx; simp at hx; rcases hx with rfl | rfl | rfl <;> assumption
  have hnd : [b, j1, j2].Nodup := by simp [n1, n2, n3]
  have h0 : ACall P f (.ptr 0 0 :: args) (rcS size nds is 1 2 [] [] 3) fun r τ => ∃ nds' is' k1 k2 m, (R r nds' is' ∧ RcN k1 k2 m [] []) ∧ 3 ≤ m ∧ τ = rcS size nds' is' k1 k2 [] [] m :=
    ACall.low h fun r τ ⟨nds', is', k1, k2, m, q1, q2, q3⟩ => ⟨rcS size nds' is' k1 k2 [] [] (max m 3 + τ.next), {
      bx := q3.bx
      mp := q3.mp
      sl := q3.sl
      next := by simp }, nds', is', k1, k2, max m 3 + τ.next, ⟨q1, ⟨by have := q2.l1; omega, by have := q2.l2; omega, q2.n, by simp, by simp, by simp, by simp⟩⟩, by omega, rfl⟩
  have h1 := ACall.frame (σ := σ) [b, j1, j2] rfl ⟨fun i hi => by
      have : ¬ i = 0 := by have : 3 ≤ i := hi; omega
      simp [this], fun _ _ => rfl, fun i hi => by
      have h1 : ¬ i = 1 := by have : 3 ≤ i := hi; omega
      have h2 : ¬ i = 2 := by have : 3 ≤ i := hi; omega
      simp [h1, h2]⟩ hlt hnd (fun i cs e => by
      simp only [rcS_bx] at e
      split at e
      · rename_i hi; subst hi
        obtain rfl := Option.some.inj e
        rw [← hρ]; simp [rens, ren, r0, r1, r2, hb]
      · cases e) (fun i es e => by cases e) (fun i xs e => by
      simp only [rcS_sl] at e
      split at e
      · rename_i hi; subst hi
        obtain rfl := Option.some.inj e
        rw [← hρ, r1, hs1, rens_cl (cl_nds _)]
      · split at e
        · rename_i hi; subst hi
          obtain rfl := Option.some.inj e
          rw [← hρ, r2, hs2, rens_cl (cl_iss _)]
        · cases e) h0
  rw [← hρ] at h1
  have ea : rens ρ (.ptr 0 0 :: args) = .ptr b 0 :: args := by
    simp only [rens, ren, r0]
    rw [rens_cl ha]
  rw [ea] at h1
  refine h1.mono fun r' σ' ⟨rc, τ, ⟨nds', is', k1, k2, m, ⟨q1, q2⟩, q3, q4⟩, e5, e6⟩ => ?_
  subst q4
  have hcl := hr _ _ _ q1
  rw [ren_closed _ hcl] at e5
  subst e5
  have hri : ∀ i, rinv [b, j1, j2] σ.next (ρ i) = some i := fun i => by rw [hρ]; exact ridx_rinv hlt hnd i
  have l1 := q2.l1
  have l2 := q2.l2
  have bxb : σ'.bx b = some [vi size, .hsl (ρ k1) 0 nds'.length, .hsl (ρ k2) 0 is'.length] := by
    rw [e6]
    simp only [back]
    have hb0 := hri 0
    rw [r0] at hb0
    rw [hb0, ← hρ]
    simp [rens, ren]
  have slk1 : σ'.sl (ρ k1) = some (nds'.map ndA) := by
    rw [e6]
    simp only [back]
    rw [hri k1, ← hρ]
    simp [rens_cl (cl_nds nds')]
  have slk2 : σ'.sl (ρ k2) = some (is'.map fun b => vb b) := by
    rw [e6]
    simp only [back]
    rw [hri k2, ← hρ]
    simp [rens_cl (cl_iss is'), Ne.symm q2.n]
  have bxo : ∀ i, i ≠ 0 → σ'.bx (ρ i) = none := fun i hi => by
    rw [e6]
    simp only [back]
    rw [hri i]
    simp [hi]
  have mpo : ∀ i, σ'.mp (ρ i) = none := fun i => by
    rw [e6]
    simp only [back]
    rw [hri i]
    simp
  have slo : ∀ i, i ≠ k1 → i ≠ k2 → σ'.sl (ρ i) = none := fun i h1 h2 => by
    rw [e6]
    simp only [back]
    rw [hri i]
    simp [h1, h2]
  have old : ∀ i, i < σ.next → i ≠ b → i ≠ j1 → i ≠ j2 → rinv [b, j1, j2] σ.next i = none := fun i h1 h2 h3 h4 => by
    unfold rinv
    rw [if_neg (by omega)]
    simp [rfind, h2, h3, h4]
  have hinj : ∀ i j, ρ i = ρ j → i = j := fun i j e => by have h1 := hri i; rw [e, hri j] at h1; exact (Option.some.inj h1).symm
  have nxt : σ'.next = σ.next + (m - 3) := by rw [e6]; rfl
  have place : ∀ k, 0 < k → k < m → (ρ k = j1 ∨ ρ k = j2 ∨ σ.next ≤ ρ k) ∧ ρ k < σ'.next := fun k h1 h2 => by
    by_cases e1 : k = 1
    · subst e1; rw [r1]; exact ⟨.inl rfl, by omega⟩
    · by_cases e2 : k = 2
      · subst e2; rw [r2]; exact ⟨.inr (.inl rfl), by omega⟩
      · rw [r3 k (by omega)]; exact ⟨.inr (.inr (by omega)), by omega⟩
  refine ⟨nds', is', ρ k1, ρ k2, q1, ⟨bxb, slk1, slk2, fun e => ?_, fun e => ?_, fun e => q2.n (hinj _ _ e), ⟨?_, ?_⟩, ⟨bxo k1 (by omega), mpo k1⟩, ⟨bxo k2 (by omega), mpo k2⟩⟩, ⟨fun i hi hib => ?_, fun i hi => ?_, fun i hi i1 i2 ib => ?_, place k1 l1.1 l1.2, place k2 l2.1 l2.2, by omega⟩⟩
  · rw [← r0] at e; have := hinj _ _ e; omega
  · rw [← r0] at e; have := hinj _ _ e; omega
  · rw [← r0]; exact mpo 0
  · rw [← r0]; exact slo 0 (by omega) (by omega)
  · by_cases i1 : i = j1
    · subst i1; rw [z11, ← r1]; exact bxo 1 (by omega)
    · by_cases i2 : i = j2
      · subst i2; rw [z21, ← r2]; exact bxo 2 (by omega)
      · rw [e6]
        simp only [back]
        rw [old i hi hib i1 i2]
  · by_cases ib : i = b
    · subst ib; rw [zb1, ← r0]; exact mpo 0
    · by_cases i1 : i = j1
      · subst i1; rw [z12, ← r1]; exact mpo 1
      · by_cases i2 : i = j2
        · subst i2; rw [z22, ← r2]; exact mpo 2
        · rw [e6]
          simp only [back]
          rw [old i hi ib i1 i2]
  · rw [e6]
    simp only [back]
    rw [old i hi ib i1 i2]
/-- One that reads alone. -/
def RCr (P : Program) (f : FuncId) (args : List AV) (size : Int) (nds : List Nd) (is : List Bool) (r : AV) : Prop :=
  ACall P f (.ptr 0 0 :: args) (rcS size nds is 1 2 [] [] 3) fun r' τ => r' = r ∧ τ = rcS size nds is 1 2 [] [] 3
theorem RCr.of {P : Program} {f : FuncId} {args : List AV} {size : Int} {nds : List Nd} {is : List Bool} {r : AV} (hr : Cl r) (h : ACall P f (.ptr 0 0 :: args) (rcS size nds is 1 2 [] [] 3) fun r' τ => r' = r ∧ ∃ m, 3 ≤ m ∧ (rcS size nds is 1 2 [] [] m).Le τ) : RCr P f args size nds is r := by
  refine ACall.tidy (fun i cs e c hc => ?_) (fun i es e => by cases e) (fun i xs e x hx => ?_) (h.mono fun r' τ ⟨e1, m, _, e2⟩ => ⟨e1, fun i cs e => e2.bx i cs e, (fun i es e => by cases e), fun i xs e => e2.sl i xs e⟩) hr
  · simp only [rcS_bx] at e
    split at e
    · obtain rfl := Option.some.inj e
      simp only [List.mem_cons, List.not_mem_nil, or_false] at hc
      intro π hπ
      rcases hc with rfl | rfl | rfl
      · rfl
      · simp only [ren]; rw [hπ 1 (by simp)]
      · simp only [ren]; rw [hπ 2 (by simp)]
    · cases e
  · simp only [rcS_sl] at e
    split at e
    · obtain rfl := Option.some.inj e; exact cl_nds _ x hx
    · split at e
      · obtain rfl := Option.some.inj e; exact cl_iss _ x hx
      · cases e
theorem RCr.call {P : Program} {σ : ASt} {f : FuncId} {args : List AV} {size : Int} {nds : List Nd} {is : List Bool} {r : AV} {b j1 j2 : Nat} (h : RCr P f args size nds is r) (ha : ∀ a ∈ args, Cl a) (hr : Cl r) (at_ : RcAt σ b j1 j2 size nds is) :
    ACall P f (.ptr b 0 :: args) σ fun r' σ' => r' = r ∧ σ' = σ := by
  obtain ⟨hb, hs1, hs2, n1, n2, n3, ⟨zb1, zb2⟩, ⟨z11, z12⟩, ⟨z21, z22⟩⟩ := at_
  refine acall_ok fun hok => ?_
  have hbn : b < σ.next := by
    rcases Nat.lt_or_ge b σ.next with h' | h'
    · exact h'
    · rw [hok.bx b h'] at hb; cases hb
  have h1n : j1 < σ.next := by
    rcases Nat.lt_or_ge j1 σ.next with h' | h'
    · exact h'
    · rw [hok.sl j1 h'] at hs1; cases hs1
  have h2n : j2 < σ.next := by
    rcases Nat.lt_or_ge j2 σ.next with h' | h'
    · exact h'
    · rw [hok.sl j2 h'] at hs2; cases hs2
  obtain ⟨ρ, hρ⟩ : ∃ ρ, ρ = ridx [b, j1, j2] σ.next := ⟨_, rfl⟩
  have r0 : ρ 0 = b := by rw [hρ]; rfl
  have r1 : ρ 1 = j1 := by rw [hρ]; rfl
  have r2 : ρ 2 = j2 := by rw [hρ]; rfl
  have hlt : ∀ x ∈ [b, j1, j2], x < σ.next := by intro x hx; simp at hx; rcases hx with rfl | rfl | rfl <;> assumption
  have hnd : [b, j1, j2].Nodup := by simp [n1, n2, n3]
  have h1 := ACall.frame1 (σ := σ) [b, j1, j2] rfl ⟨fun i hi => by
      have : ¬ i = 0 := by have : 3 ≤ i := hi; omega
      simp [this], fun _ _ => rfl, fun i hi => by
      have h1 : ¬ i = 1 := by have : 3 ≤ i := hi; omega
      have h2 : ¬ i = 2 := by have : 3 ≤ i := hi; omega
      simp [h1, h2]⟩ hlt hnd (fun i cs e => by
      simp only [rcS_bx] at e
      split at e
      · rename_i hi; subst hi
        obtain rfl := Option.some.inj e
        rw [← hρ]; simp [rens, ren, r0, r1, r2, hb]
      · cases e) (fun i es e => by cases e) (fun i xs e => by
      simp only [rcS_sl] at e
      split at e
      · rename_i hi; subst hi
        obtain rfl := Option.some.inj e
        rw [← hρ, r1, hs1, rens_cl (cl_nds _)]
      · split at e
        · rename_i hi; subst hi
          obtain rfl := Option.some.inj e
          rw [← hρ, r2, hs2, rens_cl (cl_iss _)]
        · cases e) h (fun r' τ ⟨e1, e2⟩ => by
      subst e1 e2
      refine ⟨.of_cl hr, fun i cs e hi c hc => ?_, fun i es e => (by cases e), fun i xs e hi x hx => .of_cl ?_⟩
      · simp only [rcS_bx] at e
        split at e
        · obtain rfl := Option.some.inj e
          simp only [List.mem_cons, List.not_mem_nil, or_false] at hc
          intro π hπ
          rcases hc with rfl | rfl | rfl
          · rfl
          · simp only [ren]; rw [hπ 1 (by simp)]
          · simp only [ren]; rw [hπ 2 (by simp)]
        · cases e
      · simp only [rcS_sl] at e
        split at e
        · obtain rfl := Option.some.inj e; exact cl_nds _ x hx
        · split at e
          · obtain rfl := Option.some.inj e; exact cl_iss _ x hx
          · cases e)
  rw [← hρ] at h1
  have ea : rens ρ (.ptr 0 0 :: args) = .ptr b 0 :: args := by
    simp only [rens, ren, r0]
    rw [rens_cl ha]
  rw [ea] at h1
  refine h1.mono fun r' σ' ⟨rc, τ, ⟨e1, e2⟩, e5, e6⟩ => ?_
  subst e1 e2
  refine ⟨by rw [e5, ren_closed _ hr], ?_⟩
  rw [e6]
  unfold back1
  have f0 : ∀ x, rfind x [b, j1, j2] 0 = if x = b then some 0 else if x = j1 then some 1 else if x = j2 then some 2 else none := fun x => by
    simp only [rfind]
  have n1' : ¬ j1 = b := fun e => n1 e.symm
  have n2' : ¬ j2 = b := fun e => n2 e.symm
  have n3' : ¬ j2 = j1 := fun e => n3 e.symm
  rw [← hρ]
  obtain ⟨sb, sm, ss, sn⟩ := σ
  simp only at *
  congr 1
  · funext x
    rw [f0]
    by_cases q1 : x = b
    · subst q1; simp [rens, ren, r1, r2, hb]
    · by_cases q2 : x = j1
      · subst q2; simp [n1', z11]
      · by_cases q3 : x = j2
        · subst q3; simp [n2', n3', z21]
        · simp [q1, q2, q3]
  · funext x
    rw [f0]
    by_cases q1 : x = b
    · subst q1; simp [zb1]
    · by_cases q2 : x = j1
      · subst q2; simp [n1', z12]
      · by_cases q3 : x = j2
        · subst q3; simp [n2', n3', z22]
        · simp [q1, q2, q3]
  · funext x
    rw [f0]
    by_cases q1 : x = b
    · subst q1; simp [zb2]
    · by_cases q2 : x = j1
      · subst q2; simp [n1', hs1, rens_cl (cl_nds _)]
      · by_cases q3 : x = j2
        · subst q3; simp [n2', n3', hs2, rens_cl (cl_iss _)]
        · simp [q1, q2, q3]
end Go.AL
/-! gridironlaw09: nodes, same, Fits. -/
namespace Go.AL
open Go.Proofs
set_option linter.unusedSimpArgs false
set_option linter.unusedVariables false
set_option maxHeartbeats 8000000 in
set_option maxRecDepth 100000 in
theorem same09_ok (x y : Nd) (h1 : x.refs.length ≤ 1000000) (h2 : y.refs.length ≤ 1000000) (h3 : x.nums.length ≤ 1000000) (h4 : y.nums.length ≤ 1000000) : APure Tryd.prog 17 [ndA x, ndA y] (vb (decide (x = y))) := by
  have i1 := rints_ok x.refs y.refs h1 h2
  have i2 := rints_ok x.nums y.nums h3 h4
  have hx : ndA x = .agg [vi x.k, .vsl (x.refs.map vi), .vsl (x.nums.map vi), vs x.text] := rfl
  have hy : ndA y = .agg [vi y.k, .vsl (y.refs.map vi), .vsl (y.nums.map vi), vs y.text] := rfl
  have he : decide (x = y) = (decide (x.k = y.k) && decide (x.text = y.text) && decide (x.refs = y.refs) && decide (x.nums = y.nums)) := by
    obtain ⟨k, r, n, t⟩ := x
    obtain ⟨k', r', n', t'⟩ := y
    by_cases a : k = k' <;> by_cases b : t = t' <;> by_cases c : r = r' <;> by_cases d : n = n' <;> simp [a, b, c, d]
  rw [hx, hy, he]
  generalize hR : decide (x.refs = y.refs) = R at *
  generalize hN : decide (x.nums = y.nums) = NN at *
  by_cases a : x.k = y.k
  · by_cases b : x.text = y.text
    · cases R
      · refine apure_in Tryd.func17 Tryd.ntmps17 rfl ?_
        repeat' first | refine aw_N [] (And.intro @a @b) (And.intro @i1 (And.intro @i2 trivial)) ?_ | refine aw_cond rfl (fun h => ?_) (fun h => ?_)
        all_goals first | rfl | (simp [tupOf, a, b]; done) | trace_state
      · cases NN
        · refine apure_in Tryd.func17 Tryd.ntmps17 rfl ?_
          repeat' first | refine aw_N [] (And.intro @a @b) (And.intro @i1 (And.intro @i2 trivial)) ?_ | refine aw_cond rfl (fun h => ?_) (fun h => ?_)
          all_goals first | rfl | (simp [tupOf, a, b]; done) | trace_state
        · refine apure_in Tryd.func17 Tryd.ntmps17 rfl ?_
          repeat' first | refine aw_N [] (And.intro @a @b) (And.intro @i1 (And.intro @i2 trivial)) ?_ | refine aw_cond rfl (fun h => ?_) (fun h => ?_)
          all_goals first | rfl | (simp [tupOf, a, b]; done) | trace_state
    · refine apure_in Tryd.func17 Tryd.ntmps17 rfl ?_
      repeat' first | refine aw_N [] (And.intro @a @b) (And.intro @i1 (And.intro @i2 trivial)) ?_ | refine aw_cond rfl (fun h => ?_) (fun h => ?_)
      all_goals first | rfl | (simp [tupOf, a, b]; done) | trace_state
  · refine apure_in Tryd.func17 Tryd.ntmps17 rfl ?_
    repeat' first | refine aw_N [] @a (And.intro @i1 (And.intro @i2 trivial)) ?_ | refine aw_cond rfl (fun h => ?_) (fun h => ?_)
    all_goals first | rfl | (simp [tupOf, a]; done) | trace_state
theorem APure.soft {P : Program} {f : FuncId} {args args' : List AV} {r : AV} (h : APure P f args' r) (hl : args.length = args'.length) (hs : ∀ (i : Nat) c c', args[i]? = some c → args'[i]? = some c' → ∀ G w v, Rep G w c v → Rep G w c' v) : APure P f args r :=
  ⟨fun G w vs hv hw => h.out G w vs ⟨hl ▸ hv.1, fun i c' v hc' hx => by
    obtain ⟨c, hc⟩ : ∃ c, args[i]? = some c := ⟨_, List.getElem?_eq_getElem (by have := (List.getElem?_eq_some_iff.1 hc').1; omega)⟩
    exact hs i c c' hc hc' G w v (hv.2 i c v hc hx)⟩ hw⟩
theorem rep_nd0 {G : Ghost} {w : World} {v : Value} (h : Rep G w nd0 v) : Rep G w (ndA ndZ) v := by
  unfold nd0 at h
  cases h with
  | agg _ cs hl hr =>
    refine .agg _ cs hl fun i c u hc hu => ?_
    match i, hc with
    | 0, hc => exact hr 0 c u hc hu
    | 1, hc => cases hc; exact rep_nil (hr 1 _ u rfl hu)
    | 2, hc => cases hc; exact rep_nil (hr 2 _ u rfl hu)
    | 3, hc => exact hr 3 c u hc hu
    | i + 4, hc => cases hc
def NoI (l : List Nd) (q : Nat) (fr : List AV) (σ : ASt) : Prop := ∃ i ko T : Nat, i + q = l.length ∧ ko < T ∧ σ = mkSt [] [(ko, (l.take i).map ndA)] T ∧ fr = frm 36 [(0, .vsl (l.map ndA)), (3, .hsl ko 0 i), (4, vi (i : Nat))]
set_option maxHeartbeats 8000000 in
set_option maxRecDepth 100000 in
theorem nodes09_ok (l : List Nd) (hl : l.length ≤ 1000000) : APure Tryd.prog 21 [.vsl (l.map ndA)] (.vsl (l.map ndA)) := by
  have hlv : (l.map ndA).length = l.length := List.length_map _
  refine apure_in Tryd.func21 Tryd.ntmps21 rfl ?_
  repeat' first | refine aw_W [] trivial trivial ?_ | refine aw_cond rfl (fun h => ?_) (fun h => ?_)
  refine aw_nilH (i := 3) rfl ?_
  simp -implicitDefEqProofs only [List.set]
  refine aw_loopW [0, 3, 4] (fun q fr σ => NoI l q fr σ) l.length ?_ ?_
  · exact ⟨mkSt [] [(0, [])] 1, le_mkSt (by simp) (by simp [ASt.addSl, σ0]) (by simp [ASt.addSl, σ0]), 0, 0, 1, by omega, by omega, by simp, by simp [σ0]⟩
  · rintro q fr σ ⟨i, ko, T, hi, hk, rfl, rfl⟩
    simp -implicitDefEqProofs
    by_cases hlt : i < l.length
    · have hlti : (i : Int) < l.length := by omega
      obtain ⟨x, hx1⟩ : ∃ x, l[i] = x := ⟨_, rfl⟩
      have hxg : l[i]? = some x := by rw [List.getElem?_eq_getElem hlt, hx1]
      have wi : IntKind.i64.wrap ((i : Int) + 1) = (i : Int) + 1 := wrap_id (by omega) (by omega)
      have hnd : ndA x = .agg [vi x.k, .vsl (x.refs.map vi), .vsl (x.nums.map vi), vs x.text] := rfl
      have htk : l.take (i + 1) = l.take i ++ [x] := by rw [List.take_add_one, hxg]; rfl
      repeat' first | refine aw_W [] (And.intro @hlt (And.intro @hlti (And.intro @hlv (And.intro @hx1 (And.intro @hxg @hnd))))) trivial ?_ | refine aw_cond rfl (fun h => ?_) (fun h => ?_)
      have htl : ((l.take i).map ndA).length = i := by simp; omega
      refine zl_append (by simp) rfl rfl rfl (b := ko) (xs := (l.take i).map ndA) (by simp) (by rw [htl]; omega) rfl (by simp) te54 tet54 tz43 rfl (fun y hy => by obtain ⟨_, _, rfl⟩ := List.mem_map.1 hy; rfl) (by simp [AV.cells]) (by simp; omega) (by simp; omega) ?_
      simp -implicitDefEqProofs
      repeat first | refine zcurL (by decide +kernel) ?_ | refine zcurH (by decide +kernel) ?_ | refine zcurL' (by decide +kernel) ?_ | refine zcurH' (by decide +kernel) ?_
      repeat' first | refine aw_W [] @wi trivial ?_ | refine aw_cond rfl (fun h => ?_) (fun h => ?_)
      exact ⟨q - 1, by omega, mkSt [] [(T, (l.take (i + 1)).map ndA)] (T + 1), le_mkSt (by simp) (by rw [htk]; simp [ASt.addSl, ASt.dropSl, hnd, List.take_of_length_le, Nat.min_eq_left (Nat.le_of_lt hlt)]) (by simp [ASt.addSl]), i + 1, T, T + 1, by omega, by omega, rfl, by simp⟩
    · have hlti : ¬ (i : Int) < l.length := by omega
      rw [List.take_of_length_le (by omega)]
      obtain rfl : i = l.length := by omega
      repeat' first | refine aw_V [] (And.intro @hlti @hlv) trivial ?_ | refine aw_cond rfl (fun h => ?_) (fun h => ?_)
      simp [tupOf, List.take_of_length_le]
/-- An act. -/
structure Ac where
  k : Int
  l : List Nd
  roots : List Int
def acA (a : Ac) : AV := .agg [.p (.int .u8 a.k), .vsl (a.l.map ndA), .vsl (a.roots.map vi)]
structure NdIn (x : Nd) : Prop where
  k : -9223372036854775808 ≤ x.k ∧ x.k ≤ 9223372036854775807
  refs : ∀ n ∈ x.refs, -9223372036854775808 ≤ n ∧ n ≤ 9223372036854775807
  nums : ∀ n ∈ x.nums, -9223372036854775808 ≤ n ∧ n ≤ 9223372036854775807
  rl : x.refs.length ≤ 9223372036854775807
  nl : x.nums.length ≤ 9223372036854775807
  tl : x.text.size ≤ 9223372036854775807
structure AcIn (a : Ac) : Prop where
  k : 0 ≤ a.k ∧ a.k < 256
  nd : ∀ x ∈ a.l, NdIn x
  roots : ∀ n ∈ a.roots, -9223372036854775808 ≤ n ∧ n ≤ 9223372036854775807
  ll : a.l.length ≤ 9223372036854775807
  rl : a.roots.length ≤ 9223372036854775807
structure AcOk (a : Ac) : Prop where
  k : 0 ≤ a.k ∧ a.k < 256
  nd : ∀ x ∈ a.l, NdOk x ∧ x.refs.length ≤ 200 ∧ x.nums.length ≤ 200
  roots : ∀ n ∈ a.roots, -9223372036854775808 ≤ n ∧ n ≤ 9223372036854775807
  ll : a.l.length ≤ 200
  rl : a.roots.length ≤ 200
/-- Nodes, gone through. -/
def fitN : List Nd → Nat → Nat → Option (Nat × Nat)
  | [], n, b => some (n, b)
  | x :: l, n, b => if 200 < x.refs.length ∨ 200 < x.nums.length ∨ 5000 < x.text.size then none
    else if 2000 < n + x.refs.length + x.nums.length ∨ 5000 < b + x.text.size then none else fitN l (n + x.refs.length + x.nums.length) (b + x.text.size)
def fitA : List Ac → Nat → Nat → Bool
  | [], n, b => true
  | a :: l, n, b => if 200 < a.roots.length ∨ 200 < a.l.length then false else match fitN a.l (n + a.l.length) b with
    | none => false
    | some (n', b') => fitA l n' b'
def fits9 (l : List Ac) : Bool := !decide (200 < l.length) && fitA l 0 0
theorem fitN_ok : ∀ (l : List Nd) (n b n' b' : Nat), fitN l n b = some (n', b') → ∀ x ∈ l, x.refs.length ≤ 200 ∧ x.nums.length ≤ 200 ∧ x.text.size ≤ 5000
  | [], _, _, _, _, _, x, hx => by cases hx
  | y :: l, n, b, n', b', h, x, hx => by
    rw [fitN] at h
    split at h
    · cases h
    · rename_i h1
      split at h
      · cases h
      · rcases List.mem_cons.1 hx with rfl | hx
        · omega
        · exact fitN_ok l _ _ _ _ h x hx
theorem fitA_ok : ∀ (l : List Ac) (n b : Nat), fitA l n b = true → (∀ a ∈ l, AcIn a) → ∀ a ∈ l, AcOk a
  | [], _, _, _, _, a, ha => by cases ha
  | y :: l, n, b, h, hin, a, ha => by
    rw [fitA] at h
    split at h
    · cases h
    · rename_i h1
      split at h
      · cases h
      · rename_i n' b' hq
        rcases List.mem_cons.1 ha with rfl | ha
        · have hi := hin a (by simp)
          refine ⟨hi.k, fun x hx => ?_, hi.roots, by omega, by omega⟩
          have h2 := fitN_ok _ _ _ _ _ hq x hx
          have h3 := hi.nd x hx
          exact ⟨⟨h3.k, h3.refs, h3.nums, by omega, by omega, by omega⟩, h2.1, h2.2.1⟩
        · exact fitA_ok l n' b' h (fun c hc => hin c (List.mem_cons_of_mem _ hc)) a ha
end Go.AL
/-! gridironlaw09.Fits. -/
namespace Go.AL
open Go.Proofs
set_option linter.unusedSimpArgs false
set_option linter.unusedVariables false
def FtI (l : List Ac) (W : Bool) (q : Nat) (fr : List AV) (σ : ASt) : Prop := ∃ i n b T : Nat, i + q = l.length ∧ fitA (l.drop i) n b = W ∧ n ≤ 2000 + 200 * i ∧ b ≤ 5000 ∧ σ = mkSt [] [] T ∧ fr = frm 95 [(0, .vsl (l.map acA)), (3, vi (n : Nat)), (4, vi (b : Nat)), (5, vi (i : Nat))]
def FtJ (l : List Ac) (W : Bool) (i : Nat) (a : Ac) (q : Nat) (fr : List AV) (σ : ASt) : Prop := ∃ k n b T : Nat, k + q = a.l.length ∧ (match fitN (a.l.drop k) n b with | none => false | some (n', b') => fitA (l.drop (i + 1)) n' b') = W ∧ n ≤ 2000 + 200 * (i + 1) ∧ b ≤ 5000 ∧ σ = mkSt [] [] T ∧ fr = frm 95 [(0, .vsl (l.map acA)), (3, vi (n : Nat)), (4, vi (b : Nat)), (5, vi (i : Nat)), (6, vi (k : Nat))]
set_option maxHeartbeats 16000000 in
set_option maxRecDepth 100000 in
theorem fits9_ok (l : List Ac) (hll : l.length ≤ 9223372036854775807) (hin : ∀ a ∈ l, AcIn a) : APure Tryd.prog 5 [.vsl (l.map acA)] (vb (fits9 l)) := by
  have hlv : (l.map acA).length = l.length := List.length_map _
  by_cases hl : 200 < l.length
  · have hli : (200 : Int) < (l.length : Int) := by omega
    have e : fits9 l = false := by simp [fits9, hl]
    rw [e]
    refine apure_in Tryd.func5 Tryd.ntmps5 rfl ?_
    repeat' first | refine aw_N [7] (And.intro @hl (And.intro @hli @hlv)) trivial ?_ | refine aw_cond rfl (fun h => ?_) (fun h => ?_)
    all_goals first | rfl | (simp [tupOf]; done) | trace_state
  · have hli : ¬ (200 : Int) < (l.length : Int) := by omega
    obtain ⟨W, hW⟩ : ∃ W, fitA l 0 0 = W := ⟨_, rfl⟩
    have e : fits9 l = W := by simp [fits9, hl, hW]
    rw [e]
    refine apure_in Tryd.func5 Tryd.ntmps5 rfl ?_
    repeat' first | refine aw_N [7] (And.intro @hl (And.intro @hli @hlv)) trivial ?_ | refine aw_cond rfl (fun h => ?_) (fun h => ?_)
    refine aw_loopW [0, 3, 4, 5] (fun q fr σ => FtI l W q fr σ) l.length ?_ ?_
    · exact ⟨mkSt [] [] 0, le_mkSt (by simp) (by simp) (by simp [σ0]), 0, 0, 0, 0, by omega, hW, by omega, by omega, rfl, by simp⟩
    · clear hW e
      rintro q fr σ ⟨i, n, b, T, hi, hW, hn, hb, rfl, rfl⟩
      simp -implicitDefEqProofs
      by_cases hlt : i < l.length
      · have hlti : (i : Int) < l.length := by omega
        obtain ⟨a, ha1⟩ : ∃ a, l[i] = a := ⟨_, rfl⟩
        have hag : l[i]? = some a := by rw [List.getElem?_eq_getElem hlt, ha1]
        have hai := hin a (List.mem_of_getElem? hag)
        have hal := hai.ll
        have har := hai.rl
        have hnd : acA a = .agg [.p (.int .u8 a.k), .vsl (a.l.map ndA), .vsl (a.roots.map vi)] := rfl
        have wi : IntKind.i64.wrap ((i : Int) + 1) = (i : Int) + 1 := wrap_id (by omega) (by omega)
        have hv1 : (a.l.map ndA).length = a.l.length := List.length_map _
        have hv2 : (a.roots.map vi).length = a.roots.length := List.length_map _
        rw [List.drop_eq_getElem_cons hlt, ha1, fitA] at hW
        by_cases c1 : 200 < a.roots.length
        · have c1i : (200 : Int) < (a.roots.length : Int) := by omega
          rw [if_pos (.inl c1)] at hW
          repeat' first | refine aw_N [7] (And.intro @hlt (And.intro @hlti (And.intro @ha1 (And.intro @hag (And.intro @hlv (And.intro @hnd (And.intro @hv1 (And.intro @hv2 (And.intro @c1 @c1i))))))))) trivial ?_ | refine aw_cond rfl (fun h => ?_) (fun h => ?_)
          rw [← hW]
          all_goals first | rfl | (simp [tupOf]; done) | trace_state
        · have c1i : ¬ (200 : Int) < (a.roots.length : Int) := by omega
          by_cases c2 : 200 < a.l.length
          · have c2i : (200 : Int) < (a.l.length : Int) := by omega
            rw [if_pos (.inr c2)] at hW
            repeat' first | refine aw_N [7] (And.intro @hlt (And.intro @hlti (And.intro @ha1 (And.intro @hag (And.intro @hlv (And.intro @hnd (And.intro @hv1 (And.intro @hv2 (And.intro @c1 (And.intro @c1i (And.intro @c2 @c2i))))))))))) trivial ?_ | refine aw_cond rfl (fun h => ?_) (fun h => ?_)
            rw [← hW]
            all_goals first | rfl | (simp [tupOf]; done) | trace_state
          · have c2i : ¬ (200 : Int) < (a.l.length : Int) := by omega
            rw [if_neg (by omega)] at hW
            have wn : IntKind.i64.wrap ((n : Int) + (a.l.length : Int)) = (n : Int) + (a.l.length : Int) := wrap_id (by omega) (by omega)
            repeat' first | refine aw_N [7] (And.intro @hlt (And.intro @hlti (And.intro @ha1 (And.intro @hag (And.intro @hlv (And.intro @hnd (And.intro @hv1 (And.intro @hv2 (And.intro @c1 (And.intro @c1i (And.intro @c2 (And.intro @c2i @wn)))))))))))) trivial ?_ | refine aw_cond rfl (fun h => ?_) (fun h => ?_)
            refine aw_loopW [0, 3, 4, 5, 6] (fun q fr σ => FtJ l W i a q fr σ) a.l.length ?_ ?_
            · exact ⟨mkSt [] [] T, le_mkSt (by simp) (by simp) (by simp), 0, n + a.l.length, b, T, by omega, hW, by omega, hb, rfl, by simp⟩
            · clear hW wn hn hb n b
              rintro q2 fr σ ⟨k, n, b, T, hk, hW, hn, hb, rfl, rfl⟩
              simp -implicitDefEqProofs
              by_cases hltk : k < a.l.length
              · have hltki : (k : Int) < a.l.length := by omega
                obtain ⟨x, hx1⟩ : ∃ x, a.l[k] = x := ⟨_, rfl⟩
                have hxg : a.l[k]? = some x := by rw [List.getElem?_eq_getElem hltk, hx1]
                have hxi := hai.nd x (List.mem_of_getElem? hxg)
                have hx4 := hxi.rl
                have hx5 := hxi.nl
                have hx6 := hxi.tl
                have hnx : ndA x = .agg [vi x.k, .vsl (x.refs.map vi), .vsl (x.nums.map vi), vs x.text] := rfl
                have wk : IntKind.i64.wrap ((k : Int) + 1) = (k : Int) + 1 := wrap_id (by omega) (by omega)
                have hv3 : (x.refs.map vi).length = x.refs.length := List.length_map _
                have hv4 : (x.nums.map vi).length = x.nums.length := List.length_map _
                rw [List.drop_eq_getElem_cons hltk, hx1, fitN] at hW
                by_cases d1 : 200 < x.refs.length
                · have d1i : (200 : Int) < (x.refs.length : Int) := by omega
                  rw [if_pos (.inl d1)] at hW
                  repeat' first | refine aw_N [7] (And.intro @hlt (And.intro @hlti (And.intro @ha1 (And.intro @hag (And.intro @hlv (And.intro @hnd (And.intro @hv1 (And.intro @hv2 (And.intro @hltk (And.intro @hltki (And.intro @hx1 (And.intro @hxg (And.intro @hnx (And.intro @hv3 (And.intro @hv4 (And.intro @d1 @d1i)))))))))))))))) trivial ?_ | refine aw_cond rfl (fun h => ?_) (fun h => ?_)
                  rw [← hW]
                  all_goals first | rfl | (simp [tupOf]; done) | trace_state
                · have d1i : ¬ (200 : Int) < (x.refs.length : Int) := by omega
                  by_cases d2 : 200 < x.nums.length
                  · have d2i : (200 : Int) < (x.nums.length : Int) := by omega
                    rw [if_pos (.inr (.inl d2))] at hW
                    repeat' first | refine aw_N [7] (And.intro @hlt (And.intro @hlti (And.intro @ha1 (And.intro @hag (And.intro @hlv (And.intro @hnd (And.intro @hv1 (And.intro @hv2 (And.intro @hltk (And.intro @hltki (And.intro @hx1 (And.intro @hxg (And.intro @hnx (And.intro @hv3 (And.intro @hv4 (And.intro @d1 (And.intro @d1i (And.intro @d2 @d2i)))))))))))))))))) trivial ?_ | refine aw_cond rfl (fun h => ?_) (fun h => ?_)
                    rw [← hW]
                    all_goals first | rfl | (simp [tupOf]; done) | trace_state
                  · have d2i : ¬ (200 : Int) < (x.nums.length : Int) := by omega
                    by_cases d3 : 5000 < x.text.size
                    · have d3i : (5000 : Int) < (x.text.size : Int) := by omega
                      rw [if_pos (.inr (.inr d3))] at hW
                      repeat' first | refine aw_N [7] (And.intro @hlt (And.intro @hlti (And.intro @ha1 (And.intro @hag (And.intro @hlv (And.intro @hnd (And.intro @hv1 (And.intro @hv2 (And.intro @hltk (And.intro @hltki (And.intro @hx1 (And.intro @hxg (And.intro @hnx (And.intro @hv3 (And.intro @hv4 (And.intro @d1 (And.intro @d1i (And.intro @d2 (And.intro @d2i (And.intro @d3 @d3i)))))))))))))))))))) trivial ?_ | refine aw_cond rfl (fun h => ?_) (fun h => ?_)
                      rw [← hW]
                      all_goals first | rfl | (simp [tupOf]; done) | trace_state
                    · have d3i : ¬ (5000 : Int) < (x.text.size : Int) := by omega
                      rw [if_neg (by omega)] at hW
                      have w1 : IntKind.i64.wrap ((n : Int) + (x.refs.length : Int)) = (n : Int) + (x.refs.length : Int) := wrap_id (by omega) (by omega)
                      have w2 : IntKind.i64.wrap ((n : Int) + (x.refs.length : Int) + (x.nums.length : Int)) = (n : Int) + (x.refs.length : Int) + (x.nums.length : Int) := wrap_id (by omega) (by omega)
                      have w3 : IntKind.i64.wrap ((b : Int) + (x.text.size : Int)) = (b : Int) + (x.text.size : Int) := wrap_id (by omega) (by omega)
                      by_cases f1 : 2000 < n + x.refs.length + x.nums.length
                      · have f1i : (2000 : Int) < (n : Int) + (x.refs.length : Int) + (x.nums.length : Int) := by omega
                        rw [if_pos (.inl f1)] at hW
                        repeat' first | refine aw_N [7] (And.intro @hlt (And.intro @hlti (And.intro @ha1 (And.intro @hag (And.intro @hlv (And.intro @hnd (And.intro @hv1 (And.intro @hv2 (And.intro @hltk (And.intro @hltki (And.intro @hx1 (And.intro @hxg (And.intro @hnx (And.intro @hv3 (And.intro @hv4 (And.intro @d1 (And.intro @d1i (And.intro @d2 (And.intro @d2i (And.intro @d3 (And.intro @d3i (And.intro @w1 (And.intro @w2 (And.intro @w3 @f1i)))))))))))))))))))))))) trivial ?_ | refine aw_cond rfl (fun h => ?_) (fun h => ?_)
                        rw [← hW]
                        all_goals first | rfl | (simp [tupOf]; done) | trace_state
                      · have f1i : ¬ (2000 : Int) < (n : Int) + (x.refs.length : Int) + (x.nums.length : Int) := by omega
                        by_cases f2 : 5000 < b + x.text.size
                        · have f2i : (5000 : Int) < (b : Int) + (x.text.size : Int) := by omega
                          rw [if_pos (.inr f2)] at hW
                          repeat' first | refine aw_N [7] (And.intro @hlt (And.intro @hlti (And.intro @ha1 (And.intro @hag (And.intro @hlv (And.intro @hnd (And.intro @hv1 (And.intro @hv2 (And.intro @hltk (And.intro @hltki (And.intro @hx1 (And.intro @hxg (And.intro @hnx (And.intro @hv3 (And.intro @hv4 (And.intro @d1 (And.intro @d1i (And.intro @d2 (And.intro @d2i (And.intro @d3 (And.intro @d3i (And.intro @w1 (And.intro @w2 (And.intro @w3 (And.intro @f1i @f2i))))))))))))))))))))))))) trivial ?_ | refine aw_cond rfl (fun h => ?_) (fun h => ?_)
                          rw [← hW]
                          all_goals first | rfl | (simp [tupOf]; done) | trace_state
                        · have f2i : ¬ (5000 : Int) < (b : Int) + (x.text.size : Int) := by omega
                          rw [if_neg (by omega)] at hW
                          repeat' first | refine aw_N [7] (And.intro @hlt (And.intro @hlti (And.intro @ha1 (And.intro @hag (And.intro @hlv (And.intro @hnd (And.intro @hv1 (And.intro @hv2 (And.intro @hltk (And.intro @hltki (And.intro @hx1 (And.intro @hxg (And.intro @hnx (And.intro @hv3 (And.intro @hv4 (And.intro @d1 (And.intro @d1i (And.intro @d2 (And.intro @d2i (And.intro @d3 (And.intro @d3i (And.intro @w1 (And.intro @w2 (And.intro @w3 (And.intro @f1i (And.intro @f2i @wk)))))))))))))))))))))))))) trivial ?_ | refine aw_cond rfl (fun h => ?_) (fun h => ?_)
                          exact ⟨q2 - 1, by omega, mkSt [] [] (T + 1), le_mkSt (by simp) (by simp) (by simp), k + 1, n + x.refs.length + x.nums.length, b + x.text.size, T + 1, by omega, hW, by omega, by omega, rfl, by simp⟩
              · have hltki : ¬ (k : Int) < a.l.length := by omega
                rw [List.drop_eq_nil_of_le (by omega), fitN] at hW
                repeat' first | refine aw_N [7] (And.intro @hlt (And.intro @hlti (And.intro @ha1 (And.intro @hag (And.intro @hlv (And.intro @hnd (And.intro @hv1 (And.intro @hltki @wi)))))))) trivial ?_ | refine aw_cond rfl (fun h => ?_) (fun h => ?_)
                exact ⟨q - 1, by omega, mkSt [] [] T, le_mkSt (by simp) (by simp) (by simp), i + 1, n, b, T, by omega, hW, hn, hb, rfl, by simp⟩
      · have hlti : ¬ (i : Int) < l.length := by omega
        rw [List.drop_eq_nil_of_le (by omega), fitA] at hW
        repeat' first | refine aw_N [7] (And.intro @hlti @hlv) trivial ?_ | refine aw_cond rfl (fun h => ?_) (fun h => ?_)
        rw [← hW]
        all_goals first | rfl | (simp [tupOf]; done) | trace_state
end Go.AL
/-! gridironlaw09: memory with both arenas; the document's methods called from there. -/
namespace Go.AL
open Go.Proofs
set_option linter.unusedSimpArgs false
set_option linter.unusedVariables false
section
variable (room : Int) (es fs : List (AV × AV)) (c : Int) (nds : List Nd) (is : List Bool) (j1 j2 : Nat) (bs : List (Nat × List AV)) (m i : Nat)
end
section
variable {room : Int} {es fs : List (AV × AV)} {c : Int} {nds : List Nd} {is : List Bool} {j1 j2 : Nat} {bs : List (Nat × List AV)} {m : Nat}
end
theorem cl_vis (l : List Int) : Cl (.vsl (l.map vi)) := .vsl _ fun c hc => by obtain ⟨_, _, rfl⟩ := List.mem_map.1 hc; exact .p _
theorem cl_tup2 {a b : AV} (ha : Cl a) (hb : Cl b) : Cl (.tup [a, b]) := .tup _ fun c hc => by
  simp only [List.mem_cons, List.not_mem_nil, or_false] at hc
  rcases hc with rfl | rfl
  · exact ha
  · exact hb
theorem cl_one {x : AV} (h : Cl x) : ∀ a ∈ [x], Cl a := fun a ha => by obtain rfl := List.mem_singleton.1 ha; exact h
/-! ### the document's methods, so -/
theorem RC.of {f : FuncId} {args : List AV} {size : Int} {nds : List Nd} {is : List Bool} {R : AV → ASt → Prop} {R' : AV → List Nd → List Bool → Prop} (h : ACall Tryd.prog f (.ptr 0 0 :: args) (rcS size nds is 1 2 [] [] 3) R) (hr : ∀ r τ, R r τ → ∃ nds' is' k1 k2 m, R' r nds' is' ∧ RcN k1 k2 m [] [] ∧ (rcS size nds' is' k1 k2 [] [] m).Le τ) : RC Tryd.prog f args size nds is R' := h.mono hr
end Go.AL
/-! gridironlaw09.step. -/
namespace Go.AL
open Go.Proofs
set_option linter.unusedSimpArgs false
set_option linter.unusedVariables false
end Go.AL
