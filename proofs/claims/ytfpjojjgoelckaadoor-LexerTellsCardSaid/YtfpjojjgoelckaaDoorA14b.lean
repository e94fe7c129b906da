import Derived.Test.YtfpjojjgoelckaaDoorA14
/-! Regions that draw their order, first what leaves all as it is, then what has its place: the second part may do anything. -/
namespace Go.AL
set_option linter.unusedVariables false
set_option linter.unusedSimpArgs false

variable {P : Program} {σ : ASt} {R : AV → ASt → Prop} {D : List Deferred} {Q : Exit → List AV → ASt → Prop} {fr : List AV} {ops : Array Oper}

def anyZ (P : Program) (md : Region.Mode) (ops : Array Oper) (σ : ASt) (K : Array Bool → List AV → Prop) : Nat → Array Bool → List AV → Prop
  | 0, listed, fr => K listed fr
  | n + 1, listed, fr => Region.ready md ops listed ≠ [] ∧ ∀ i ∈ Region.ready md ops listed, yOp P ops σ i (anyZ P md ops σ K n (listed.setIfInBounds i true)) fr
theorem wpAny_of_anyZ {md : Region.Mode} {K : Array Bool → List AV → Prop} {D : List Deferred} {Q : Exit → List AV → ASt → Prop} {m : Nat}
    (hK : ∀ listed fr, K listed fr → ∀ G a w, Sim G fr σ D a w → ∀ G0 w0, Le G0 w0 G w → wpAny P md ops (lift G0 w0 D Q) m listed a w) : ∀ (n : Nat) (listed : Array Bool) (fr : List AV) (G : Ghost) (a : Act) (w : World) (G0 : Ghost) (w0 : World),
    Le G0 w0 G w → Sim G fr σ D a w → anyZ P md ops σ K n listed fr → wpAny P md ops (lift G0 w0 D Q) (m + n) listed a w
  | 0, listed, fr, G, a, w, G0, w0, hl, hs, h => hK listed fr h G a w hs G0 w0 hl
  | n + 1, listed, fr, G, a, w, G0, w0, hl, hs, h => by
    refine ⟨fun h0 => absurd h0 h.1, fun i hi => ?_⟩
    have hy := h.2 i hi
    unfold yOp at hy
    unfold wpOp
    split
    · rename_i ho
      simp only [ho] at hy
      exact wpAny_of_anyZ hK n _ fr G a w G0 w0 hl hs hy
    · rename_i o ho
      simp only [ho] at hy
      obtain ⟨r, hr, hk⟩ := hy
      have hyl := hr G a w (fun t _ => hs.ev (.tmp t)) hs.w
      by_cases hw : Region.wanted o (yielded ops a.tmps) = true
      · rw [if_pos hw]
        refine .inl ?_
        have hq := hyl.1 hw
        unfold Oper.wp
        have key : ∀ v w', Outc G w (fun r' σ' => r' = r ∧ σ' = σ) v w' → wpAny P md ops (lift G0 w0 D Q) (m + n) (listed.setIfInBounds i true) (a.put o.dst v) w' := by
          rintro v w' ⟨r', G', σ', hl', hw', hr', e1, e2⟩
          rw [e1] at hr'
          rw [e2] at hw'
          exact wpAny_of_anyZ hK n _ _ G' _ w' G0 w0 (hl.trans hl') ((hs.le hl' hw').put o.dst hr') hk
        generalize (execOp a.eval o).run P w = n at hq
        cases n with
        | halt => exact hq.elim
        | ok n w' =>
          cases n with
          | value v => exact key v w' hq
          | skip => exact key undef w' hq
          | enter f args =>
            refine Calls.mono hq fun e w'' he => ?_
            cases e with
            | returned v => exact key v w'' he
            | panicked c => exact he.elim
            | outgrown => exact he.elim
          | _ => exact hq.elim
      · rw [if_neg hw]
        have hu := hyl.2 (by simpa using hw)
        exact wpAny_of_anyZ hK n _ _ G _ w G0 w0 hl (hs.put o.dst hu) hk
theorem anyZ_first {md : Region.Mode} {K : Array Bool → List AV → Prop} {i : Nat} {oi : Oper} {v : AV} (hi : ops[i]? = some oi)
    (hK : ∀ listed fr, i ∈ Region.ready md ops listed → K (listed.setIfInBounds i true) fr → ∀ j ∈ Region.ready md ops listed, j = i) : ∀ (n : Nat) (listed : Array Bool) (fr : List AV),
      (∀ j oj, ops[j]? = some oj → j ≠ i → listed.getD j true = false → (∀ e ∈ oj.after, Region.binds md e = true → e.on ≠ i) → oi.apart ops oj = true) →
      i ∈ Region.ready md ops listed → Yld P ops σ oi fr v →
      anyZ P md ops σ K n (listed.setIfInBounds i true) (aput fr oi.dst v) → anyZ P md ops σ K (n + 1) listed fr := by
  intro n
  have self : ∀ {K : List AV → Prop} {fr}, Yld P ops σ oi fr v → K (aput fr oi.dst v) → yOp P ops σ i K fr := fun hy hk => by
    unfold yOp; simp only [hi]; exact ⟨v, hy, hk⟩
  induction n with
  | zero =>
    intro listed fr _ hr hy H
    refine ⟨fun h => (by rw [h] at hr; cases hr), fun j hj => ?_⟩
    obtain rfl := hK _ _ hr H j hj
    exact self hy H
  | succ n ih =>
    intro listed fr hfree hr hy H
    refine ⟨fun h => (by rw [h] at hr; cases hr), fun j hj => ?_⟩
    by_cases hji : j = i
    · subst hji; exact self hy H
    · have h1 := H.2 j (ready_mono hj hji)
      obtain ⟨hjun, oj, hoj, hall⟩ := mem_ready.1 hj
      have hnot : ∀ e ∈ oj.after, Region.binds md e = true → e.on ≠ i := fun e he hb heq => by
        have h1 := hall e he hb
        have h0 := (mem_ready.1 hr).1
        rw [heq] at h1
        rcases Nat.lt_or_ge i listed.size with h' | h'
        · simp [h'] at h0 h1; rw [h0] at h1; cases h1
        · simp [Array.getElem?_eq_none h'] at h1
      have h2 := yOp_put hoj (hfree j oj hoj hji hjun hnot) hy h1
      have hfree' : ∀ k ok, ops[k]? = some ok → k ≠ i → (listed.setIfInBounds j true).getD k true = false →
          (∀ e ∈ ok.after, Region.binds md e = true → e.on ≠ i) → oi.apart ops ok = true := fun k ok hk hki hun hno => by
        refine hfree k ok hk hki ?_ hno
        by_cases hjk : j = k
        · subst hjk; exact hjun
        · rw [getD_set_ne true hjk] at hun; exact hun
      refine yOp_mono (fun fr' h3 => ih (listed.setIfInBounds j true) fr' hfree' (ready_mono hr (Ne.symm hji)) h3.1 ?_) h2
      rw [Array.setIfInBounds_comm _ _ hji]
      exact h3.2
/-- The first n in the order of the text. -/
def preFrom (md : Region.Mode) (ops : Array Oper) : Nat → Nat → Array Bool → Bool
  | 0, _, _ => true
  | n + 1, k, listed => (Region.ready md ops listed).contains k && Region.free md ops listed k && preFrom md ops n (k + 1) (listed.setIfInBounds k true)
def listFrom : Nat → Nat → Array Bool → Array Bool
  | 0, _, listed => listed
  | n + 1, k, listed => listFrom n (k + 1) (listed.setIfInBounds k true)
/-- The others, one by one. -/
def seqFrom (md : Region.Mode) (ops : Array Oper) : Nat → Nat → Array Bool → Bool
  | 0, _, listed => (Region.ready md ops listed).isEmpty
  | n + 1, k, listed => (Region.ready md ops listed == [k]) && seqFrom md ops n (k + 1) (listed.setIfInBounds k true)
/-- It waits for all these. -/
def waits (md : Region.Mode) (ops : Array Oper) (n : Nat) : Bool :=
  match ops[n]? with
  | some o => (List.range n).all fun i => o.after.any fun e => Region.binds md e && e.on == i
  | none => false
theorem anyZ_lex {md : Region.Mode} {K : List AV → Prop} {n : Nat} {L : Array Bool} (hw : waits md ops n = true) (hL : Region.ready md ops L = [n]) : ∀ (l : List Oper) (k : Nat) (listed : Array Bool) (fr : List AV), k + l.length = n → (∀ j, j < l.length → l[j]? = ops[k + j]?) →
    preFrom md ops l.length k listed = true → listFrom l.length k listed = L → YL P ops σ K l fr → anyZ P md ops σ (fun listed fr => listed = L ∧ K fr) l.length listed fr
  | [], k, listed, fr, _, hl, hB, hL', h => ⟨hL', h⟩
  | o :: l, k, listed, fr, hn, hl, hB, hL', h => by
    have h0 : ops[k]? = some o := by simpa using (hl 0 (by simp)).symm
    simp only [List.length_cons, preFrom, Bool.and_eq_true] at hB
    obtain ⟨⟨hr, hf⟩, hB'⟩ := hB
    obtain ⟨r, hy, hk⟩ := h
    refine anyZ_first h0 (fun listed fr hi hK j hj => ?_) l.length listed fr (Region.free_spec h0 hf) (by simpa using hr) hy
      (anyZ_lex hw hL l (k + 1) _ _ (by simp at hn; omega) (fun j hj => by have := hl (j + 1) (by simp; omega); simpa [Nat.add_assoc, Nat.add_comm 1 j] using this) hB' hL' hk)
    by_cases hji : j = k
    · exact hji
    · exfalso
      have h1 := ready_mono hj hji
      rw [hK.1, hL] at h1
      have : j = n := by simpa using h1
      subst this
      obtain ⟨_, oj, hoj, hall⟩ := mem_ready.1 hj
      unfold waits at hw
      rw [hoj] at hw
      simp only [List.all_eq_true, List.mem_range] at hw
      have hkj : k < j := by simp at hn; omega
      obtain ⟨e, he, hb⟩ := Array.any_eq_true'.1 (hw k hkj)
      simp only [Bool.and_eq_true, beq_iff_eq] at hb
      have h2 := hall e he hb.1
      have h3 := (mem_ready.1 hi).1
      rw [hb.2] at h2
      rcases Nat.lt_or_ge k listed.size with h' | h'
      · simp [h'] at h2 h3; rw [h3] at h2; cases h2
      · simp [Array.getElem?_eq_none h'] at h2
theorem wpAny_seq {md : Region.Mode} {Q : Exit → Act → World → Prop} : ∀ (l : List Oper) (k : Nat) (listed : Array Bool) (a : Act) (w : World), (∀ j, l[j]? = ops[k + j]?) → seqFrom md ops l.length k listed = true → wpList P ops Q l a w → wpAny P md ops Q l.length listed a w
  | [], k, listed, a, w, _, hB, h => ⟨by simpa [seqFrom] using hB, h⟩
  | o :: l, k, listed, a, w, hl, hB, h => by
    have h0 : ops[k]? = some o := by simpa using (hl 0).symm
    simp only [List.length_cons, seqFrom, Bool.and_eq_true, beq_iff_eq] at hB
    have ih : ∀ a w, wpList P ops Q l a w → wpAny P md ops Q l.length (listed.setIfInBounds k true) a w := fun a w h => wpAny_seq l (k + 1) _ a w (fun j => by have := hl (j + 1); simpa [Nat.add_assoc, Nat.add_comm 1 j] using this) hB.2 h
    refine ⟨fun e => absurd (hB.1.symm.trans e) (by simp), fun i hi => ?_⟩
    rw [hB.1] at hi
    obtain rfl : i = k := by simpa using hi
    unfold wpOp
    rw [h0]
    unfold wpList at h
    simp only
    split
    · rename_i hw
      rw [if_pos hw] at h
      rcases h with h | h
      · exact .inl (Oper.wp_mono ih h)
      · exact .inr h
    · rename_i hw
      rw [if_neg hw] at h
      exact ih _ _ h
theorem yl_mono {K K' : List AV → Prop} (hk : ∀ fr, K fr → K' fr) : ∀ {l : List Oper} {fr : List AV}, YL P ops σ K l fr → YL P ops σ K' l fr
  | [], _, h => hk _ h
  | _ :: _, _, ⟨r, h1, h2⟩ => ⟨r, h1, yl_mono hk h2⟩
def mixB (md : Region.Mode) (l r : List Oper) : Bool :=
  let ops := (l ++ r).toArray
  let L0 := Array.replicate ops.size false
  let L := listFrom l.length 0 L0
  waits md ops l.length && preFrom md ops l.length 0 L0 && seqFrom md ops r.length l.length L && Region.noSelect ops && !r.isEmpty
theorem aw_mix {id : Nat} (n : Nat) {l : List Oper} (hm : P.follows .mixedOrders = true) (hB : mixB .any (l.take n) (l.drop n) = true) (h : YL P l.toArray σ (fun fr => AWL P D l.toArray Q (l.drop n) fr σ) (l.take n) fr) : AW P D (.region id l.toArray true) Q fr σ := by
  intro G a w hs
  unfold mixB at hB
  simp only [List.take_append_drop, Bool.and_eq_true] at hB
  obtain ⟨⟨⟨⟨h1, h2⟩, h3⟩, h4⟩, h5⟩ := hB
  have hb : Go.RowKit.Below w.heap.size w { w with drawn := w.drawn + 1 } := ⟨rfl, rfl, rfl, Nat.le_refl _, fun _ _ => rfl⟩
  have hs2 : Sim G fr σ D a { w with drawn := w.drawn + 1 } := hs.le (Le.grow hs.w hb) (hs.w.grow hb)
  have hlen : (l.take n).length + (l.drop n).length = l.length := by rw [← List.length_append, List.take_append_drop]
  have hr : Region.ready .any l.toArray (listFrom (l.take n).length 0 (Array.replicate l.toArray.size false)) = [(l.take n).length] := by
    cases hd : l.drop n with
    | nil => rw [hd] at h5; cases h5
    | cons o r =>
      rw [hd] at h3
      simp only [List.length_cons, seqFrom, Bool.and_eq_true, beq_iff_eq] at h3
      exact h3.1
  have hz := anyZ_lex (P := P) (σ := σ) (K := fun fr => AWL P D l.toArray Q (l.drop n) fr σ) h1 hr (l.take n) 0 _ fr (by simp) (fun j hj => by
    have : j < n := by simp at hj; omega
    simp [List.getElem?_take, this]) h2 rfl h
  refine wp_region_any hm ?_
  have hsz : l.toArray.size = (l.drop n).length + (l.take n).length := by simp; omega
  rw [hsz]
  refine wpAny_of_anyZ (fun listed fr hK G1 a1 w1 hs1 G0 w0 hl => ?_) _ _ fr G a _ G w (Le.grow hs.w hb) hs2 (by rw [← hsz]; exact hz)
  obtain ⟨rfl, hK⟩ := hK
  have hk := hK G1 a1 w1 hs1
  have hk2 := wpList_weaken (fun e a w h => lift_le hl h) _ _ _ hk
  refine wpAny_seq (l.drop n) (l.take n).length _ a1 w1 (fun j => ?_) ?_ hk2
  · simp only [List.getElem?_drop, List.length_take, List.getElem?_toArray]
    rcases Nat.le_total n l.length with hh | hh
    · rw [Nat.min_eq_left hh]
    · rw [Nat.min_eq_right hh, List.getElem?_eq_none (by omega), List.getElem?_eq_none (by omega)]
  · exact h3
/-- Does it change what is known? -/
def stOp (mu : List Nat) (o : Oper) : Bool :=
  match o.op with
  | .store _ _ _ => true
  | .alloc _ | .box _ _ | .buildSlice _ _ _ => match o.dst with | some d => mu.contains d | none => false
  | .call c => match c.callee with | .builtin .append => true | .builtin .delete => true | .builtin .copy => true | .builtin .clear => true | _ => false
  | .mapUpdate .. | .entryStore .. | .insert .. => true
  | _ => false
def preSt (mu : List Nat) : List Oper → List Oper
  | [] => []
  | o :: l => if stOp mu o = true then [] else o :: preSt mu l
def postSt (mu : List Nat) : List Oper → List Oper
  | [] => []
  | o :: l => if stOp mu o = true then o :: l else postSt mu l
theorem pre_post (mu : List Nat) : ∀ l : List Oper, preSt mu l = l.take (preSt mu l).length ∧ postSt mu l = l.drop (preSt mu l).length
  | [] => ⟨rfl, rfl⟩
  | o :: l => by
    simp only [preSt, postSt]
    split
    · exact ⟨rfl, rfl⟩
    · simp only [List.length_cons, List.take_succ_cons, List.drop_succ_cons, List.cons.injEq, true_and]
      exact pre_post mu l
theorem aw_ymix {id : Nat} (mu : List Nat) {l : List Oper} (hm : P.follows .mixedOrders = true) (hB : mixB .any (preSt mu l) (postSt mu l) = true) (h : Shut (YRun P l.toArray σ (fun fr => Shut (ARun P D l.toArray Q mu (postSt mu l) fr σ)) (preSt mu l) fr)) : AW P D (.region id l.toArray true) Q fr σ := by
  obtain ⟨e1, e2⟩ := pre_post mu l
  refine aw_mix (preSt mu l).length hm (by rw [← e1, ← e2]; exact hB) ?_
  rw [← e1, ← e2]
  exact yl_mono (fun fr h => awl_run' mu h) (yl_run h.out)
end Go.AL
