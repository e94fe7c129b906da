/- Parts of the proof of ArenaStays: the logic, contracts, plain laws. -/
import Derived.Test.YtofopejmidlceaaDoorZArenaStays7
/-! Regions that draw their order, in which operations that turn memory wait for each other: the order of the text serves for all. -/
namespace Go.AL
set_option linter.unusedVariables false
set_option linter.unusedSimpArgs false
variable {P : Program} {σ : ASt} {R : AV → ASt → Prop} {D : List Deferred} {Q : Exit → List AV → ASt → Prop} {fr : List AV} {ops : Array Oper}
/-! ### any word about single operations -/
section gen
variable {Y : Nat → Oper → List AV → AV → Prop}
def gOp (ops : Array Oper) (Y : Nat → Oper → List AV → AV → Prop) (i : Nat) (K : List AV → Prop) (fr : List AV) : Prop :=
  match ops[i]? with
  | none => K fr
  | some o => ∃ r, Y i o fr r ∧ K (aput fr o.dst r)
def gAny (md : Region.Mode) (ops : Array Oper) (Y : Nat → Oper → List AV → AV → Prop) (K : Array Bool → List AV → Prop) : Nat → Array Bool → List AV → Prop
  | 0, listed, fr => Region.ready md ops listed = [] ∧ K listed fr
  | fuel + 1, listed, fr => (Region.ready md ops listed = [] → K listed fr) ∧ ∀ i ∈ Region.ready md ops listed, gOp ops Y i (gAny md ops Y K fuel (listed.setIfInBounds i true)) fr
theorem gOp_mono {i : Nat} {K K' : List AV → Prop} (h : ∀ fr, K fr → K' fr) (hh : gOp ops Y i K fr) : gOp ops Y i K' fr := by
  unfold gOp at *
  split
  · rename_i ho; simp only [ho] at hh; exact h _ hh
  · rename_i o ho
    simp only [ho] at hh
    obtain ⟨r, h1, h2⟩ := hh
    exact ⟨r, h1, h _ h2⟩
def YPut (ops : Array Oper) (Y : Nat → Oper → List AV → AV → Prop) : Prop :=
  ∀ (i : Nat) (o : Oper) (fr : List AV) (r : AV) (d : Option Tmp) (v : AV), (∀ x, d = some x → x ∉ o.looksAt ops) → (Y i o (aput fr d v) r ↔ Y i o fr r)
theorem gOp_put (hY : YPut ops Y) {i j : Nat} {oi oj : Oper} {v : AV} (hj : ops[j]? = some oj) (hap : oi.apart ops oj = true) {K : List AV → Prop} (hy : Y i oi fr v) (h : gOp ops Y j K (aput fr oi.dst v)) :
    gOp ops Y j (fun fr' => Y i oi fr' v ∧ K (aput fr' oi.dst v)) fr := by
  obtain ⟨h1, h2, h3⟩ := Oper.apart_spec hap
  unfold gOp at *
  simp only [hj] at *
  obtain ⟨r, hr, hk⟩ := h
  refine ⟨r, (hY _ _ _ _ _ _ h1).1 hr, (hY _ _ _ _ _ _ h3).2 hy, ?_⟩
  rw [← aput_comm fr v r h2]
  exact hk
theorem gAny_first (hY : YPut ops Y) {md : Region.Mode} {K : Array Bool → List AV → Prop} {i : Nat} {oi : Oper} {v : AV} (hi : ops[i]? = some oi) : ∀ (fuel : Nat) (listed : Array Bool) (fr : List AV),
      (∀ j oj, ops[j]? = some oj → j ≠ i → listed.getD j true = false → (∀ e ∈ oj.after, Region.binds md e = true → e.on ≠ i) → oi.apart ops oj = true) →
      i ∈ Region.ready md ops listed → Y i oi fr v →
      gAny md ops Y K fuel (listed.setIfInBounds i true) (aput fr oi.dst v) → gAny md ops Y K (fuel + 1) listed fr := by
  intro fuel
  have self : ∀ {K : List AV → Prop} {fr}, Y i oi fr v → K (aput fr oi.dst v) → gOp ops Y i K fr := fun hy hk => by
    unfold gOp; simp only [hi]; exact ⟨v, hy, hk⟩
  induction fuel with
  | zero =>
    intro listed fr _ hr hy H
    refine ⟨fun h => (by rw [h] at hr; cases hr), fun j hj => ?_⟩
    by_cases hji : j = i
    · subst hji; exact self hy H
    · have := ready_mono hj hji
      rw [H.1] at this
      cases this
  | succ fuel ih =>
    intro listed fr hfree hr hy H
    refine ⟨fun h => (by rw [h] at hr; cases hr), fun j hj => ?_⟩
    by_cases hji : j = i
    · subst hji; exact self hy H
    · have h1 := H.2 j (ready_mono hj hji)
      obtain ⟨hjun, oj, hoj, hall⟩ := mem_ready.1 hj
      have hnot : ∀ e ∈ oj.after, Region.binds md e = true → e.on ≠ i := fun e he hb heq => by
        have h1 := hall e he hb
        have h0 := (mem_ready.1 hr).1
        rw [heq] at h1
        rcases Nat.lt_or_ge i listed.size with h' | h'
        · simp [h'] at h0 h1; rw [h0] at h1; cases h1
        · simp [Array.getElem?_eq_none h'] at h1
      have h2 := gOp_put hY hoj (hfree j oj hoj hji hjun hnot) hy h1
      have hfree' : ∀ k ok, ops[k]? = some ok → k ≠ i → (listed.setIfInBounds j true).getD k true = false →
          (∀ e ∈ ok.after, Region.binds md e = true → e.on ≠ i) → oi.apart ops ok = true := fun k ok hk hki hun hno => by
        refine hfree k ok hk hki ?_ hno
        by_cases hjk : j = k
        · subst hjk; exact hjun
        · rw [getD_set_ne true hjk] at hun; exact hun
      refine gOp_mono (fun fr' h3 => ih (listed.setIfInBounds j true) fr' hfree' (ready_mono hr (Ne.symm hji)) h3.1 ?_) h2
      rw [Array.setIfInBounds_comm _ _ hji]
      exact h3.2
def gL (Y : Nat → Oper → List AV → AV → Prop) (K : List AV → Prop) : Nat → List Oper → List AV → Prop
  | _, [], fr => K fr
  | k, o :: rest, fr => ∃ r, Y k o fr r ∧ gL Y K (k + 1) rest (aput fr o.dst r)
theorem gAny_lex (hY : YPut ops Y) {md : Region.Mode} {K : List AV → Prop} {LF : Array Bool} (hs : Region.noSelect ops = true) : ∀ (l : List Oper) (k : Nat) (listed : Array Bool) (fr : List AV), (∀ j, l[j]? = ops[k + j]?) →
    Region.lexFrom md ops l.length k listed = true → listFrom l.length k listed = LF → gL Y K k l fr → gAny md ops Y (fun listed fr => listed = LF ∧ K fr) l.length listed fr
  | [], _, _, _, _, hB, hS, h => ⟨by simpa [Region.lexFrom] using hB, hS, h⟩
  | o :: l, k, listed, fr, hl, hB, hS, h => by
    have h0 : ops[k]? = some o := by simpa using (hl 0).symm
    simp only [List.length_cons, Region.lexFrom, Bool.and_eq_true] at hB
    obtain ⟨⟨hr, hf⟩, hB'⟩ := hB
    obtain ⟨r, hy, hK⟩ := h
    exact gAny_first hY h0 l.length listed fr (Region.free_spec h0 hf) (by simpa using hr) hy
      (gAny_lex hY hs l (k + 1) _ _ (fun j => by have := hl (j + 1); simpa [Nat.add_assoc, Nat.add_comm 1 j] using this) hB' hS hK)
end gen
/-! ### who waits for whom -/
def Closed (md : Region.Mode) (ops : Array Oper) (listed : Array Bool) : Prop :=
  ∀ j oj, ops[j]? = some oj → listed.getD j false = true → ∀ e ∈ oj.after, Region.binds md e = true → listed.getD e.on false = true
theorem Closed.set {md : Region.Mode} {listed : Array Bool} (h : Closed md ops listed) {i : Nat} (hi : i ∈ Region.ready md ops listed) : Closed md ops (listed.setIfInBounds i true) := by
  intro j oj hj hl e he hb
  refine getD_set_true ?_
  by_cases hji : j = i
  · subst hji
    obtain ⟨_, o, ho, hall⟩ := mem_ready.1 hi
    obtain rfl := Option.some.inj (ho.symm.trans hj)
    exact hall e he hb
  · rw [getD_set_ne false (Ne.symm hji)] at hl
    exact h j oj hj hl e he hb
/-- A bit for each that is waited for, directly or not. -/
def ancOf (md : Region.Mode) (ancs : List Nat) (o : Oper) : Nat := o.after.toList.foldl (fun m e => if Region.binds md e = true then m ||| (2 ^ e.on ||| ancs.getD e.on 0) else m) 0
def ancsL (md : Region.Mode) : List Oper → List Nat → List Nat
  | [], acc => acc
  | o :: l, acc => ancsL md l (acc ++ [ancOf md acc o])
theorem ancOf_bit {md : Region.Mode} {ancs : List Nat} {o : Oper} {i : Nat} (h : (ancOf md ancs o).testBit i = true) : ∃ e ∈ o.after, Region.binds md e = true ∧ (e.on = i ∨ (ancs.getD e.on 0).testBit i = true) := by
  have key : ∀ (l : List _) (m : Nat), (l.foldl (fun m (e : Edge) => if Region.binds md e = true then m ||| (2 ^ e.on ||| ancs.getD e.on 0) else m) m).testBit i = true →
      m.testBit i = true ∨ ∃ e ∈ l, Region.binds md e = true ∧ (e.on = i ∨ (ancs.getD e.on 0).testBit i = true) := by
    intro l
    induction l with
    | nil => intro m h; exact .inl h
    | cons e l ih =>
      intro m h
      rw [List.foldl_cons] at h
      rcases ih _ h with h1 | ⟨e', he, hb⟩
      · split at h1
        · rename_i hb
          rw [Nat.testBit_or, Nat.testBit_or, Bool.or_eq_true, Bool.or_eq_true] at h1
          rcases h1 with h1 | h1 | h1
          · exact .inl h1
          · rw [Nat.testBit_two_pow] at h1
            exact .inr ⟨e, List.mem_cons_self, hb, .inl (by simpa using h1)⟩
          · exact .inr ⟨e, List.mem_cons_self, hb, .inr h1⟩
        · exact .inl h1
      · exact .inr ⟨e', List.mem_cons_of_mem _ he, hb⟩
  rcases key _ 0 h with h1 | ⟨e, he, hb⟩
  · simp at h1
  · exact ⟨e, by simpa using he, hb⟩
theorem ancsL_get (md : Region.Mode) : ∀ (l : List Oper) (acc : List Nat) (j : Nat) (o : Oper), l[j]? = some o → ∃ pre, pre.length = acc.length + j ∧ (ancsL md l acc)[acc.length + j]? = some (ancOf md pre o) ∧ ∀ k, k < acc.length + j → pre[k]? = (ancsL md l acc)[k]?
  | [], acc, j, o, h => by cases h
  | x :: l, acc, j, o, h => by
    have hpre : ∀ (l : List Oper) (acc : List Nat) (k : Nat), k < acc.length → (ancsL md l acc)[k]? = acc[k]? := by
      intro l
      induction l with
      | nil => intro acc k _; rfl
      | cons x l ih => intro acc k hk; rw [ancsL, ih _ _ (by simp; omega), List.getElem?_append_left hk]
    cases j with
    | zero =>
      obtain rfl : x = o := by simpa using h
      refine ⟨acc, rfl, ?_, fun k hk => ?_⟩
      · rw [ancsL, hpre _ _ _ (by simp)]; simp
      · rw [ancsL, hpre _ _ _ (by simp; omega), List.getElem?_append_left (by omega)]
    | succ j =>
      obtain ⟨pre, h1, h2, h3⟩ := ancsL_get md l (acc ++ [ancOf md acc x]) j o (by simpa using h)
      simp only [List.length_append, List.length_cons, List.length_nil] at h1 h2 h3
      rw [show acc.length + (0 + 1) + j = acc.length + (j + 1) by omega] at h1 h2 h3
      exact ⟨pre, h1, by rw [ancsL]; exact h2, fun k hk => by rw [ancsL]; exact h3 k hk⟩
def anc (md : Region.Mode) (l : List Oper) (j i : Nat) : Bool := ((ancsL md l []).getD j 0).testBit i
theorem anc_listed {md : Region.Mode} {l : List Oper} {listed : Array Bool} (hc : Closed md l.toArray listed) : ∀ (n j : Nat), j ≤ n → ∀ (o : Oper), l[j]? = some o → (∀ e ∈ o.after, Region.binds md e = true → listed.getD e.on false = true) →
    ∀ i, anc md l j i = true → listed.getD i false = true := by
  intro n
  induction n with
  | zero =>
    intro j hj o ho hall i hi
    unfold anc at hi
    obtain ⟨pre, h1, h2, h3⟩ := ancsL_get md l [] j o ho
    simp only [List.length_nil, Nat.zero_add] at h1 h2 h3
    rw [List.getD_eq_getElem?_getD, h2] at hi
    obtain ⟨e, he, hb, hh⟩ := ancOf_bit hi
    rcases hh with rfl | hh
    · exact hall e he hb
    · rw [List.getD_eq_getElem?_getD, List.getElem?_eq_none (by omega)] at hh; simp at hh
  | succ n ih =>
    intro j hj o ho hall i hi
    unfold anc at hi
    obtain ⟨pre, h1, h2, h3⟩ := ancsL_get md l [] j o ho
    simp only [List.length_nil, Nat.zero_add] at h1 h2 h3
    rw [List.getD_eq_getElem?_getD, h2] at hi
    obtain ⟨e, he, hb, hh⟩ := ancOf_bit hi
    rcases hh with rfl | hh
    · exact hall e he hb
    · by_cases hej : e.on < j
      · rw [List.getD_eq_getElem?_getD, h3 _ hej] at hh
        have hlt : e.on < l.length := by have := (List.getElem?_eq_some_iff.1 ho).1; omega
        have hoe : l[e.on]? = some l[e.on] := List.getElem?_eq_getElem hlt
        exact ih e.on (by omega) _ hoe (fun e' he' hb' => hc e.on _ (by rw [List.getElem?_toArray]; exact hoe) (hall e he hb) e' he' hb') i (by unfold anc; rw [List.getD_eq_getElem?_getD]; exact hh)
      · rw [List.getD_eq_getElem?_getD, List.getElem?_eq_none (by omega)] at hh; simp at hh
/-! ### counting -/
def cnt (p : Nat → Bool) (n : Nat) : Nat := (List.range n).countP p
theorem cnt_succ (p : Nat → Bool) (n : Nat) : cnt p (n + 1) = cnt p n + (if p n = true then 1 else 0) := by
  unfold cnt; rw [List.range_succ, List.countP_append]; simp [List.countP_cons, List.countP_nil]
theorem cnt_congr {p q : Nat → Bool} : ∀ {n : Nat}, (∀ i, i < n → p i = q i) → cnt p n = cnt q n
  | 0, _ => rfl
  | n + 1, h => by rw [cnt_succ, cnt_succ, cnt_congr (fun i hi => h i (by omega)), h n (by omega)]
theorem cnt_le {p q : Nat → Bool} : ∀ {n : Nat}, (∀ i, i < n → p i = true → q i = true) → cnt p n ≤ cnt q n
  | 0, _ => Nat.le_refl _
  | n + 1, h => by
    rw [cnt_succ, cnt_succ]
    have h1 := cnt_le (p := p) (q := q) (n := n) (fun i hi => h i (by omega))
    have h2 := h n (by omega)
    cases hp : p n with
    | false => simp; split <;> omega
    | true => simp [h2 hp]; omega
theorem cnt_set {p q : Nat → Bool} {i : Nat} (hp : p i = false) (hq : ∀ j, j ≠ i → q j = p j) : ∀ {n : Nat}, i < n → cnt q n = cnt p n + (if q i = true then 1 else 0)
  | 0, h => by omega
  | n + 1, h => by
    rw [cnt_succ, cnt_succ]
    by_cases e : i = n
    · subst e
      rw [cnt_congr (q := p) (fun j hj => hq j (by omega)), hp]
      simp
    · rw [cnt_set hp hq (by omega), hq n (fun h => e h.symm)]
      omega
theorem cnt_lt {p : Nat → Bool} {i n : Nat} (h : i ≤ n) : cnt (fun c => p c && decide (c < i)) n = cnt p i := by
  induction n with
  | zero => obtain rfl : i = 0 := by omega
            rfl
  | succ n ih =>
    rw [cnt_succ]
    by_cases e : i = n + 1
    · subst e
      rw [cnt_succ, cnt_congr (q := p) (fun j hj => by simp; omega)]
      simp
    · rw [ih (by omega)]
      simp; omega
/-! ### operations that turn memory -/
/-- Does it turn what is known? imp: functions that do. -/
def zst (mu imp : List Nat) (o : Oper) : Bool :=
  stOp mu o || (match o.op with | .call { callee := .value (.func f), .. } => imp.contains f | _ => false)
def zF (mu imp : List Nat) (l : List Oper) (i : Nat) : Bool := match l[i]? with | some o => zst mu imp o | none => false
def zpos (mu imp : List Nat) (l : List Oper) (i : Nat) : Nat := cnt (zF mu imp l) i
def zlo (mu imp : List Nat) (l : List Oper) (i : Nat) : Nat := cnt (fun c => zF mu imp l c && anc .any l i c) l.length
def zhi (mu imp : List Nat) (l : List Oper) (i : Nat) : Nat := cnt (fun c => zF mu imp l c && !anc .any l c i) l.length
def zB (mu imp : List Nat) (l : List Oper) : Bool :=
  Region.lexB .any l.toArray && ((List.range l.length).all fun b => !zF mu imp l b || (List.range b).all fun a => !zF mu imp l a || anc .any l b a) && (List.range l.length).all fun j => (listFrom l.length 0 (Array.replicate l.length false)).getD j false
def zph (mu imp : List Nat) (l : List Oper) (listed : Array Bool) : Nat := cnt (fun c => zF mu imp l c && listed.getD c false) l.length
def YP (P : Program) (mu imp : List Nat) (l : List Oper) (τs : Nat → ASt) (i : Nat) (o : Oper) (fr : List AV) (r : AV) : Prop :=
  if zF mu imp l i = true then YldT P l.toArray (τs (zpos mu imp l i)) (τs (zpos mu imp l i + 1)) o fr r else ∀ q, zlo mu imp l i ≤ q → q ≤ zhi mu imp l i → Yld P l.toArray (τs q) o fr r
theorem YP_put (mu imp : List Nat) (l : List Oper) (τs : Nat → ASt) : YPut l.toArray (YP P mu imp l τs) := by
  intro i o fr r d v hd
  unfold YP
  split
  · exact YldT.put hd
  · constructor
    · intro h q h1 h2; exact (Yld.put hd).1 (h q h1 h2)
    · intro h q h1 h2; exact (Yld.put hd).2 (h q h1 h2)
theorem getD_ft {listed : Array Bool} {i : Nat} (h : listed.getD i true = false) : listed.getD i false = false := by
  rcases Nat.lt_or_ge i listed.size with h' | h'
  · simp [h'] at h ⊢; exact h
  · simp [Array.getElem?_eq_none h']
theorem wpAny_of_gAny {mu imp : List Nat} {l : List Oper} {τs : Nat → ASt} {K : Array Bool → List AV → Prop} {D : List Deferred} {Q : Exit → List AV → ASt → Prop}
    (hch : ∀ a b, a < b → b < l.length → zF mu imp l a = true → zF mu imp l b = true → anc .any l b a = true)
    (hK : ∀ listed fr, K listed fr → Q .normal fr (τs (zph mu imp l listed))) : ∀ (fuel : Nat) (listed : Array Bool) (fr : List AV) (G : Ghost) (a : Act) (w : World) (G0 : Ghost) (w0 : World),
    listed.size = l.length → Closed .any l.toArray listed →
    Le G0 w0 G w → Sim G fr (τs (zph mu imp l listed)) D a w → gAny .any l.toArray (YP P mu imp l τs) K fuel listed fr → wpAny P .any l.toArray (lift G0 w0 D Q) fuel listed a w
  | 0, listed, fr, G, a, w, G0, w0, hsz, hcl, hl, hs, h => ⟨h.1, G, fr, _, hl, hs, hK _ _ h.2⟩
  | fuel + 1, listed, fr, G, a, w, G0, w0, hsz, hcl, hl, hs, h => by
    refine ⟨fun h0 => ⟨G, fr, _, hl, hs, hK _ _ (h.1 h0)⟩, fun i hi => ?_⟩
    have hy := h.2 i hi
    unfold gOp at hy
    obtain ⟨hun, oi, hoi, hall⟩ := mem_ready.1 hi
    have hib : i < listed.size := by
      rw [hsz]; simpa using (Array.getElem?_eq_some_iff.1 hoi).1
    have hil : l[i]? = some oi := by simpa using hoi
    have hilt : i < l.length := by omega
    unfold wpOp
    rw [hoi] at hy ⊢
    simp only at hy ⊢
    obtain ⟨r, hr, hk⟩ := hy
    have hsz' : (listed.setIfInBounds i true).size = l.length := by simpa using hsz
    have hcl' := hcl.set hi
    have hanc : ∀ c, anc .any l i c = true → listed.getD c false = true := anc_listed hcl i i (Nat.le_refl _) oi hil hall
    have hdes : ∀ c, c < l.length → anc .any l c i = true → listed.getD c false = false := by
      intro c hc ha
      cases hlc : listed.getD c false with
      | false => rfl
      | true =>
        have hoc : l[c]? = some l[c] := List.getElem?_eq_getElem hc
        have := anc_listed hcl c c (Nat.le_refl _) _ hoc (fun e he hb => hcl c _ (by rw [List.getElem?_toArray]; exact hoc) hlc e he hb) i ha
        rw [getD_ft hun] at this; cases this
    have hset : zph mu imp l (listed.setIfInBounds i true) = zph mu imp l listed + (if zF mu imp l i = true then 1 else 0) := by
      unfold zph
      rw [cnt_set (p := fun c => zF mu imp l c && listed.getD c false) (q := fun c => zF mu imp l c && (listed.setIfInBounds i true).getD c false) (i := i) (by simp only [getD_ft hun, Bool.and_false]) (fun j hj => by simp only [getD_set_ne false (Ne.symm hj)]) hilt]
      congr 1
      have : (listed.setIfInBounds i true).getD i false = true := by simp [hib]
      rw [this, Bool.and_true]
    have key : ∀ τ, τs (zph mu imp l (listed.setIfInBounds i true)) = τ → OutcN P G w (fun r' σ' => r' = r ∧ σ' = τ) ((execOp a.eval oi).run P w) →
        wpO P oi a w (wpAny P .any l.toArray (lift G0 w0 D Q) fuel (listed.setIfInBounds i true)) (lift G0 w0 D Q) := by
      intro τ hτ hq
      unfold wpO
      have key : ∀ v w', Outc G w (fun r' σ' => r' = r ∧ σ' = τ) v w' → wpAny P .any l.toArray (lift G0 w0 D Q) fuel (listed.setIfInBounds i true) (a.put oi.dst v) w' := by
        rintro v w' ⟨r', G', σ', hl', hw', hr', e1, e2⟩
        rw [e1] at hr'
        rw [e2, ← hτ] at hw'
        exact wpAny_of_gAny hch hK fuel _ _ G' _ w' G0 w0 hsz' hcl' (hl.trans hl') ((hs.le hl' hw').put oi.dst hr') hk
      generalize (execOp a.eval oi).run P w = n at hq
      cases n with
      | halt => exact hq.elim
      | ok n w' =>
        cases n with
        | value v => exact key v w' hq
        | skip => exact key undef w' hq
        | enter f args =>
          refine Calls.mono hq fun e w'' he => ?_
          cases e with
          | returned v => exact key v w'' he
          | panicked c => exact he.elim
          | outgrown => exact he.elim
        | round l f tmps assign body =>
          refine RoundIn.mono hq fun e w'' he => ?_
          cases e with
          | returned v => exact key v w'' he
          | panicked c => exact he.elim
          | outgrown => exact he.elim
        | _ => exact hq.elim
    unfold YP at hr
    by_cases hF : zF mu imp l i = true
    · rw [if_pos hF] at hr hset
      have hph : zph mu imp l listed = zpos mu imp l i := by
        unfold zph zpos
        rw [← cnt_lt (p := zF mu imp l) (i := i) (n := l.length) (by omega)]
        refine cnt_congr fun c hc => ?_
        cases hFc : zF mu imp l c with
        | false => rfl
        | true =>
          simp only [Bool.true_and]
          rcases Nat.lt_trichotomy c i with hlt | rfl | hgt
          · rw [hanc c (hch c i hlt hilt hFc hF)]; simp [hlt]
          · rw [getD_ft hun]; simp
          · rw [hdes c hc (hch i c hgt hc hF hFc)]; simp; omega
      rw [hph] at hs hset
      obtain ⟨h1, h2⟩ := hr G a w (fun t _ => hs.ev (.tmp t)) hs.w
      rw [if_pos h1]
      exact (key _ (by rw [hset]) h2)
    · rw [if_neg hF] at hr hset
      have h1 : zlo mu imp l i ≤ zph mu imp l listed := by
        unfold zlo zph
        refine cnt_le fun c _ hc => ?_
        simp only [Bool.and_eq_true] at hc ⊢
        exact ⟨hc.1, hanc c hc.2⟩
      have h2 : zph mu imp l listed ≤ zhi mu imp l i := by
        unfold zhi zph
        refine cnt_le fun c hcl hc => ?_
        simp only [Bool.and_eq_true] at hc ⊢
        refine ⟨hc.1, ?_⟩
        cases ha : anc .any l c i with
        | false => rfl
        | true => rw [hdes c hcl ha] at hc; cases hc.2
      have hyl := hr _ h1 h2 G a w (fun t _ => hs.ev (.tmp t)) hs.w
      by_cases hw : Region.wanted oi (yielded l.toArray a.tmps) = true
      · rw [if_pos hw]
        exact (key _ (by rw [hset]; rfl) (hyl.1 hw))
      · rw [if_neg hw]
        have hu := hyl.2 (by simpa using hw)
        exact wpAny_of_gAny hch hK fuel _ _ G _ w G0 w0 hsz' hcl' hl (by rw [hset]; exact hs.put oi.dst hu) hk
/-! ### the order of the text -/
def loGt (mu imp : List Nat) (l : List Oper) (i k : Nat) : Bool := decide (k < zlo mu imp l i)
def hiLt (mu imp : List Nat) (l : List Oper) (i q : Nat) : Bool := decide (zhi mu imp l i < q)
/-- old: what was known before, newest first; pd: what may yet be read. -/
def ZL (P : Program) (mu imp : List Nat) (l : List Oper) (K : List AV → ASt → Prop) : Nat → List Oper → List AV → ASt → List ASt → List (Nat × Oper × List AV × AV) → Prop
  | _, [], fr, σ, _, _ => K fr σ
  | i, o :: rest, fr, σ, old, pd =>
    if zst mu imp o = true then ∃ r τ, YldT P l.toArray σ τ o fr r ∧ (∀ p ∈ pd, hiLt mu imp l p.1 (old.length + 1) = true ∨ Yld P l.toArray τ p.2.1 p.2.2.1 p.2.2.2) ∧ ZL P mu imp l K (i + 1) rest (aput fr o.dst r) τ (σ :: old) pd
    else ∃ r, ((∀ σ', Yld P l.toArray σ' o fr r) ∧ ZL P mu imp l K (i + 1) rest (aput fr o.dst r) σ old pd) ∨
      (Yld P l.toArray σ o fr r ∧ (∀ j τ, old[j]? = some τ → loGt mu imp l i (old.length - 1 - j) = true ∨ Yld P l.toArray τ o fr r) ∧ ZL P mu imp l K (i + 1) rest (aput fr o.dst r) σ old ((i, o, fr, r) :: pd))
theorem zpos_succ (mu imp : List Nat) (l : List Oper) (i : Nat) : zpos mu imp l (i + 1) = zpos mu imp l i + (if zF mu imp l i = true then 1 else 0) := cnt_succ _ _
theorem zhi_le (mu imp : List Nat) (l : List Oper) (i : Nat) : zhi mu imp l i ≤ zpos mu imp l l.length := by
  unfold zhi zpos
  refine cnt_le fun c _ hc => ?_
  simp only [Bool.and_eq_true] at hc
  exact hc.1
theorem ZL_path {mu imp : List Nat} {l : List Oper} {K : List AV → ASt → Prop} : ∀ (r : List Oper) (i : Nat) (fr : List AV) (σ : ASt) (old : List ASt) (pd : List (Nat × Oper × List AV × AV)), (∀ j, r[j]? = l[i + j]?) → i + r.length = l.length → old.length = zpos mu imp l i → ZL P mu imp l K i r fr σ old pd →
    ∃ τs : Nat → ASt, (∀ j τ, (σ :: old)[j]? = some τ → τs (zpos mu imp l i - j) = τ) ∧ (∀ p ∈ pd, ∀ q, zpos mu imp l i < q → q ≤ zpos mu imp l l.length → q ≤ zhi mu imp l p.1 → Yld P l.toArray (τs q) p.2.1 p.2.2.1 p.2.2.2) ∧ gL (YP P mu imp l τs) (fun fr => K fr (τs (zpos mu imp l l.length))) i r fr
  | [], i, fr, σ, old, pd, hl, hi, ho, h => by
    have hi : i = l.length := by simpa using hi
    refine ⟨fun q => ((σ :: old)[zpos mu imp l i - q]?).getD σ, fun j τ hj => ?_, fun p _ q h1 h2 _ => ?_, ?_⟩
    · have : j < (σ :: old).length := (List.getElem?_eq_some_iff.1 hj).1
      simp only [List.length_cons] at this
      have e : zpos mu imp l i - (zpos mu imp l i - j) = j := by omega
      simp only [e, hj, Option.getD_some]
    · rw [hi] at h1; omega
    · show K fr _
      rw [← hi]; simp only [Nat.sub_self, List.getElem?_cons_zero, Option.getD_some]; exact h
  | o :: rest, i, fr, σ, old, pd, hl, hi, ho, h => by
    have hl' : ∀ j, rest[j]? = l[i + 1 + j]? := fun j => by have := hl (j + 1); simpa [Nat.add_assoc, Nat.add_comm 1 j] using this
    have h0 : l[i]? = some o := by simpa using (hl 0).symm
    have hF : zF mu imp l i = zst mu imp o := by unfold zF; rw [h0]
    have hp := zpos_succ mu imp l i
    have hi' : i + 1 + rest.length = l.length := by rw [← hi]; simp; omega
    rw [hF] at hp
    unfold ZL at h
    split at h
    · rename_i hz
      obtain ⟨r, τ, h1, h2, h3⟩ := h
      rw [if_pos hz] at hp
      obtain ⟨τs, e, hpd, hg⟩ := ZL_path rest (i + 1) _ τ (σ :: old) pd hl' hi' (by rw [hp, List.length_cons, ho]) h3
      have e0 := e 0 τ rfl
      have e1 := e 1 σ rfl
      rw [hp] at e0 e1
      simp only [Nat.sub_zero, Nat.add_sub_cancel] at e0 e1
      refine ⟨τs, fun j τ' hj => ?_, fun p hp' q q1 q2 q3 => ?_, r, ?_, hg⟩
      · have := e (j + 1) τ' (by simpa using hj)
        rw [hp, Nat.add_sub_add_right] at this; exact this
      · by_cases hq : q = zpos mu imp l i + 1
        · subst hq
          rw [e0]
          rcases h2 p hp' with h | h
          · unfold hiLt at h; simp only [decide_eq_true_eq] at h; omega
          · exact h
        · exact hpd p hp' q (by omega) q2 q3
      · unfold YP; rw [hF, if_pos hz, e0, e1]; exact h1
    · rename_i hz
      rw [if_neg hz] at hp
      have hp : zpos mu imp l (i + 1) = zpos mu imp l i := hp
      obtain ⟨r, ⟨h1, h3⟩ | ⟨h1, h2, h3⟩⟩ := h
      · obtain ⟨τs, e, hpd, hg⟩ := ZL_path rest (i + 1) _ σ old pd hl' hi' (by rw [hp, ho]) h3
        rw [hp] at e hpd
        refine ⟨τs, e, hpd, r, ?_, hg⟩
        unfold YP; rw [hF, if_neg hz]; exact fun q _ _ => h1 _
      · obtain ⟨τs, e, hpd, hg⟩ := ZL_path rest (i + 1) _ σ old _ hl' hi' (by rw [hp, ho]) h3
        rw [hp] at e hpd
        refine ⟨τs, e, fun p hp' => hpd p (.tail _ hp'), r, ?_, hg⟩
        unfold YP; rw [hF, if_neg hz]
        intro q q1 q2
        by_cases hq : q ≤ zpos mu imp l i
        · rcases Nat.eq_or_lt_of_le hq with rfl | hq
          · have := e 0 σ rfl
            rw [Nat.sub_zero] at this; rw [this]; exact h1
          · obtain ⟨j, hj⟩ : ∃ j, zpos mu imp l i = q + (j + 1) := ⟨zpos mu imp l i - q - 1, by omega⟩
            have hg := List.getElem?_eq_getElem (show j < old.length by omega)
            have := e (j + 1) _ (by rw [List.getElem?_cons_succ]; exact hg)
            rw [show zpos mu imp l i - (j + 1) = q by omega] at this
            rw [this]
            rcases h2 _ _ hg with h | h
            · unfold loGt at h; simp only [decide_eq_true_eq] at h; omega
            · exact h
        · exact hpd _ (.head _) q (by omega) (Nat.le_trans q2 (zhi_le mu imp l i)) q2
theorem any_zdraw {l : List Oper} (mu imp : List Nat) (hB : zB mu imp l = true) (h : ZL P mu imp l (fun fr σ => Q .normal fr σ) 0 l fr σ [] []) {G a w} (hs : Sim G fr σ D a w) : wpAny P .any l.toArray (lift G w D Q) l.length (Array.replicate l.length false) a { w with drawn := w.drawn + 1 } := by
  simp only [zB, Bool.and_eq_true, Region.lexB] at hB
  obtain ⟨⟨⟨hB1, hB2⟩, hch⟩, hall⟩ := hB
  have hb : Go.RowKit.Below w.heap.size w { w with drawn := w.drawn + 1 } := ⟨rfl, rfl, rfl, Nat.le_refl _, fun _ _ => rfl⟩
  have hs2 : Sim G fr σ D a { w with drawn := w.drawn + 1 } := hs.le (Le.grow hs.w hb) (hs.w.grow hb)
  have hch' : ∀ a b, a < b → b < l.length → zF mu imp l a = true → zF mu imp l b = true → anc .any l b a = true := by
    intro a b hab hbl ha hb
    have h1 := List.all_eq_true.1 hch b (by simpa using hbl)
    simp only [hb, Bool.not_true, Bool.false_or] at h1
    have h2 := List.all_eq_true.1 h1 a (by simpa using hab)
    simpa [ha] using h2
  have hz0 : zpos mu imp l 0 = 0 := rfl
  obtain ⟨τs, e, _, hgl⟩ := ZL_path l 0 fr σ [] [] (by simp) (by simp) rfl h
  have e := e 0 σ rfl
  rw [hz0, Nat.zero_sub] at e
  obtain ⟨LF, hLF⟩ : ∃ LF, LF = listFrom l.length 0 (Array.replicate l.length false) := ⟨_, rfl⟩
  have hl2 := gAny_lex (YP_put (P := P) mu imp l τs) (md := .any) (LF := LF) hB1 l 0 (Array.replicate l.length false) fr (by simp) (by simpa using hB2) hLF.symm hgl
  have hfin : zph mu imp l LF = zpos mu imp l l.length := by
    unfold zph zpos
    refine cnt_congr fun c hc => ?_
    have := List.all_eq_true.1 hall c (by simpa using hc)
    rw [hLF, this, Bool.and_true]
  have hini : zph mu imp l (Array.replicate l.length false) = 0 := by
    have h1 : zph mu imp l (Array.replicate l.length false) = cnt (fun _ => false) l.length := cnt_congr fun c hc => by simp [hc]
    have h2 : ∀ n, cnt (fun _ => false) n = 0 := fun n => by induction n with
      | zero => rfl
      | succ n ih => rw [cnt_succ, ih]; rfl
    rw [h1, h2]
  refine wpAny_of_gAny hch' (fun listed fr h => ?_) _ _ fr G a _ G w (by simp) (fun j oj _ hl => by rcases Nat.lt_or_ge j l.length with h' | h' <;> simp [h'] at hl) (Le.grow hs.w hb) (by rw [hini, e]; exact hs2) hl2
  obtain ⟨rfl, h⟩ := h
  rw [hfin]; exact h
theorem aw_zdraw {id : Nat} {l : List Oper} (mu imp : List Nat) (hm : P.follows .mixedOrders = true) (hB : zB mu imp l = true) (h : ZL P mu imp l (fun fr σ => Q .normal fr σ) 0 l fr σ [] []) : AW P D (.region id l.toArray true) Q fr σ := by
  intro _ _ G a w hs
  refine wp_region_any hm ?_
  rw [show l.toArray.size = l.length by simp]
  exact any_zdraw mu imp hB h hs
/-! ### how it is shown -/
/-- Does what it makes hang on no memory that may turn? -/
def indep (o : Oper) (ρ : Operand → AV) : Bool :=
  match o.op with
  | .move _ | .assign _ | .pick _ _ _ | .field _ _ _ | .fieldAddr _ _ _ | .extract _ _ | .makeInterface _ _ | .nilCheck _ | .binOp _ _ _ _ _ | .unOp _ _ _ | .convert _ _ _ | .index _ _ _ | .build _ _ | .makeFunc _ _ _ | .box _ _ | .alloc _ | .buildSlice _ _ _ => true
  | .load _ x => match ρ x with | .vel _ _ _ => true | _ => false
  | .indexAddr _ x _ => match ρ x with | .hsl _ _ _ => false | _ => true
  | .slice _ x _ _ _ => match ρ x with | .hsl _ _ _ => false | _ => true
  | .call c => match c.callee with
    | .builtin .len => (c.args.toList.map ρ).all fun x => match x with | .map _ => false | _ => true
    | .builtin .min | .builtin .max => true
    | _ => false
  | _ => false
theorem mapfst {α : Type} (z : Option α) (σ : ASt) : (z.map fun r => (r, σ)).map (fun x => x.1) = z := by cases z <;> rfl
theorem indep_spec {o : Oper} {ρ : Operand → AV} (h : indep o ρ = true) (σ σ' : ASt) : aopP P o ρ σ = aopP P o ρ σ' := by
  obtain ⟨dst, op, ty, ps, af, gd⟩ := o
  unfold indep at h
  cases op <;> simp only [Bool.false_eq_true] at h <;> simp only [aopP, aop, mapfst]
  case load t x =>
    generalize ρ x = v at h
    cases v <;> first | rfl | cases h
  case indexAddr t x i =>
    generalize ρ x = v at h
    generalize ρ i = j
    cases j with
    | p y =>
      cases y with
      | int k n =>
        simp only [aindexAddr]
        split
        · cases v <;> first | rfl | cases h
        · rfl
      | _ => rfl
    | _ => rfl
  case slice t x lo hi mx =>
    cases mx with
    | some m => rfl
    | none =>
      simp only [mapfst]
      generalize ρ x = v at h
      cases v with
      | p y => cases y <;> rfl
      | hsl => cases h
      | _ => rfl
  case binOp => split <;> simp only [Option.map_map] <;> rfl
  case unOp => simp only [Option.map_map]; rfl
  case index => simp only [Option.map_map]; rfl
  case makeInterface => split <;> rfl
  case nilCheck => split <;> rfl
  case extract => split <;> first | rfl | simp only [mapfst]
  case pick c a b => split <;> rfl
  case box t x => split <;> first | rfl | (split <;> rfl)
  case alloc t => cases tzero P t with
    | none => rfl
    | some z => simp only [Option.bind_some]; split <;> first | rfl | (split <;> rfl)
  case buildSlice t n q =>
    cases abuildS P t n (q.toList.map fun q => (q.1, ρ q.2)) with
    | none => rfl
    | some es => simp only [Option.bind_some]; split <;> rfl
  case call c =>
    obtain ⟨cl, args, ts⟩ := c
    cases cl with
    | builtin b =>
      cases b <;> first | (simp at h; done) | skip
      case len =>
        simp only [Option.map_map, abuiltin]
        generalize args.toList.map ρ = xs at h
        generalize ts.toList = ys
        match xs, ys, h with
        | [x], [t], h =>
          simp only [List.all_cons, List.all_nil, Bool.and_true] at h
          cases x with
          | p y => cases y with
            | map a => cases a <;> rfl
            | _ => rfl
          | map => simp at h
          | _ => rfl
        | [], _, _ => rfl
        | [_], [], _ => rfl
        | [_], _ :: _ :: _, _ => rfl
        | _ :: _ :: _, _, _ => rfl
      all_goals (simp only [Option.map_map]; rfl)
    | _ => simp at h
  all_goals rfl
theorem yld_any {o : Oper} {r : AV} (hg : o.guard = none) (hi : indep o (aev fr) = true) (h : aopP P o (aev fr) σ = some r) : ∀ σ', Yld P ops σ' o fr r :=
  fun σ' => yld_plain hg (by rw [indep_spec hi σ' σ]; exact h)
theorem yld_any_guard {o : Oper} {r : AV} {c : Bool} (hc : gcond ops o fr = some c) (hi : indep o (fun x => strip c (aev fr x)) = true) (h : aopP P o (fun x => strip c (aev fr x)) σ = some r) : ∀ σ', Yld P ops σ' o fr (.opt c r) :=
  fun σ' => yld_guard hc (by rw [indep_spec hi σ' σ]; exact h)
/-- What was read, at what place in the order: it may yet be read later on. -/
structure Pend where
  i : Nat
  o : Oper
  fr : List AV
  c : Option Bool
  r : AV
def Pend.sem (p : Pend) : Nat × Oper × List AV × AV := (p.i, p.o, p.fr, match p.c with | none => p.r | some c => .opt c p.r)
def Pend.ok (l : List Oper) (p : Pend) : Prop := match p.c with | none => p.o.guard = none | some c => gcond l.toArray p.o p.fr = some c
def pastOk (P : Program) (mu imp : List Nat) (l : List Oper) (i : Nat) (o : Oper) (ρ : Operand → AV) (r : AV) : List ASt → Prop
  | [] => True
  | τ :: old => (loGt mu imp l i old.length = true ∨ aopP P o ρ τ = some r) ∧ pastOk P mu imp l i o ρ r old
def pendOk (P : Program) (mu imp : List Nat) (l : List Oper) (q : Nat) (τ : ASt) : List Pend → Prop
  | [] => True
  | ⟨i, o, fr, none, r⟩ :: pd => (hiLt mu imp l i q = true ∨ aopP P o (aev fr) τ = some r) ∧ pendOk P mu imp l q τ pd
  | ⟨i, o, fr, some c, r⟩ :: pd => (hiLt mu imp l i q = true ∨ aopP P o (fun x => strip c (aev fr x)) τ = some r) ∧ pendOk P mu imp l q τ pd
theorem pastOk_get {mu imp : List Nat} {l : List Oper} {i : Nat} {o : Oper} {ρ : Operand → AV} {r : AV} : ∀ {old : List ASt}, pastOk P mu imp l i o ρ r old → ∀ (j : Nat) (τ : ASt), old[j]? = some τ → loGt mu imp l i (old.length - 1 - j) = true ∨ aopP P o ρ τ = some r
  | [], _, _, _, h => by simp at h
  | τ :: old, hp, j, τ', h => by
    unfold pastOk at hp
    cases j with
    | zero =>
      obtain rfl : τ = τ' := by simpa using h
      simpa using hp.1
    | succ j =>
      have := pastOk_get hp.2 j τ' (by simpa using h)
      rw [show (τ :: old).length - 1 - (j + 1) = old.length - 1 - j by simp; omega]; exact this
theorem pendOk_yld {mu imp : List Nat} {l : List Oper} {q : Nat} {τ : ASt} : ∀ {pd : List Pend}, (∀ p ∈ pd, p.ok l) → pendOk P mu imp l q τ pd → ∀ p ∈ pd.map Pend.sem, hiLt mu imp l p.1 q = true ∨ Yld P l.toArray τ p.2.1 p.2.2.1 p.2.2.2
  | [], _, _, _, h => by cases h
  | ⟨i, o, fr, none, r⟩ :: pd, hok, hp, p, h => by
    unfold pendOk at hp
    rcases List.mem_cons.1 h with rfl | h
    · exact hp.1.imp id fun h => yld_plain (hok _ (.head _)) h
    · exact pendOk_yld (fun p hp => hok p (.tail _ hp)) hp.2 p h
  | ⟨i, o, fr, some c, r⟩ :: pd, hok, hp, p, h => by
    unfold pendOk at hp
    rcases List.mem_cons.1 h with rfl | h
    · exact hp.1.imp id fun h => yld_guard (hok _ (.head _)) h
    · exact pendOk_yld (fun p hp => hok p (.tail _ hp)) hp.2 p h
/-- What is left to show. -/
def ZS (P : Program) (mu imp : List Nat) (l : List Oper) (K : List AV → ASt → Prop) (i : Nat) (r : List Oper) (fr : List AV) (σ : ASt) (old : List ASt) (pd : List Pend) : Prop := (∀ p ∈ pd, p.ok l) → ZL P mu imp l K i r fr σ old (pd.map Pend.sem)
/-- As far as it goes. -/
def ZRun (P : Program) (mu imp : List Nat) (l : List Oper) (K : List AV → ASt → Prop) : Nat → List Oper → List AV → ASt → List ASt → List Pend → Prop
  | _, [], fr, σ, _, _ => K fr σ
  | i, o :: rest, fr, σ, old, pd =>
    if zst mu imp o = true then
      (if o.guard.isSome = true then ZS P mu imp l K i (o :: rest) fr σ old pd else match aop P mu o (aev fr) σ with
        | some (r, τ) => pendOk P mu imp l (old.length + 1) τ pd ∧ Shut (ZRun P mu imp l K (i + 1) rest (aput fr o.dst r) τ (σ :: old) pd)
        | none => ZS P mu imp l K i (o :: rest) fr σ old pd)
    else match o.guard with
      | none => match aopP P o (aev fr) σ with
        | some r => if indep o (aev fr) = true then Shut (ZRun P mu imp l K (i + 1) rest (aput fr o.dst r) σ old pd)
          else pastOk P mu imp l i o (aev fr) r old ∧ Shut (ZRun P mu imp l K (i + 1) rest (aput fr o.dst r) σ old (⟨i, o, fr, none, r⟩ :: pd))
        | none => ZS P mu imp l K i (o :: rest) fr σ old pd
      | some _ => match gcond l.toArray o fr with
        | some c => match aopP P o (fun x => strip c (aev fr x)) σ with
          | some r => if indep o (fun x => strip c (aev fr x)) = true then Shut (ZRun P mu imp l K (i + 1) rest (aput fr o.dst (.opt c r)) σ old pd)
            else pastOk P mu imp l i o (fun x => strip c (aev fr x)) r old ∧ Shut (ZRun P mu imp l K (i + 1) rest (aput fr o.dst (.opt c r)) σ old (⟨i, o, fr, some c, r⟩ :: pd))
          | none => ZS P mu imp l K i (o :: rest) fr σ old pd
        | none => ZS P mu imp l K i (o :: rest) fr σ old pd
theorem zl_run {mu imp : List Nat} {l : List Oper} {K : List AV → ASt → Prop} : ∀ {r : List Oper} {i : Nat} {fr : List AV} {σ : ASt} {old : List ASt} {pd : List Pend}, ZRun P mu imp l K i r fr σ old pd → ZS P mu imp l K i r fr σ old pd
  | [], _, _, _, _, _, h => fun _ => h
  | o :: rest, i, fr, σ, old, pd, h => by
    intro hok
    unfold ZRun at h
    split at h
    · rename_i hz
      split at h
      · exact h hok
      · rename_i hg
        have hg : o.guard = none := by cases hq : o.guard with
          | none => rfl
          | some x => rw [hq] at hg; exact absurd rfl hg
        split at h
        · rename_i r τ hr
          unfold ZL; rw [if_pos hz]
          refine ⟨r, τ, ?_, pendOk_yld hok h.1, zl_run h.2.out hok⟩
          refine yldT_opq hg fun ρ hρ => opq_aop (mu := mu) ?_ ⟨rfl, rfl⟩
          rw [aop_congr hρ]; exact hr
        · exact h hok
    · rename_i hz
      split at h
      · rename_i hg
        split at h
        · rename_i r hr
          unfold ZL; rw [if_neg hz]
          split at h
          · rename_i h1
            exact ⟨r, .inl ⟨yld_any hg h1 hr, zl_run h.out hok⟩⟩
          · refine ⟨r, .inr ⟨yld_plain hg hr, fun j τ hj => (pastOk_get h.1 j τ hj).imp id fun h => yld_plain hg h, ?_⟩⟩
            exact zl_run h.2.out fun p hp => by
              rcases List.mem_cons.1 hp with rfl | hp
              · exact hg
              · exact hok p hp
        · exact h hok
      · split at h
        · rename_i c hc
          split at h
          · rename_i r hr
            unfold ZL; rw [if_neg hz]
            split at h
            · rename_i h1
              exact ⟨_, .inl ⟨yld_any_guard hc h1 hr, zl_run h.out hok⟩⟩
            · refine ⟨_, .inr ⟨yld_guard hc hr, fun j τ hj => (pastOk_get h.1 j τ hj).imp id fun h => yld_guard hc h, ?_⟩⟩
              exact zl_run h.2.out fun p hp => by
                rcases List.mem_cons.1 hp with rfl | hp
                · exact hc
                · exact hok p hp
          · exact h hok
        · exact h hok
@[simp] theorem shut_znil {mu imp : List Nat} {l : List Oper} {K : List AV → ASt → Prop} {i : Nat} {old : List ASt} {pd : List Pend} : Shut (ZRun P mu imp l K i [] fr σ old pd) ↔ K fr σ := ⟨fun h => h.1, fun h => ⟨h⟩⟩
@[simp] theorem shut_zcons {mu imp : List Nat} {l : List Oper} {K : List AV → ASt → Prop} {i : Nat} {o : Oper} {rest : List Oper} {old : List ASt} {pd : List Pend} : Shut (ZRun P mu imp l K i (o :: rest) fr σ old pd) ↔ (
    if zst mu imp o = true then
      (if o.guard.isSome = true then ZS P mu imp l K i (o :: rest) fr σ old pd else match aop P mu o (aev fr) σ with
        | some (r, τ) => pendOk P mu imp l (old.length + 1) τ pd ∧ Shut (ZRun P mu imp l K (i + 1) rest (aput fr o.dst r) τ (σ :: old) pd)
        | none => ZS P mu imp l K i (o :: rest) fr σ old pd)
    else match o.guard with
      | none => match aopP P o (aev fr) σ with
        | some r => if indep o (aev fr) = true then Shut (ZRun P mu imp l K (i + 1) rest (aput fr o.dst r) σ old pd)
          else pastOk P mu imp l i o (aev fr) r old ∧ Shut (ZRun P mu imp l K (i + 1) rest (aput fr o.dst r) σ old (⟨i, o, fr, none, r⟩ :: pd))
        | none => ZS P mu imp l K i (o :: rest) fr σ old pd
      | some _ => match gcond l.toArray o fr with
        | some c => match aopP P o (fun x => strip c (aev fr x)) σ with
          | some r => if indep o (fun x => strip c (aev fr x)) = true then Shut (ZRun P mu imp l K (i + 1) rest (aput fr o.dst (.opt c r)) σ old pd)
            else pastOk P mu imp l i o (fun x => strip c (aev fr x)) r old ∧ Shut (ZRun P mu imp l K (i + 1) rest (aput fr o.dst (.opt c r)) σ old (⟨i, o, fr, some c, r⟩ :: pd))
          | none => ZS P mu imp l K i (o :: rest) fr σ old pd
        | none => ZS P mu imp l K i (o :: rest) fr σ old pd) := ⟨fun h => by have := h.1; unfold ZRun at this; exact this, fun h => ⟨by unfold ZRun; exact h⟩⟩
theorem aw_zrun {id : Nat} {l : List Oper} (mu imp : List Nat) (hm : P.follows .mixedOrders = true) (hne : l.any (zst mu imp) = true) (hB : zB mu imp l = true) (h : Shut (ZRun P mu imp l (fun fr σ => Q .normal fr σ) 0 l fr σ [] [])) : AW P D (.region id l.toArray true) Q fr σ :=
  aw_zdraw mu imp hm hB (zl_run h.out fun p hp => by cases hp)
/-- append, next in such a region. -/
theorem zl_append {mu imp : List Nat} {l : List Oper} {K : List AV → ASt → Prop} {i : Nat} {old : List ASt} {pd : List Pend} {o : Oper} {rest : List Oper} {s x : Operand} {t el : TypeId} (hz : zst mu imp o = true) (ho : o.op = .call { callee := .builtin .append, args := #[s, x], argTypes := #[t, t] }) (hg : o.guard = none) {b off k : Nat} {xs ys : List AV} {n by_ : Nat} {g : Bool} {z : AV}
    (hs : aev fr s = .hsl b off k) (hb : σ.sl b = some xs) (hk : off + k ≤ xs.length) (hx : asrc σ (aev fr x) = some ys) (hne : ys ≠ []) (ht : telem P t = some (n, g, by_)) (hel : telemT P t = some el) (hz0 : tzero P el = some z) (hzn : z.cells.length = n)
    (hxs : ∀ y ∈ xs, y.cells.length = n) (hys : ∀ y ∈ ys, y.cells.length = n ∧ y.okv = true) (hB : (k + ys.length) * by_ ≤ 140737488355328) (hS : k + ys.length ≤ 9223372036854775807)
    (hk2 : pendOk P mu imp l (old.length + 1) ((σ.dropSl b).addSl ((xs.drop off).take k ++ ys)) pd ∧ Shut (ZRun P mu imp l K (i + 1) rest (aput fr o.dst (.hsl σ.next 0 (k + ys.length))) ((σ.dropSl b).addSl ((xs.drop off).take k ++ ys)) (σ :: old) pd)) : ZS P mu imp l K i (o :: rest) fr σ old pd := by
  intro hok
  unfold ZL; rw [if_pos hz]
  refine ⟨_, _, yldT_opq hg fun ρ hρ => ?_, pendOk_yld hok hk2.1, zl_run hk2.2.out hok⟩
  have h1 : ρ s = aev fr s := hρ s (by rw [ho]; simp [Op.operands, Call.operands])
  have h2 : ρ x = aev fr x := hρ x (by rw [ho]; simp [Op.operands, Call.operands])
  exact opq_append ho (by rw [h1]; exact hs) hb hk (by rw [h2]; exact hx) hne ht hel hz0 hzn hxs hys hB hS ⟨rfl, rfl⟩
/-- A pure call, in such a region. -/
theorem zl_pure {mu imp : List Nat} {l : List Oper} {K : List AV → ASt → Prop} {i : Nat} {old : List ASt} {pd : List Pend} {o : Oper} {rest : List Oper} {f : Operand} {aa : Array Operand} {ts : Array TypeId} (hz : zst mu imp o = false) (ho : o.op = .call { callee := .value f, args := aa, argTypes := ts }) (hg : o.guard = none)
    {F : FuncId} {first cap : List AV} (hf : acallee (aev fr f) = some (F, first, cap)) (hc : callable P F = true) {args : List AV} (ha : first ++ aa.toList.map (aev fr) ++ cap = args) {r : AV} (h : APure P F args r) (hcl : ∀ a ∈ args, Cl a) (hr : Cl r)
    (hk : Shut (ZRun P mu imp l K (i + 1) rest (aput fr o.dst r) σ old pd)) : ZS P mu imp l K i (o :: rest) fr σ old pd := by
  intro hok
  unfold ZL; rw [if_neg (by rw [hz]; decide)]
  exact ⟨r, .inl ⟨fun σ' => yld_opq hg fun ρ hρ => opq_pure (ρ0 := aev fr) ho hf hc ha h hcl hr hρ, zl_run hk.out hok⟩⟩
theorem zl_pure_guard {mu imp : List Nat} {l : List Oper} {K : List AV → ASt → Prop} {i : Nat} {old : List ASt} {pd : List Pend} {o : Oper} {rest : List Oper} {f : Operand} {aa : Array Operand} {ts : Array TypeId} (hz : zst mu imp o = false) (ho : o.op = .call { callee := .value f, args := aa, argTypes := ts }) {c : Bool} (hg : gcond l.toArray o fr = some c)
    {F : FuncId} {first cap : List AV} (hf : acallee (peel (aev fr f)) = some (F, first, cap)) (hc : callable P F = true) {args : List AV} (ha : first ++ aa.toList.map (fun x => peel (aev fr x)) ++ cap = args) {r : AV} (h : c = true → APure P F args r)
    (hok : okS c (aev fr f) = true ∧ ∀ x ∈ aa.toList, okS c (aev fr x) = true) (hcl : ∀ a ∈ args, Cl a) (hr : Cl r)
    (hk : Shut (ZRun P mu imp l K (i + 1) rest (aput fr o.dst (.opt c r)) σ old pd)) : ZS P mu imp l K i (o :: rest) fr σ old pd := by
  intro hpk
  unfold ZL; rw [if_neg (by rw [hz]; decide)]
  have hf' : acallee (strip c (aev fr f)) = some (F, first, cap) := by rw [strip_peel hok.1]; exact hf
  have ha' : first ++ aa.toList.map (fun x => strip c (aev fr x)) ++ cap = args := by rw [strip_mapL hok.2]; exact ha
  exact ⟨_, .inl ⟨fun σ' => yld_opq_guard hg fun hc' ρ hρ => opq_pure (ρ0 := fun x => strip c (aev fr x)) ho hf' hc ha' (h hc') hcl hr hρ, zl_run hk.out hpk⟩⟩
theorem zcurL {mu imp : List Nat} {l : List Oper} {i k : Nat} {p : Prop} (h : loGt mu imp l i k = true) (q : p) : loGt mu imp l i k = true ∧ p := ⟨h, q⟩
theorem zcurH {mu imp : List Nat} {l : List Oper} {i k : Nat} {p : Prop} (h : hiLt mu imp l i k = true) (q : p) : hiLt mu imp l i k = true ∧ p := ⟨h, q⟩
theorem zcurL' {mu imp : List Nat} {l : List Oper} {i k : Nat} {p r : Prop} (h : loGt mu imp l i k = true) (q : p) : (loGt mu imp l i k = true ∨ r) ∧ p := ⟨.inl h, q⟩
theorem zcurH' {mu imp : List Nat} {l : List Oper} {i k : Nat} {p r : Prop} (h : hiLt mu imp l i k = true) (q : p) : (hiLt mu imp l i k = true ∨ r) ∧ p := ⟨.inl h, q⟩
attribute [simp] zst indep pastOk pendOk
end Go.AL
