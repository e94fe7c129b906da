/- Parts of the proof of EvalReads: the logic, contracts, plain laws. -/
import Derived.Test.YtjldlcakinmajaaZEvalReads13
import Derived.Test.YtjldlcakinmajaaZEvalReads22
import Derived.Test.YtjldlcakinmajaaZEvalReads21
/-! Regions that draw, where two operations may stand in either order: shown for each. -/
namespace Go.AL
set_option linter.unusedVariables false
set_option linter.unusedSimpArgs false
variable {P : Program} {σ : ASt} {D : List Deferred} {Q : Exit → List AV → ASt → Prop} {fr : List AV}
/-- The operation X behind A. -/
def aftE (A : Nat) (o : Oper) : Oper := { o with after := o.after.push ⟨A, .data⟩ }
def aft (l : List Oper) (X A : Nat) : List Oper := l.modify X (aftE A)
def ValO (ops : Array Oper) : Nat → Array Bool → List Nat → Prop
  | 0, _, L => L = []
  | _ + 1, listed, [] => Region.ready .any ops listed = []
  | n + 1, listed, i :: L => i ∈ Region.ready .any ops listed ∧ ValO ops n (listed.setIfInBounds i true) L
theorem valO_lin (ops : Array Oper) : ∀ (fuel t : Nat) (listed : Array Bool), ValO ops fuel listed (Region.linearise.go .any ops fuel t listed [])
  | 0, t, listed => by simp [Region.linearise.go, ValO]
  | fuel + 1, t, listed => by
    simp only [Region.linearise.go]
    change ValO ops (fuel + 1) listed (match (Region.ready .any ops listed)[t % (Region.ready .any ops listed).length]? with
      | some i => Region.linearise.go .any ops fuel (t / (Region.ready .any ops listed).length) (listed.setIfInBounds i true) [i]
      | none => [].reverse)
    cases hi : (Region.ready .any ops listed)[t % (Region.ready .any ops listed).length]? with
    | none =>
      show Region.ready .any ops listed = []
      cases hr : Region.ready .any ops listed with
      | nil => rfl
      | cons x xs =>
        rw [hr] at hi
        have hlt : t % (x :: xs).length < (x :: xs).length := Nat.mod_lt _ (by simp)
        simp at hi
        simp at hlt
        omega
    | some i =>
      simp only []
      rw [linearise_go_acc, List.reverse_singleton, List.singleton_append]
      exact ⟨List.mem_of_getElem? hi, valO_lin ops fuel _ _⟩
theorem valO_any {F : Fence} {n : Nat} {ops : Array Oper} {Q : Exit → Act → World → Prop} : ∀ (fuel : Nat) (listed : Array Bool) (L : List Nat) (a : Act) (w : World), wpAnyIn F n P .any ops Q fuel listed a w → ValO ops fuel listed L → wpOpsIn F n P ops Q L a w
  | 0, _, L, a, w, h, hv => by
    obtain rfl : L = [] := hv
    exact h.2
  | fuel + 1, _, [], a, w, h, hv => h.1 hv
  | fuel + 1, _, i :: L, a, w, h, hv => by
    rw [wpOpsIn_cons]
    exact wpOpIn_mono (fun a w h => valO_any fuel _ L a w h hv.2) (h.2 i hv.1)
theorem aft_get (l : List Oper) (X A i : Nat) : (aft l X A)[i]? = if X = i then (l[i]?).map (aftE A) else l[i]? := by
  unfold aft
  rw [List.getElem?_modify]
  split <;> simp
theorem aft_len (l : List Oper) (X A : Nat) : (aft l X A).length = l.length := by unfold aft; rw [List.length_modify]
theorem ready_aft (l : List Oper) (X A i : Nat) (listed : Array Bool) : i ∈ Region.ready .any (aft l X A).toArray listed ↔ i ∈ Region.ready .any l.toArray listed ∧ (X = i → listed.getD A false = true) := by
  unfold Region.ready
  simp only [List.mem_filter, List.mem_range, List.size_toArray, aft_len, Bool.and_eq_true, List.getElem?_toArray, aft_get]
  by_cases hX : X = i
  · rw [if_pos hX]
    cases h : l[i]? with
    | none => simp
    | some o =>
      simp only [Option.map_some, Option.getD_some, aftE, Array.all_push, Bool.and_eq_true]
      have : (!Region.binds .any ⟨A, .data⟩ || listed.getD A false) = listed.getD A false := rfl
      rw [this]
      constructor
      · exact fun h => ⟨⟨h.1, h.2.1, h.2.2.1⟩, fun _ => h.2.2.2⟩
      · exact fun h => ⟨h.1.1, h.1.2.1, h.1.2.2, h.2 hX⟩
  · rw [if_neg hX]
    exact ⟨fun h => ⟨h, fun e => absurd e hX⟩, fun h => h.1⟩
theorem ready_nil {l : List Oper} {X A : Nat} {listed : Array Bool} (h : Region.ready .any l.toArray listed = []) : Region.ready .any (aft l X A).toArray listed = [] := by
  refine List.eq_nil_iff_forall_not_mem.2 fun i hi => ?_
  have := ((ready_aft l X A i listed).1 hi).1
  rw [h] at this; cases this
theorem getD_set {listed : Array Bool} {i j : Nat} (h : listed.getD j false = true) : (listed.setIfInBounds i true).getD j false = true := by
  rw [Array.getD_eq_getD_getElem?] at h ⊢
  rw [Array.getElem?_setIfInBounds]
  split
  · rename_i e
    subst e
    split
    · rfl
    · rename_i hn; rw [Array.getElem?_eq_none (by omega)] at h; exact h
  · exact h
theorem valO_sub {l : List Oper} {X A : Nat} : ∀ {n : Nat} {listed : Array Bool} {L : List Nat}, listed.getD A false = true → ValO l.toArray n listed L → ValO (aft l X A).toArray n listed L
  | 0, _, _, _, h => h
  | _ + 1, _, [], _, h => ready_nil h
  | n + 1, _, i :: L, hA, h => ⟨(ready_aft l X A i _).2 ⟨h.1, fun _ => hA⟩, valO_sub (getD_set hA) h.2⟩
theorem valO_split {l : List Oper} {X A : Nat} (hXA : A ≠ X) (hA : A < l.length) (hX : X < l.length) : ∀ {n : Nat} {listed : Array Bool} {L : List Nat}, listed.size = l.length → ValO l.toArray n listed L → ValO (aft l X A).toArray n listed L ∨ ValO (aft l A X).toArray n listed L
  | 0, _, _, _, h => .inl h
  | _ + 1, _, [], _, h => .inl (ready_nil h)
  | n + 1, listed, i :: L, hs, h => by
    have hon : ∀ j, j < l.length → (listed.setIfInBounds j true).getD j false = true := fun j hj => by
      rw [Array.getD_eq_getD_getElem?, Array.getElem?_setIfInBounds, if_pos rfl, if_pos (by omega)]; rfl
    by_cases h1 : i = X
    · subst h1
      exact .inr ⟨(ready_aft l A i i _).2 ⟨h.1, fun e => absurd e hXA⟩, valO_sub (hon i hX) h.2⟩
    by_cases h2 : i = A
    · subst h2
      exact .inl ⟨(ready_aft l X i i _).2 ⟨h.1, fun e => absurd e.symm h1⟩, valO_sub (hon i hA) h.2⟩
    rcases valO_split hXA hA hX (by simpa using hs) h.2 with g | g
    · exact .inl ⟨(ready_aft l X A i _).2 ⟨h.1, fun e => absurd e.symm h1⟩, g⟩
    · exact .inr ⟨(ready_aft l A X i _).2 ⟨h.1, fun e => absurd e.symm h2⟩, g⟩
theorem ops_aft {F : Fence} {n : Nat} {l : List Oper} {X A : Nat} {Q : Exit → Act → World → Prop} : ∀ (L : List Nat) (a : Act) (w : World), wpOpsIn F n P (aft l X A).toArray Q L a w → wpOpsIn F n P l.toArray Q L a w
  | [], a, w, h => h
  | i :: L, a, w, h => by
    have hy : ∀ tmps, yielded (aft l X A).toArray tmps = yielded l.toArray tmps := fun tmps => by
      funext j
      unfold yielded
      simp only [List.getElem?_toArray, aft_get]
      have : ((if X = j then (l[j]?).map (aftE A) else l[j]?).bind (·.dst)) = (l[j]?).bind (·.dst) := by
        split
        · cases l[j]? <;> rfl
        · rfl
      rw [this]
    have ih := ops_aft (F := F) (n := n) (l := l) (X := X) (A := A) (Q := Q) L
    unfold wpOpsIn at h ⊢
    simp only [List.getElem?_toArray, aft_get, hy] at h ⊢
    cases ho : l[i]? with
    | none =>
      rw [ho] at h
      have h : wpOpsIn F n P (aft l X A).toArray Q L a w := by
        by_cases hX : X = i
        · rw [if_pos hX] at h; exact h
        · rw [if_neg hX] at h; exact h
      exact ih a w h
    | some o =>
      rw [ho] at h
      have h : if Region.wanted o (yielded l.toArray a.tmps) = true then o.wpIn F n P a w (wpOpsIn F n P (aft l X A).toArray Q L) Q else (∀ f, o.about P w a.eval = some f → F.fn f) ∧ wpOpsIn F n P (aft l X A).toArray Q L (a.put o.dst undef) w := by
        by_cases hX : X = i
        · rw [if_pos hX] at h; exact h
        · rw [if_neg hX] at h; exact h
      simp only
      split
      · rename_i hw
        rw [if_pos hw] at h
        exact Oper.wpIn_mono ih h
      · rename_i hw
        rw [if_neg hw] at h
        exact ⟨h.1, ih _ _ h.2⟩
/-- Whatever the order. -/
def AWO (P : Program) (D : List Deferred) (l : List Oper) (Q : Exit → List AV → ASt → Prop) (fr : List AV) (σ : ASt) : Prop :=
  ∀ (_ : Rd) G a w, Sim G fr σ D a w → ∀ L, ValO l.toArray l.length (Array.replicate l.length false) L → wpOpsIn wideR 2 P l.toArray (lift G w D Q) L a { w with drawn := w.drawn + 1 }
theorem aw_of_awo {id : Nat} {l : List Oper} (hm : P.follows .mixedOrders = true) (h : AWO P D l Q fr σ) : AW P D (.region id l.toArray true) Q fr σ := by
  intro _ _ G a w hs
  refine wpIn_region_draw fun t => ?_
  simp only [Region.schedule, hm, Bool.true_or, if_true]
  have := valO_lin l.toArray l.toArray.size t (Array.replicate l.toArray.size false)
  simp only [List.size_toArray] at this
  exact h _ G a w hs _ (by unfold Region.linearise; simpa using this)
theorem awo_split {l : List Oper} (A X : Nat) (hXA : A ≠ X) (hA : A < l.length) (hX : X < l.length) (h1 : AWO P D (aft l X A) Q fr σ) (h2 : AWO P D (aft l A X) Q fr σ) : AWO P D l Q fr σ := by
  intro _ G a w hs L hL
  rcases valO_split hXA hA hX (by simp) hL with g | g
  · exact ops_aft L _ _ (h1 _ G a w hs L (by rw [aft_len]; exact g))
  · exact ops_aft L _ _ (h2 _ G a w hs L (by rw [aft_len]; exact g))
theorem awo_zrun {l : List Oper} (mu imp : List Nat) (hB : zB mu imp l = true) (h : Shut (ZRun P mu imp l (fun fr σ => Q .normal fr σ) 0 l fr σ [] [])) : AWO P D l Q fr σ := fun _ G a w hs L hL =>
  valO_any _ _ L _ _ (wpAny_in _ _ _ _ (any_zdraw mu imp hB (zl_run h.out fun p hp => by cases hp) hs)) hL
/-! ### in another order of the text -/
def renO (ps : List Nat) (o : Oper) : Oper := { o with after := o.after.map fun e => { e with on := ps.idxOf e.on }, guard := o.guard.map fun g => (ps.idxOf g.1, g.2) }
def permL (ps : List Nat) (l : List Oper) : List Nat → List Oper
  | [] => []
  | i :: js => renO ps (l.getD i default) :: permL ps l js
theorem permL_len (ps : List Nat) (l : List Oper) : ∀ js, (permL ps l js).length = js.length
  | [] => rfl
  | _ :: js => by rw [permL, List.length_cons, permL_len ps l js, List.length_cons]
theorem permL_get (ps : List Nat) (l : List Oper) : ∀ (js : List Nat) (j : Nat), (permL ps l js)[j]? = (js[j]?).map fun i => renO ps (l.getD i default)
  | [], _ => by simp [permL]
  | i :: js, 0 => rfl
  | i :: js, j + 1 => permL_get ps l js j
/-- Is it one? -/
def isPerm (n : Nat) (ps : List Nat) : Bool := (decide (ps.length = n) && (List.range n).all fun i => ps.contains i) && decide ps.Nodup
section
variable {l : List Oper} {ps : List Nat} (hp : isPerm l.length ps = true)
include hp
theorem perm_len : ps.length = l.length := by simp only [isPerm, Bool.and_eq_true, decide_eq_true_eq] at hp; exact hp.1.1
theorem perm_nd : ps.Nodup := by simp only [isPerm, Bool.and_eq_true, decide_eq_true_eq] at hp; exact hp.2
theorem perm_has {i : Nat} (h : i < l.length) : i ∈ ps := by
  simp only [isPerm, Bool.and_eq_true, decide_eq_true_eq] at hp
  have := List.all_eq_true.1 hp.1.2 i (by simpa using h)
  simpa using this
theorem perm_pos {i : Nat} (h : i < l.length) : ps.idxOf i < l.length ∧ ps[ps.idxOf i]? = some i := by
  have hm := perm_has hp h
  have h1 := List.idxOf_lt_length_of_mem hm
  exact ⟨by rw [← perm_len hp]; exact h1, by rw [List.getElem?_eq_getElem h1, List.getElem_idxOf]⟩
theorem perm_out {i : Nat} (h : ¬ i < l.length) (hin : i ∈ ps) : False := by
  have hlen := perm_len hp
  have hsub : List.range l.length ⊆ ps.erase i := fun j hj => by
    have hj := List.mem_range.1 hj
    exact (List.mem_erase_of_ne (by omega)).2 (perm_has hp hj)
  have := List.Nodup.length_le_of_subset List.nodup_range hsub
  rw [List.length_range, List.length_erase_of_mem hin] at this
  have : 0 < ps.length := List.length_pos_of_mem hin
  omega
theorem perm_at {j : Nat} (h : j < l.length) : ∃ i, i < l.length ∧ ps.idxOf i = j ∧ ps[j]? = some i := by
  have hlen := perm_len hp
  obtain ⟨i, hi⟩ : ∃ i, ps[j]? = some i := ⟨_, List.getElem?_eq_getElem (by omega)⟩
  have hmem := List.mem_of_getElem? hi
  have hlt : i < l.length := by
    rcases Nat.lt_or_ge i l.length with h | h
    · exact h
    · exact (perm_out hp (by omega) hmem).elim
  refine ⟨i, hlt, ?_, hi⟩
  obtain ⟨h1, h2⟩ := perm_pos hp hlt
  exact (List.getElem?_inj (by omega) (perm_nd hp)).1 (h2.trans hi.symm)
theorem perm_op {i : Nat} (h : i < l.length) : (permL ps l ps)[ps.idxOf i]? = (l[i]?).map (renO ps) := by
  rw [permL_get, (perm_pos hp h).2]; simp [List.getD, h]
/-- What is listed, of both. -/
def Lk (l : List Oper) (ps : List Nat) (a b : Array Bool) : Prop := a.size = l.length ∧ b.size = l.length ∧ ∀ i, i < l.length → b[ps.idxOf i]? = a[i]?
theorem ready_perm {a b : Array Bool} (hk : Lk l ps a b) {i : Nat} (h : i < l.length) : ps.idxOf i ∈ Region.ready .any (permL ps l ps).toArray b ↔ i ∈ Region.ready .any l.toArray a := by
  have hg : ∀ (j : Nat), b.getD (ps.idxOf j) false = a.getD j false := fun j => by
    rw [Array.getD_eq_getD_getElem?, Array.getD_eq_getD_getElem?]
    rcases Nat.lt_or_ge j l.length with hj | hj
    · rw [hk.2.2 j hj]
    · have ea : a[j]? = none := Array.getElem?_eq_none (by rw [hk.1]; omega)
      have : ps.idxOf j = ps.length := List.idxOf_eq_length fun hin => perm_out hp (by omega) hin
      have eb : b[ps.idxOf j]? = none := Array.getElem?_eq_none (by rw [this, hk.2.1, perm_len hp]; omega)
      rw [ea, eb]
  have hg2 : b.getD (ps.idxOf i) true = a.getD i true := by rw [Array.getD_eq_getD_getElem?, Array.getD_eq_getD_getElem?, hk.2.2 i h]
  unfold Region.ready
  simp only [List.mem_filter, List.mem_range, List.size_toArray, permL_len, perm_len hp, List.getElem?_toArray, perm_op hp h, hg2]
  rw [List.getElem?_eq_getElem h]
  simp only [Option.map_some, Option.getD_some, renO, Array.all_map, Function.comp_def, hg]
  have hb : ∀ e : Edge, Region.binds .any { e with on := ps.idxOf e.on } = Region.binds .any e := fun e => rfl
  simp only [hb]
  exact ⟨fun h' => ⟨h, h'.2⟩, fun h' => ⟨(perm_pos hp h).1, h'.2⟩⟩
theorem valO_perm : ∀ {n : Nat} {a b : Array Bool} {L : List Nat}, Lk l ps a b → ValO l.toArray n a L → ValO (permL ps l ps).toArray n b (L.map ps.idxOf)
  | 0, _, _, _, _, h => by obtain rfl := h; rfl
  | _ + 1, a, b, [], hk, h => by
    show Region.ready .any _ b = []
    refine List.eq_nil_iff_forall_not_mem.2 fun j hj => ?_
    have hjl : j < l.length := by
      have h' := hj
      unfold Region.ready at h'
      simp only [List.mem_filter, List.mem_range, List.size_toArray, permL_len, perm_len hp] at h'
      exact h'.1
    obtain ⟨i, hi, rfl, _⟩ := perm_at hp hjl
    have := (ready_perm hp hk hi).1 hj
    rw [show Region.ready .any l.toArray a = [] from h] at this; cases this
  | n + 1, a, b, i :: L, hk, h => by
    have hi : i < l.length := by
      have h' := h.1
      unfold Region.ready at h'
      simp only [List.mem_filter, List.mem_range, List.size_toArray] at h'
      exact h'.1
    refine ⟨(ready_perm hp hk hi).2 h.1, valO_perm ⟨by simp [hk.1], by simp [hk.2.1], fun j hj => ?_⟩ h.2⟩
    rw [Array.getElem?_setIfInBounds, Array.getElem?_setIfInBounds]
    by_cases hij : i = j
    · subst hij
      rw [if_pos rfl, if_pos rfl, if_pos (by rw [hk.2.1]; exact (perm_pos hp hi).1), if_pos (by rw [hk.1]; exact hi)]
    · rw [if_neg hij, if_neg (fun e => hij ?_), hk.2.2 j hj]
      have h1 := (perm_pos hp hi).2
      have e : ps.idxOf i = ps.idxOf j := e
      rw [e, (perm_pos hp hj).2] at h1
      exact (Option.some.inj h1).symm
theorem ops_perm {F : Fence} {n : Nat} {Q : Exit → Act → World → Prop} : ∀ (L : List Nat) (a : Act) (w : World), (∀ i ∈ L, i < l.length) → wpOpsIn F n P (permL ps l ps).toArray Q (L.map ps.idxOf) a w → wpOpsIn F n P l.toArray Q L a w
  | [], a, w, _, h => h
  | i :: L, a, w, hL, h => by
    have hi := hL i List.mem_cons_self
    have hy : ∀ (tmps : Array Value) (j : Nat), yielded (permL ps l ps).toArray tmps (ps.idxOf j) = yielded l.toArray tmps j := fun tmps j => by
      unfold yielded
      simp only [List.getElem?_toArray]
      have : ((permL ps l ps)[ps.idxOf j]?).bind (·.dst) = (l[j]?).bind (·.dst) := by
        rcases Nat.lt_or_ge j l.length with hj | hj
        · rw [perm_op hp hj]; cases l[j]? <;> rfl
        · have : ps.idxOf j = ps.length := List.idxOf_eq_length fun hin => perm_out hp (by omega) hin
          have ea : l[j]? = none := List.getElem?_eq_none (by omega)
          have eb : (permL ps l ps)[ps.idxOf j]? = none := List.getElem?_eq_none (by rw [this, permL_len]; omega)
          rw [ea, eb]
      rw [this]
    have ih := ops_perm (F := F) (n := n) (Q := Q) L
    have hL' : ∀ i ∈ L, i < l.length := fun j hj => hL j (List.mem_cons_of_mem _ hj)
    rw [List.map_cons] at h
    unfold wpOpsIn at h ⊢
    simp only [List.getElem?_toArray, perm_op hp hi] at h ⊢
    rw [List.getElem?_eq_getElem hi] at h ⊢
    obtain ⟨o, ho⟩ : ∃ o, o = l[i] := ⟨_, rfl⟩
    rw [← ho] at h ⊢
    have hw : Region.wanted (renO ps o) (yielded (permL ps l ps).toArray a.tmps) = Region.wanted o (yielded l.toArray a.tmps) := by
      unfold Region.wanted
      simp only [renO]
      cases hg : o.guard with
      | none => rfl
      | some g => obtain ⟨j, b⟩ := g; simp only [Option.map_some]; rw [hy]
    have h : if Region.wanted (renO ps o) (yielded (permL ps l ps).toArray a.tmps) = true then o.wpIn F n P a w (wpOpsIn F n P (permL ps l ps).toArray Q (L.map ps.idxOf)) Q else (∀ f, o.about P w a.eval = some f → F.fn f) ∧ wpOpsIn F n P (permL ps l ps).toArray Q (L.map ps.idxOf) (a.put o.dst undef) w := h
    rw [hw] at h
    simp only
    split
    · rename_i hq
      rw [if_pos hq] at h
      exact Oper.wpIn_mono (fun a w h => ih a w hL' h) h
    · rename_i hq
      rw [if_neg hq] at h
      exact ⟨h.1, ih _ _ hL' h.2⟩
end
theorem valO_in {l : List Oper} : ∀ {n : Nat} {a : Array Bool} {L : List Nat}, ValO l.toArray n a L → ∀ i ∈ L, i < l.length
  | 0, _, _, h => by obtain rfl := h; exact fun i h => by cases h
  | _ + 1, _, [], _ => fun i h => by cases h
  | n + 1, a, j :: L, h => fun i hi => by
    rcases List.mem_cons.1 hi with rfl | hi
    · have h' := h.1
      unfold Region.ready at h'
      simp only [List.mem_filter, List.mem_range, List.size_toArray] at h'
      exact h'.1
    · exact valO_in h.2 i hi
theorem awo_perm {l : List Oper} (ps : List Nat) (hp : isPerm l.length ps = true) (h : AWO P D (permL ps l ps) Q fr σ) : AWO P D l Q fr σ := by
  intro _ G a w hs L hL
  refine ops_perm hp L _ _ (valO_in hL) (h _ G a w hs _ ?_)
  rw [permL_len, perm_len hp]
  exact valO_perm hp ⟨by simp, by simp, fun i hi => by simp [(perm_pos hp hi).1, hi]⟩ hL
end Go.AL
/-! What append hands back, closed at once. -/
namespace Go.AL
set_option linter.unusedVariables false
set_option linter.unusedSimpArgs false
variable {P : Program} {σ : ASt} {R : AV → ASt → Prop} {D : List Deferred} {Q : Exit → List AV → ASt → Prop} {fr : List AV} {ops : Array Oper} {o : Oper} {rest : List Oper}
theorem Outc.fin {G w v w'} (h : Outc G w (fun r τ => Fin R r τ) v w') : Outc G w R v w' := by
  obtain ⟨r, G1, σ1, h1, h2, h3, h4⟩ := h
  obtain ⟨r2, G2, σ2, k1, k2, k3, k4⟩ := h4 G1 w' v h2 h3
  exact ⟨r2, G2, σ2, h1.trans k1, k2, k3, k4⟩
theorem OpQ.fin {ρ : Operand → AV} (h : OpQ P o ρ σ fun r τ => Fin R r τ) : OpQ P o ρ σ R := fun G e w h1 h2 => by
  have h := h G e w h1 h2
  generalize (execOp e o).run P w = n at *
  cases n with
  | halt => exact h
  | ok n w' =>
    cases n with
    | value v => exact Outc.fin h
    | skip => exact Outc.fin h
    | enter f args => exact Calls.mono h fun e w'' he => retOf_mono (fun v w' h => Outc.fin h) he
    | round l f tmps assign body => exact RoundIn.mono h fun e w'' he => retOf_mono (fun v w' h => Outc.fin h) he
    | _ => exact h
/-- Memory, with an empty slice's number gone by. -/
def ASt.gone (σ : ASt) (b : Nat) (zs : List AV) : ASt := ((σ.dropSl b).addSl zs).dropSl σ.next
attribute [simp] ASt.gone
theorem opq_appendF {ρ : Operand → AV} {s x : Operand} {t el : TypeId} (ho : o.op = .call { callee := .builtin .append, args := #[s, x], argTypes := #[t, t] }) {b off k : Nat} {xs ys : List AV} {n by_ : Nat} {g : Bool} {z : AV}
    (hs : ρ s = .hsl b off k) (hb : σ.sl b = some xs) (hk : off + k ≤ xs.length) (hx : asrc σ (ρ x) = some ys) (hne : ys ≠ []) (ht : telem P t = some (n, g, by_)) (hel : telemT P t = some el) (hz : tzero P el = some z) (hzn : z.cells.length = n)
    (hxs : ∀ y ∈ xs, y.cells.length = n) (hys : ∀ y ∈ ys, y.cells.length = n ∧ y.okv = true) (hB : (k + ys.length) * by_ ≤ 140737488355328) (hS : k + ys.length ≤ 9223372036854775807)
    (hr : R (.vsl ((xs.drop off).take k ++ ys)) (σ.gone b ((xs.drop off).take k ++ ys))) : OpQ P o ρ σ R := by
  refine OpQ.fin (opq_append ho hs hb hk hx hne ht hel hz hzn hxs hys hB hS ?_)
  have hl : ((xs.drop off).take k ++ ys).length = k + ys.length := by simp; omega
  refine Fin.freeze (b := σ.next) (xs := (xs.drop off).take k ++ ys) (by simp) (Fin.of ?_)
  have e : frz σ.next ((xs.drop off).take k ++ ys) (.hsl σ.next 0 (k + ys.length)) = .vsl ((xs.drop off).take k ++ ys) := by
    simp only [frz, frz1, frz0, if_true, Nat.zero_add, hl, Nat.le_refl, List.drop_zero]
    rw [List.take_of_length_le (by omega)]
  rw [e]; exact hr
theorem zl_appendF {mu imp : List Nat} {l : List Oper} {K : List AV → ASt → Prop} {i : Nat} {old : List ASt} {pd : List Pend} {s x : Operand} {t el : TypeId} (hz : zst mu imp o = true) (ho : o.op = .call { callee := .builtin .append, args := #[s, x], argTypes := #[t, t] }) (hg : o.guard = none) {b off k : Nat} {xs ys : List AV} {n by_ : Nat} {g : Bool} {z : AV}
    (hs : aev fr s = .hsl b off k) (hb : σ.sl b = some xs) (hk : off + k ≤ xs.length) (hx : asrc σ (aev fr x) = some ys) (hne : ys ≠ []) (ht : telem P t = some (n, g, by_)) (hel : telemT P t = some el) (hz0 : tzero P el = some z) (hzn : z.cells.length = n)
    (hxs : ∀ y ∈ xs, y.cells.length = n) (hys : ∀ y ∈ ys, y.cells.length = n ∧ y.okv = true) (hB : (k + ys.length) * by_ ≤ 140737488355328) (hS : k + ys.length ≤ 9223372036854775807)
    (hk2 : pendOk P mu imp l (old.length + 1) (σ.gone b ((xs.drop off).take k ++ ys)) pd ∧ Shut (ZRun P mu imp l K (i + 1) rest (aput fr o.dst (.vsl ((xs.drop off).take k ++ ys))) (σ.gone b ((xs.drop off).take k ++ ys)) (σ :: old) pd)) : ZS P mu imp l K i (o :: rest) fr σ old pd := by
  intro hok
  unfold ZL; rw [if_pos hz]
  refine ⟨_, _, yldT_opq hg fun ρ hρ => ?_, pendOk_yld hok hk2.1, zl_run hk2.2.out hok⟩
  have h1 : ρ s = aev fr s := hρ s (by rw [ho]; simp [Op.operands, Call.operands])
  have h2 : ρ x = aev fr x := hρ x (by rw [ho]; simp [Op.operands, Call.operands])
  exact opq_appendF ho (by rw [h1]; exact hs) hb hk (by rw [h2]; exact hx) hne ht hel hz0 hzn hxs hys hB hS ⟨rfl, rfl⟩
end Go.AL
/-! gridironlaw07.alive. -/
namespace Go.AL
open Go.Proofs
set_option linter.unusedSimpArgs false
set_option linter.unusedVariables false
/-- The text of the live question. -/
def eText : ByteArray := ⟨#[73, 70, 40, 67, 79, 85, 78, 84, 40, 65, 49, 58, 67, 49, 41, 61, 50, 44, 83, 85, 77, 40, 65, 49, 58, 67, 49, 44, 45, 49, 41, 42, 77, 65, 88, 40, 66, 50, 44, 65, 50, 58, 65, 57, 41, 44, 49, 47, 48, 41]⟩
def eKids : List Tree := [.mk 4 0 0 0 0 0 ⟨#[61]⟩ [.mk 5 0 0 0 0 0 ⟨#[67, 79, 85, 78, 84]⟩ [.mk 6 0 0 0 2 0 ⟨#[]⟩ []], .mk 0 2 0 0 0 0 ⟨#[]⟩ []], .mk 4 0 0 0 0 0 ⟨#[42]⟩ [.mk 5 0 0 0 0 0 ⟨#[83, 85, 77]⟩ [.mk 6 0 0 0 2 0 ⟨#[]⟩ [], .mk 3 0 0 0 0 0 ⟨#[]⟩ [.mk 0 1 0 0 0 0 ⟨#[]⟩ []]], .mk 5 0 0 0 0 0 ⟨#[77, 65, 88]⟩ [.mk 1 0 1 1 1 1 ⟨#[]⟩ [], .mk 6 0 0 1 0 8 ⟨#[]⟩ []]], .mk 4 0 0 0 0 0 ⟨#[47]⟩ [.mk 0 1 0 0 0 0 ⟨#[]⟩ [], .mk 0 0 0 0 0 0 ⟨#[]⟩ []]]
def eTree : Tree := .mk 5 0 0 0 0 0 ⟨#[73, 70]⟩ eKids
set_option maxRecDepth 1000000 in
theorem eparse : parse5 eText = (eTree, 0, 0) := by kernel_rfl
set_option maxRecDepth 1000000 in
theorem eright : rightB eTree = true := by kernel_rfl
theorem ein8 : eTree.In := by
  simp only [eTree, eKids, Tree.In, ins, In64]
  repeat' apply And.intro
  all_goals decide
theorem esh : eTree.sh := by simp [eTree, eKids, Tree.sh, shs]
set_option maxRecDepth 1000000 in
theorem eway1 : evT (atE [(0, 0, 5, 0), (2, 0, 7, 0), (0, 3, 3, 0)]) eTree = (33, 0) := by decide +kernel
set_option maxRecDepth 1000000 in
theorem eway2 : evT (atE [(2, 0, 7, 0), (0, 3, 3, 0)]) eTree = (0, 2) := by decide +kernel
set_option maxRecDepth 1000000 in
theorem eway3 : evT (atE [(0, 0, 0, 4), (0, 0, 5, 0), (2, 0, 7, 0), (0, 3, 3, 0)]) eTree = (0, 4) := by decide +kernel
set_option maxHeartbeats 8000000 in
set_option maxRecDepth 100000 in
theorem alive7_ok : APure Try.prog 13 [] (vb true) := by
  have hP := rparse5_ok eText (by decide)
  rw [eparse] at hP
  have h1 := eOfD eTree [(0, 0, 5, 0), (2, 0, 7, 0), (0, 3, 3, 0)] (by decide) (by simp [In64]) ein8 esh (by decide)
  rw [if_pos eright, eway1] at h1
  have h2 := eOfD eTree [(2, 0, 7, 0), (0, 3, 3, 0)] (by decide) (by simp [In64]) ein8 esh (by decide)
  rw [if_pos eright, eway2] at h2
  have h3 := eOfD eTree [(0, 0, 0, 4), (0, 0, 5, 0), (2, 0, 7, 0), (0, 3, 3, 0)] (by decide) (by simp [In64]) ein8 esh (by decide)
  rw [if_pos eright, eway3] at h3
  simp only [cels, List.map_cons, List.map_nil, cel, vl] at h1 h2 h3
  rw [eTree] at hP h1 h2 h3
  obtain ⟨mk, hmk⟩ : ∃ mk, mk = eKids := ⟨_, rfl⟩
  rw [← hmk] at hP h1 h2 h3
  rw [Tree.av] at hP h1 h2 h3
  simp only [eText] at hP
  refine apure_in Try.func13 Try.ntmps13 rfl ?_
  repeat' first | refine aw_N [1, 5, 6, 7, 34] trivial (And.intro @hP (And.intro @h1 (And.intro @h2 (And.intro @h3 trivial)))) ?_ | refine aw_cond rfl (fun h => ?_) (fun h => ?_)
  refine aw_zrun [1, 5, 6, 7, 34] [] draws (by decide +kernel) (by decide +kernel) ?_
  simp -implicitDefEqProofs
  repeat first | refine zcurL (by decide +kernel) ?_ | refine zcurH (by decide +kernel) ?_ | refine zcurL' (by decide +kernel) ?_ | refine zcurH' (by decide +kernel) ?_
  refine zl_pure (by simp) rfl rfl rfl (by kernel_rfl) rfl h2 (by simp) (by simp) ?_
  simp -implicitDefEqProofs
  repeat first | refine zcurL (by decide +kernel) ?_ | refine zcurH (by decide +kernel) ?_ | refine zcurL' (by decide +kernel) ?_ | refine zcurH' (by decide +kernel) ?_
  repeat' first | refine aw_N [1, 5, 6, 7, 34] trivial (And.intro @hP (And.intro @h1 (And.intro @h2 (And.intro @h3 trivial)))) ?_ | refine aw_cond rfl (fun h => ?_) (fun h => ?_)
  refine aw_of_awo draws (awo_split 8 4 (by decide) (by decide) (by decide) ?_ (awo_split 8 6 (by decide) (by decide) (by decide) ?_ ?_))
  case refine_1 =>
    simp only [aft, List.modify_succ_cons, List.modify_zero_cons, aftE, List.push_toArray, List.cons_append, List.nil_append]
    refine awo_perm [0, 1, 2, 3, 8, 4, 5, 6, 7, 9] (by decide +kernel) ?_
    simp only [permL, renO, List.getD_cons_zero, List.getD_cons_succ, Option.map_none, Option.map_some]
    refine awo_zrun [1, 5, 6, 7, 34] [] (by decide +kernel) ?_
    simp -implicitDefEqProofs
    repeat first | refine zcurL (by decide +kernel) ?_ | refine zcurH (by decide +kernel) ?_ | refine zcurL' (by decide +kernel) ?_ | refine zcurH' (by decide +kernel) ?_
    refine zl_appendF (by simp) rfl rfl rfl (xs := [.agg [vi 0, vi 0, vi 0, vi 4]]) (by simp) (by simp) rfl (by simp) te33 tet33 tz49 rfl (by simp) (by simp) (by simp) (by simp) ?_
    simp -implicitDefEqProofs
    repeat first | refine zcurL (by decide +kernel) ?_ | refine zcurH (by decide +kernel) ?_ | refine zcurL' (by decide +kernel) ?_ | refine zcurH' (by decide +kernel) ?_
    refine zl_pure (by simp) rfl rfl rfl (by kernel_rfl) rfl h3 (by simp) (by simp) ?_
    simp -implicitDefEqProofs
    repeat first | refine zcurL (by decide +kernel) ?_ | refine zcurH (by decide +kernel) ?_ | refine zcurL' (by decide +kernel) ?_ | refine zcurH' (by decide +kernel) ?_
    repeat' first | refine aw_N [1, 5, 6, 7, 34] trivial (And.intro @hP (And.intro @h1 (And.intro @h2 (And.intro @h3 trivial)))) ?_ | refine aw_cond rfl (fun h => ?_) (fun h => ?_)
    all_goals first | (simp [tupOf]; done) | trace_state
  case refine_2 =>
    simp only [aft, List.modify_succ_cons, List.modify_zero_cons, aftE, List.push_toArray, List.cons_append, List.nil_append]
    refine awo_perm [0, 1, 2, 3, 4, 8, 5, 6, 7, 9] (by decide +kernel) ?_
    simp only [permL, renO, List.getD_cons_zero, List.getD_cons_succ, Option.map_none, Option.map_some]
    refine awo_zrun [1, 5, 6, 7, 34] [] (by decide +kernel) ?_
    simp -implicitDefEqProofs
    repeat first | refine zcurL (by decide +kernel) ?_ | refine zcurH (by decide +kernel) ?_ | refine zcurL' (by decide +kernel) ?_ | refine zcurH' (by decide +kernel) ?_
    refine zl_appendF (by simp) rfl rfl rfl (xs := [.agg [vi 0, vi 0, vi 0, vi 4]]) (by simp) (by simp) rfl (by simp) te33 tet33 tz49 rfl (by simp) (by simp) (by simp) (by simp) ?_
    simp -implicitDefEqProofs
    repeat first | refine zcurL (by decide +kernel) ?_ | refine zcurH (by decide +kernel) ?_ | refine zcurL' (by decide +kernel) ?_ | refine zcurH' (by decide +kernel) ?_
    refine zl_pure (by simp) rfl rfl rfl (by kernel_rfl) rfl h3 (by simp) (by simp) ?_
    simp -implicitDefEqProofs
    repeat first | refine zcurL (by decide +kernel) ?_ | refine zcurH (by decide +kernel) ?_ | refine zcurL' (by decide +kernel) ?_ | refine zcurH' (by decide +kernel) ?_
    repeat' first | refine aw_N [1, 5, 6, 7, 34] trivial (And.intro @hP (And.intro @h1 (And.intro @h2 (And.intro @h3 trivial)))) ?_ | refine aw_cond rfl (fun h => ?_) (fun h => ?_)
    all_goals first | (simp [tupOf]; done) | trace_state
  case refine_3 =>
    simp only [aft, List.modify_succ_cons, List.modify_zero_cons, aftE, List.push_toArray, List.cons_append, List.nil_append]
    refine awo_perm [0, 1, 2, 3, 4, 5, 6, 8, 7, 9] (by decide +kernel) ?_
    simp only [permL, renO, List.getD_cons_zero, List.getD_cons_succ, Option.map_none, Option.map_some]
    refine awo_zrun [1, 5, 6, 7, 34] [] (by decide +kernel) ?_
    simp -implicitDefEqProofs
    repeat first | refine zcurL (by decide +kernel) ?_ | refine zcurH (by decide +kernel) ?_ | refine zcurL' (by decide +kernel) ?_ | refine zcurH' (by decide +kernel) ?_
    refine zl_appendF (by simp) rfl rfl rfl (xs := [.agg [vi 0, vi 0, vi 0, vi 4]]) (by simp) (by simp) rfl (by simp) te33 tet33 tz49 rfl (by simp) (by simp) (by simp) (by simp) ?_
    simp -implicitDefEqProofs
    repeat first | refine zcurL (by decide +kernel) ?_ | refine zcurH (by decide +kernel) ?_ | refine zcurL' (by decide +kernel) ?_ | refine zcurH' (by decide +kernel) ?_
    refine zl_pure (by simp) rfl rfl rfl (by kernel_rfl) rfl h3 (by simp) (by simp) ?_
    simp -implicitDefEqProofs
    repeat first | refine zcurL (by decide +kernel) ?_ | refine zcurH (by decide +kernel) ?_ | refine zcurL' (by decide +kernel) ?_ | refine zcurH' (by decide +kernel) ?_
    repeat' first | refine aw_N [1, 5, 6, 7, 34] trivial (And.intro @hP (And.intro @h1 (And.intro @h2 (And.intro @h3 trivial)))) ?_ | refine aw_cond rfl (fun h => ?_) (fun h => ?_)
    all_goals first | (simp [tupOf]; done) | trace_state
end Go.AL
/-! Contracts: gridironlaw06.alive. -/
namespace Go.AL
open Go.Proofs
set_option linter.unusedSimpArgs false
set_option linter.unusedVariables false
end Go.AL
/-! Contracts: gridironref02.Same. -/
namespace Go.AL
open Go.Proofs
set_option linter.unusedSimpArgs false
set_option linter.unusedVariables false
end Go.AL
/-! gridironlaw06.ShapeTells. -/
namespace Go.AL
open Go.Proofs
set_option linter.unusedSimpArgs false
set_option linter.unusedVariables false
end Go.AL
/-! gridironlaw07.EvalTells. -/
namespace Go.AL
open Go.Proofs
set_option linter.unusedSimpArgs false
set_option linter.unusedVariables false
end Go.AL
/-! gridironlaw07.EvalReads. -/
namespace Go.AL
open Go.Proofs
set_option linter.unusedSimpArgs false
set_option linter.unusedVariables false
def hasL (R : List (Int × Int)) (x y : Int) : Bool := R.any fun p => decide (p.1 = x) && decide (p.2 = y)
theorem hasL_mem {R : List (Int × Int)} {x y : Int} : hasL R x y = true ↔ (x, y) ∈ R := by
  unfold hasL
  rw [List.any_eq_true]
  constructor
  · rintro ⟨⟨a, b⟩, h, e⟩
    simp only [Bool.and_eq_true, decide_eq_true_eq] at e
    obtain ⟨rfl, rfl⟩ := e; exact h
  · exact fun h => ⟨_, h, by simp⟩
set_option maxHeartbeats 8000000 in
set_option maxRecDepth 100000 in
theorem has7_ok (R : List (Int × Int)) (hR : R.length ≤ 1000000) (x y : Int) : APure Try.prog 16 [.vsl (R.map pl), place x y] (vb (hasL R x y)) := by
  have hl : (R.map pl).length = R.length := List.length_map _
  refine apure_in Try.func16 Try.ntmps16 rfl ?_
  repeat' first | refine aw_W [] @hl trivial ?_ | refine aw_cond rfl (fun h => ?_) (fun h => ?_)
  refine aw_loopW [0, 3, 5] (fun q fr σ => ∃ i N : Nat, i + q = R.length ∧ hasL R x y = hasL (R.drop i) x y ∧ σ = mkSt [] [] N ∧ fr = frm 18 [(0, .vsl (R.map pl)), (3, .vel [place x y] 0 0), (5, vi (i : Nat))]) R.length ?_ ?_
  · exact ⟨_, le_mkSt (bs := []) (ss := []) (n := 0) (by simp) (by simp) (by simp [σ0]), 0, 0, by omega, rfl, rfl, by simp⟩
  · rintro q fr σ ⟨i, N, hi, hat, rfl, rfl⟩
    simp -implicitDefEqProofs
    by_cases hlt : i < R.length
    · have hlti : (i : Int) < R.length := by omega
      obtain ⟨⟨a, b⟩, hw⟩ : ∃ w, R[i]? = some w := ⟨_, List.getElem?_eq_getElem hlt⟩
      have hg : (R.map pl)[i]? = some (.agg [vi a, vi b]) := by rw [List.getElem?_map, hw]; rfl
      have wi : IntKind.i64.wrap ((i : Int) + 1) = (i : Int) + 1 := wrap_id (by omega) (by omega)
      have hcons : R.drop i = (a, b) :: R.drop (i + 1) := by
        rw [List.drop_eq_getElem_cons hlt]
        congr 1
        rw [List.getElem?_eq_getElem hlt] at hw
        exact Option.some.inj hw
      rw [hcons] at hat
      have e : hasL ((a, b) :: R.drop (i + 1)) x y = ((decide (a = x) && decide (b = y)) || hasL (R.drop (i + 1)) x y) := rfl
      rw [e] at hat
      repeat' first | refine aw_W [] (And.intro @hlti (And.intro @hl (And.intro @hw (And.intro @hg @wi)))) trivial ?_ | refine aw_cond rfl (fun h => ?_) (fun h => ?_)
      · have h1 : (decide (a = x) && decide (b = y)) = true := by simpa using h
        rw [hat, h1]; simp [tupOf]
      · have h1 : (decide (a = x) && decide (b = y)) = false := by simpa using h
        rw [h1, Bool.false_or] at hat
        exact ⟨q - 1, by omega, _, le_mkSt (bs := []) (ss := []) (n := N) (by simp) (by simp) (by simp), i + 1, by omega, hat, ⟨N, rfl⟩, by simp⟩
    · have hlti : ¬ (i : Int) < R.length := by omega
      rw [List.drop_eq_nil_of_le (by omega)] at hat
      rw [hat]
      repeat' first | refine aw_W [] (And.intro @hlti @hl) trivial ?_ | refine aw_cond rfl (fun h => ?_) (fun h => ?_)
      all_goals first | (simp [tupOf, hasL]; done) | trace_state
def atP (R : List (Int × Int)) (p : Cel) : Bool := hasL R p.1 p.2.1
theorem filter_take {p : Cel → Bool} {l : List Cel} {i : Nat} {c : Cel} (h : l[i]? = some c) : (l.take (i + 1)).filter p = (l.take i).filter p ++ (if p c = true then [c] else []) := by
  rw [List.take_add_one, h, List.filter_append]
  by_cases hc : p c = true <;> simp [hc]
theorem fil_len (p : Cel → Bool) (l : List Cel) (i : Nat) : ((l.take i).filter p).length ≤ l.length :=
  Nat.le_trans (List.length_filter_le _ _) (by rw [List.length_take]; omega)
def fauC (c : Cel) : Bool := !decide (c.2.2.2 = 0)
def fauL (l : List Cel) : Bool := l.any fauC
theorem fau_snoc (b : Bool) (l : List Cel) (c : Cel) : (b || fauL (l ++ [c])) = ((b || fauL l) || fauC c) := by simp [fauL, Bool.or_assoc]
theorem fau_nil : fauL [] = false := rfl
/-! ### what is read alone -/
def onlyC (R : List (Int × Int)) (l o : List Cel) : List Cel := l.filter (atP R) ++ o.filter fun c => !atP R c
theorem at_filter (R : List (Int × Int)) (x y : Int) (h : hasL R x y = true) (m : List Cel) : ∀ l, atE (l.filter (atP R) ++ m) x y = if (atE l x y).isSome = true then atE l x y else atE m x y
  | [] => by simp [atE]
  | (a, b, n, f) :: l => by
    have ih := at_filter R x y h m l
    by_cases hp : atP R (a, b, n, f) = true
    · rw [List.filter_cons_of_pos hp, List.cons_append, atE, atE]
      by_cases e : a = x ∧ b = y
      · rw [if_pos e, if_pos e]; rfl
      · rw [if_neg e, if_neg e]; exact ih
    · rw [List.filter_cons_of_neg (by simpa using hp), atE]
      have e : ¬ (a = x ∧ b = y) := fun e => hp (by unfold atP; simp only; rw [e.1, e.2]; exact h)
      rw [if_neg e]; exact ih
theorem at_others (R : List (Int × Int)) (x y : Int) (h : hasL R x y = true) : ∀ l : List Cel, atE (l.filter fun c => !atP R c) x y = none
  | [] => rfl
  | (a, b, n, f) :: l => by
    have ih := at_others R x y h l
    by_cases hp : (!atP R (a, b, n, f)) = true
    · rw [List.filter_cons_of_pos (p := fun c => !atP R c) hp, atE]
      have e : ¬ (a = x ∧ b = y) := fun e => by
        have h' := hp
        unfold atP at h'
        simp only at h'
        rw [e.1, e.2, h] at h'; cases h'
      rw [if_neg e]; exact ih
    · rw [List.filter_cons_of_neg (p := fun c => !atP R c) hp]; exact ih
theorem at_only (R : List (Int × Int)) (x y : Int) (h : hasL R x y = true) (l o : List Cel) : atE (onlyC R l o) x y = atE l x y := by
  unfold onlyC
  rw [at_filter R x y h, at_others R x y h]
  cases atE l x y <;> rfl
theorem at_cln (l : List Cel) : ∀ x y v, atE l x y = some v → Cln v := by
  induction l with
  | nil => intro x y v h; cases h
  | cons p l ih =>
    obtain ⟨a, b, n, f⟩ := p
    intro x y v h
    rw [atE] at h
    split at h
    · obtain rfl := Option.some.inj h
      unfold cleanV
      split
      · exact cln_z _ rfl
      · exact fun _ => rfl
    · exact ih x y v h
theorem at_fine {R : List (Int × Int)} {l : List Cel} (h : fauL (l.filter (atP R)) = false) {x y : Int} (hxy : hasL R x y = true) : ∀ v, atE l x y = some v → v.2 = 0 := by
  induction l with
  | nil => intro v h; cases h
  | cons p l ih =>
    obtain ⟨a, b, n, f⟩ := p
    intro v hv
    rw [atE] at hv
    split at hv
    · rename_i e
      obtain rfl := Option.some.inj hv
      have hp : atP R (a, b, n, f) = true := by unfold atP; simp only; rw [e.1, e.2]; exact hxy
      rw [List.filter_cons_of_pos hp, fauL, List.any_cons, Bool.or_eq_false_iff] at h
      have hf : f = 0 := by simpa [fauC] using h.1
      unfold cleanV
      rw [if_pos hf]
    · refine ih ?_ v hv
      unfold fauL at h ⊢
      rw [List.any_eq_false] at h ⊢
      exact fun q hq => h q (by
        rw [List.mem_filter] at hq ⊢
        exact ⟨List.mem_cons_of_mem _ hq.1, hq.2⟩)
set_option maxHeartbeats 32000000 in
set_option maxRecDepth 100000 in
theorem evalReads_ok (t : Tree) (l o : List Cel) (hin : t.In) (hll : (l.length : Int) ≤ 9223372036854775807) (hcl : ∀ p ∈ l, In64 p.2.2.1) (hol : (o.length : Int) ≤ 9223372036854775807) (hco : ∀ p ∈ o, In64 p.2.2.1) : APure Try.prog 4 [t.av, .vsl (cels l), .vsl (cels o)] (vb true) := by
  have hA := alive7_ok
  have hsh := in_sh7 t hin
  have hF := fits5_ok t hsh
  have hvl := cels_len l
  have hvo := cels_len o
  by_cases hf : fitsB t = true
  · rw [hf] at hF
    have hz := fits_size hf
    have hR := rright5_ok t hsh (by have := deep_le_size t; omega)
    by_cases hr : rightB t = true
    · rw [hr] at hR
      have hm := rightB_may hr
      by_cases h300 : l.length ≤ 300
      · have hb : ¬ (300 : Int) < l.length := by omega
        by_cases h300o : o.length ≤ 300
        · have hbo : ¬ (300 : Int) < o.length := by omega
          have hRd := rReads_ok t hsh (by omega)
          rw [if_pos hr] at hRd
          have hmR := fun x y => mem_reads hm x y
          have hRlen := gridP_len (usesN t) 1024
          have hBd := rBads_ok t hsh (by omega)
          rw [if_pos hr] at hBd
          generalize gridP (usesN t) 1024 = R at *
          have hhas := fun x y => has7_ok R (by omega) x y
          have hfl := fun i => fil_len (atP R) l i
          have hfo := fun i => fil_len (fun c => !atP R c) o i
          have hOn : (onlyC R l o).length ≤ 600 := by
            unfold onlyC
            rw [List.length_append]
            have := List.length_filter_le (atP R) l
            have := List.length_filter_le (fun c => !atP R c) o
            omega
          have hcOn : ∀ p ∈ onlyC R l o, In64 p.2.2.1 := fun p hp => by
            unfold onlyC at hp
            rcases List.mem_append.1 hp with h | h
            · exact hcl p (List.mem_filter.1 h).1
            · exact hco p (List.mem_filter.1 h).1
          have hM := eOfD t l (by omega) hcl hin hsh hz
          have hO := eOfD t (onlyC R l o) (by omega) hcOn hin hsh hz
          rw [if_pos hr] at hM hO
          have hsame : evT (atE (onlyC R l o)) t = evT (atE l) t := ev_cong t hm fun x y h => at_only R x y (hasL_mem.2 ((hmR x y).2 h)) l o
          rw [hsame] at hO
          have hcn := ev_cln (at_cln l) t
          have h6 : t.kind ≠ 6 := by
            unfold rightB at hr
            rw [Bool.and_eq_true, Bool.and_eq_true] at hr
            intro e
            have h := hr.1.2
            rw [e] at h
            exact absurd h (by decide)
          have hfv : (decide (0 < ((cntT 2 t : Nat) : Int)) || fauL (l.filter (atP R))) = false → Fv (evT (atE l) t).2 := fun h => by
            rw [Bool.or_eq_false_iff, decide_eq_false_iff_not] at h
            exact ev_fv t hm h6 (by omega) fun x y v hu hv => at_fine h.2 (hasL_mem.2 ((hmR x y).2 hu)) v hv
          generalize evT (atE l) t = V at *
          obtain ⟨vn, vf'⟩ := V
          simp only [vl] at hM hO
          generalize ((cntT 2 t : Nat) : Int) = bd at *
          clear hmR hsame
          obtain ⟨k, n, a, b, c, d, w, ks⟩ := t
          rw [Tree.av] at hF hR hRd hBd hM hO ⊢
          clear hf hz hin hsh hm hr h6 hcl hco hcOn
          have hRl : (R.map pl).length = R.length := List.length_map _
          refine apure_in Try.func4 Try.ntmps4 rfl ?_
          repeat' first | refine aw_W [16] (And.intro @hvl (And.intro @hvo (And.intro @hb @hbo))) (And.intro @hF (And.intro @hR (And.intro @hRd (And.intro @hBd trivial)))) ?_ | refine aw_cond rfl (fun h => ?_) (fun h => ?_)
          refine aw_open (i := 10) rfl ?_
          refine aw_loopW [1, 2, 3, 9, 10, 11, 12] (fun q fr σ => ∃ k' m i : Nat, i + q = l.length ∧ k' < m ∧ σ = mkSt [] [(k', cels ((l.take i).filter (atP R)))] m ∧ fr = frm 132 [(1, .vsl (cels l)), (2, .vsl (cels o)), (3, .vel [.agg [vi k, vi n, vi a, vi b, vi c, vi d, vs w, .vsl (avs ks)]] 0 0), (9, .vsl (R.map pl)), (10, .hsl k' 0 ((l.take i).filter (atP R)).length), (11, vb (decide (0 < bd) || fauL ((l.take i).filter (atP R)))), (12, vi (i : Nat))]) l.length ?_ ?_
          · refine ⟨_, le_mkSt (bs := []) (ss := [(0, [])]) (n := 1) (by simp) (by simp) (by decide), 0, 1, 0, by omega, by decide, by simp [cels], ?_⟩
            simp [σ0, fau_nil]
          · rintro q fr σ ⟨k', m, i, hi, hkm, rfl, rfl⟩
            simp -implicitDefEqProofs
            by_cases hlt : i < l.length
            · have hlti : (i : Int) < l.length := by omega
              obtain ⟨⟨x, y, nn, ff⟩, hp⟩ : ∃ p, l[i]? = some p := ⟨_, List.getElem?_eq_getElem hlt⟩
              have hg := cels_get hp
              have hla : i < (cels l).length := by omega
              have wi : IntKind.i64.wrap ((i : Int) + 1) = (i : Int) + 1 := wrap_id (by omega) (by omega)
              have hnx := filter_take (p := atP R) hp
              have hPlen := hfl i
              have hh := hhas x y
              have hpc : atP R (x, y, nn, ff) = hasL R x y := rfl
              rw [hpc] at hnx
              generalize (l.take i).filter (atP R) = P at *
              generalize hasL R x y = hb2 at *
              have hPl := cels_len P
              have hPc := cels_okv P
              cases hb2 with
              | true =>
                repeat' first | refine aw_W [16] (And.intro @hlti (And.intro @hvl (And.intro @hla (And.intro @hg @wi)))) (And.intro @hh trivial) ?_ | refine aw_cond rfl (fun h => ?_) (fun h => ?_)
                refine awl_append [16] rfl rfl rfl (xs := cels P) (by simp) (by simp [hPl]) rfl (by simp) te33 tet33 tz49 rfl hPc (by simp) (by simp; omega) (by simp; omega) ?_
                simp -implicitDefEqProofs
                repeat' first | refine aw_W [16] (And.intro @hlti (And.intro @hvl (And.intro @hla (And.intro @hg @wi)))) trivial ?_ | refine aw_cond rfl (fun h => ?_) (fun h => ?_)
                refine ⟨q - 1, by omega, _, le_mkSt (bs := []) (ss := [(m, (cels P).take P.length ++ [cel (x, y, nn, ff)])]) (n := m + 1) (by simp) (by simp [cel]) (by simp), m, m + 1, i + 1, by omega, by omega, ?_, ?_⟩
                · rw [hnx, if_pos rfl, cels_snoc, List.take_of_length_le (by omega)]
                · rw [hnx, if_pos rfl, fau_snoc]
                  simp [fauC]
              | false =>
                repeat' first | refine aw_W [16] (And.intro @hlti (And.intro @hvl (And.intro @hla (And.intro @hg @wi)))) (And.intro @hh trivial) ?_ | refine aw_cond rfl (fun h => ?_) (fun h => ?_)
                refine ⟨q - 1, by omega, _, le_mkSt (bs := []) (ss := [(k', cels P)]) (n := m) (by simp) (by simp) (by simp), k', m, i + 1, by omega, hkm, ?_, ?_⟩
                · rw [hnx]; simp
                · rw [hnx]; simp
            · have hlti : ¬ (i : Int) < l.length := by omega
              rw [List.take_of_length_le (by omega)]
              have hPlen : (l.filter (atP R)).length ≤ 300 := Nat.le_trans (List.length_filter_le _ _) h300
              have hdef : onlyC R l o = l.filter (atP R) ++ o.filter fun c => !atP R c := rfl
              generalize l.filter (atP R) = P0 at *
              generalize (decide (0 < bd) || fauL P0) = fa at *
              repeat' first | refine aw_W [16] (And.intro @hlti (And.intro @hvl @hvo)) trivial ?_ | refine aw_cond rfl (fun h => ?_) (fun h => ?_)
              refine aw_loopW [1, 2, 3, 9, 10, 11, 14] (fun q fr σ => ∃ k' m i : Nat, i + q = o.length ∧ k' < m ∧ σ = mkSt [] [(k', cels (P0 ++ (o.take i).filter fun c => !atP R c))] m ∧ fr = frm 132 [(1, .vsl (cels l)), (2, .vsl (cels o)), (3, .vel [.agg [vi k, vi n, vi a, vi b, vi c, vi d, vs w, .vsl (avs ks)]] 0 0), (9, .vsl (R.map pl)), (10, .hsl k' 0 (P0 ++ (o.take i).filter fun c => !atP R c).length), (11, vb fa), (14, vi (i : Nat))]) o.length ?_ ?_
              · refine ⟨_, le_mkSt (bs := []) (ss := [(k', cels P0)]) (n := m) (by simp) (by simp) (by simp), k', m, 0, by omega, hkm, by simp, ?_⟩
                simp
              · rintro q fr σ ⟨k2, m2, j, hj, hkm2, rfl, rfl⟩
                simp -implicitDefEqProofs
                by_cases hlt2 : j < o.length
                · have hltj : (j : Int) < o.length := by omega
                  obtain ⟨⟨x, y, nn, ff⟩, hp⟩ : ∃ p, o[j]? = some p := ⟨_, List.getElem?_eq_getElem hlt2⟩
                  have hg := cels_get hp
                  have hla : j < (cels o).length := by omega
                  have wi : IntKind.i64.wrap ((j : Int) + 1) = (j : Int) + 1 := wrap_id (by omega) (by omega)
                  have hnx := filter_take (p := fun c => !atP R c) hp
                  have hPlen2 := hfo j
                  have hh := hhas x y
                  have hpc : (!atP R (x, y, nn, ff)) = !hasL R x y := rfl
                  simp only [hpc] at hnx
                  have hap : P0.length + ((o.take j).filter fun c => !atP R c).length = (P0 ++ (o.take j).filter fun c => !atP R c).length := by simp
                  have hnx2 : (P0 ++ (o.take (j + 1)).filter fun c => !atP R c) = (P0 ++ (o.take j).filter fun c => !atP R c) ++ (if (!hasL R x y) = true then [(x, y, nn, ff)] else []) := by rw [hnx, List.append_assoc]
                  simp only [hap]
                  have hP3 : (P0 ++ (o.take j).filter fun c => !atP R c).length ≤ 600 := by omega
                  generalize (P0 ++ (o.take j).filter fun c => !atP R c) = P at *
                  generalize hasL R x y = hb2 at *
                  have hPl := cels_len P
                  have hPc := cels_okv P
                  cases hb2 with
                  | false =>
                    repeat' first | refine aw_W [16] (And.intro @hltj (And.intro @hvo (And.intro @hla (And.intro @hg @wi)))) (And.intro @hh trivial) ?_ | refine aw_cond rfl (fun h => ?_) (fun h => ?_)
                    refine awl_append [16] rfl rfl rfl (xs := cels P) (by simp) (by simp [hPl]) rfl (by simp) te33 tet33 tz49 rfl hPc (by simp) (by simp; omega) (by simp; omega) ?_
                    simp -implicitDefEqProofs
                    repeat' first | refine aw_W [16] (And.intro @hltj (And.intro @hvo (And.intro @hla (And.intro @hg @wi)))) trivial ?_ | refine aw_cond rfl (fun h => ?_) (fun h => ?_)
                    refine ⟨q - 1, by omega, _, le_mkSt (bs := []) (ss := [(m2, (cels P).take P.length ++ [cel (x, y, nn, ff)])]) (n := m2 + 1) (by simp) (by simp [cel]) (by simp), m2, m2 + 1, j + 1, by omega, by omega, ?_, ?_⟩
                    · rw [hnx2, if_pos (by rfl), cels_snoc, List.take_of_length_le (by omega)]
                    · have hnl := congrArg List.length hnx2
                      simp at hnl
                      simp [hnl]
                  | true =>
                    repeat' first | refine aw_W [16] (And.intro @hltj (And.intro @hvo (And.intro @hla (And.intro @hg @wi)))) (And.intro @hh trivial) ?_ | refine aw_cond rfl (fun h => ?_) (fun h => ?_)
                    refine ⟨q - 1, by omega, _, le_mkSt (bs := []) (ss := [(k2, cels P)]) (n := m2) (by simp) (by simp) (by simp), k2, m2, j + 1, by omega, hkm2, ?_, ?_⟩
                    · rw [hnx2]; simp
                    · have hnl := congrArg List.length hnx2
                      simp at hnl
                      simp [hnl]
                · have hltj : ¬ (j : Int) < o.length := by omega
                  rw [List.take_of_length_le (by omega), ← hdef]
                  have hdl : P0.length + (o.filter fun c => !atP R c).length = (onlyC R l o).length := by rw [hdef, List.length_append]
                  generalize onlyC R l o = O at *
                  refine aw_freeze (b := k2) (xs := cels O) (by simp) ?_
                  have hOl := cels_len O
                  have hOt : (cels O).take O.length = cels O := List.take_of_length_le (by omega)
                  simp -implicitDefEqProofs [frz, frz1, frz0, hOt, hOl, hdl]
                  repeat' first | refine aw_W [16] (And.intro @hltj (And.intro @hvl (And.intro @hvo @hOt))) (And.intro @hA (And.intro @hM (And.intro @hO trivial))) ?_ | refine aw_cond rfl (fun h => ?_) (fun h => ?_)
                  · exfalso
                    unfold Cln at hcn
                    simp at h hcn
                    omega
                  · cases fa with
                    | true => simp [tupOf]
                    | false => rcases hfv rfl with e | e | e <;> (simp only at e; simp [tupOf, e])
        · have hb2 : (300 : Int) < o.length := by omega
          obtain ⟨k, n, a, b, c, d, w, ks⟩ := t
          rw [Tree.av] at hF hR ⊢
          refine apure_in Try.func4 Try.ntmps4 rfl ?_
          repeat' first | refine aw_W [16] (And.intro @hvl (And.intro @hvo (And.intro @hb @hb2))) (And.intro @hF (And.intro @hR (And.intro @hA trivial))) ?_ | refine aw_cond rfl (fun h => ?_) (fun h => ?_)
          all_goals first | (simp [tupOf]; done) | trace_state
      · have hb : (300 : Int) < l.length := by omega
        obtain ⟨k, n, a, b, c, d, w, ks⟩ := t
        rw [Tree.av] at hF hR ⊢
        refine apure_in Try.func4 Try.ntmps4 rfl ?_
        repeat' first | refine aw_W [16] (And.intro @hvl (And.intro @hvo @hb)) (And.intro @hF (And.intro @hR (And.intro @hA trivial))) ?_ | refine aw_cond rfl (fun h => ?_) (fun h => ?_)
        all_goals first | (simp [tupOf]; done) | trace_state
    · rw [eq_false_of_ne_true hr] at hR
      obtain ⟨k, n, a, b, c, d, w, ks⟩ := t
      rw [Tree.av] at hF hR ⊢
      refine apure_in Try.func4 Try.ntmps4 rfl ?_
      repeat' first | refine aw_W [16] (And.intro @hvl @hvo) (And.intro @hF (And.intro @hR (And.intro @hA trivial))) ?_ | refine aw_cond rfl (fun h => ?_) (fun h => ?_)
      all_goals first | (simp [tupOf]; done) | trace_state
  · rw [eq_false_of_ne_true hf] at hF
    obtain ⟨k, n, a, b, c, d, w, ks⟩ := t
    rw [Tree.av] at hF ⊢
    refine apure_in Try.func4 Try.ntmps4 rfl ?_
    repeat' first | refine aw_W [16] (And.intro @hvl @hvo) (And.intro @hF (And.intro @hA trivial)) ?_ | refine aw_cond rfl (fun h => ?_) (fun h => ?_)
    all_goals first | (simp [tupOf]; done) | trace_state
theorem EvalReads_all (x : AV) (l o : List Cel) (hx : HasT Try.prog 29 x) (hl : l.length ≤ 9223372036854775807) (hc : ∀ p ∈ l, (Lit.int .i64 p.1).wf = true ∧ (Lit.int .i64 p.2.1).wf = true ∧ (Lit.int .i64 p.2.2.1).wf = true ∧ (Lit.int .i64 p.2.2.2).wf = true)
    (hol : o.length ≤ 9223372036854775807) (hco : ∀ p ∈ o, (Lit.int .i64 p.1).wf = true ∧ (Lit.int .i64 p.2.1).wf = true ∧ (Lit.int .i64 p.2.2.1).wf = true ∧ (Lit.int .i64 p.2.2.2).wf = true) :
    APure Try.prog 4 [x, .vsl (l.map fun p => .agg [.p (.int .i64 p.1), .p (.int .i64 p.2.1), .p (.int .i64 p.2.2.1), .p (.int .i64 p.2.2.2)]), .vsl (o.map fun p => .agg [.p (.int .i64 p.1), .p (.int .i64 p.2.1), .p (.int .i64 p.2.2.1), .p (.int .i64 p.2.2.2)])] (vb true) := by
  obtain ⟨n, hx⟩ := hx
  obtain ⟨t, rfl, ht⟩ := tree_has n x hx
  exact evalReads_ok t l o ht (by omega) (fun p hp => .of_wf (hc p hp).2.2.1) (by omega) fun p hp => .of_wf (hco p hp).2.2.1
end Go.AL
