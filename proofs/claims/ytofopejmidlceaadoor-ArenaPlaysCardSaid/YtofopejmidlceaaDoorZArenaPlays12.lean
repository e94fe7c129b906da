/- Parts of the proof of ArenaPlays: the logic, contracts, plain laws. -/
import Derived.Test.YtofopejmidlceaaDoorZArenaPlays11
import Derived.Shelf.SlIter.Nil
import Derived.Shelf.SlIterI.Nil
import Derived.Lib.SlicesCompact
/-! Regions that draw, where two operations may stand in either order: shown for each. -/
namespace Go.AL
set_option linter.unusedVariables false
set_option linter.unusedSimpArgs false
variable {P : Program} {σ : ASt} {D : List Deferred} {Q : Exit → List AV → ASt → Prop} {fr : List AV}
/-- The operation X behind A. -/
def aftE (A : Nat) (o : Oper) : Oper := { o with after := o.after.push ⟨A, .data⟩ }
def aft (l : List Oper) (X A : Nat) : List Oper := l.modify X (aftE A)
def ValO (ops : Array Oper) : Nat → Array Bool → List Nat → Prop
  | 0, _, L => L = []
  | _ + 1, listed, [] => Region.ready .any ops listed = []
  | n + 1, listed, i :: L => i ∈ Region.ready .any ops listed ∧ ValO ops n (listed.setIfInBounds i true) L
theorem valO_lin (ops : Array Oper) : ∀ (fuel t : Nat) (listed : Array Bool), ValO ops fuel listed (Region.linearise.go .any ops fuel t listed [])
  | 0, t, listed => by simp [Region.linearise.go, ValO]
  | fuel + 1, t, listed => by
    simp only [Region.linearise.go]
    change ValO ops (fuel + 1) listed (match (Region.ready .any ops listed)[t % (Region.ready .any ops listed).length]? with
      | some i => Region.linearise.go .any ops fuel (t / (Region.ready .any ops listed).length) (listed.setIfInBounds i true) [i]
      | none => [].reverse)
    cases hi : (Region.ready .any ops listed)[t % (Region.ready .any ops listed).length]? with
    | none =>
      show Region.ready .any ops listed = []
      cases hr : Region.ready .any ops listed with
      | nil => rfl
      | cons x xs =>
        rw [hr] at hi
        have hlt : t % (x :: xs).length < (x :: xs).length := Nat.mod_lt _ (by simp)
        simp at hi
        simp at hlt
        omega
    | some i =>
      simp only []
      rw [linearise_go_acc, List.reverse_singleton, List.singleton_append]
      exact ⟨List.mem_of_getElem? hi, valO_lin ops fuel _ _⟩
theorem valO_any {F : Fence} {n : Nat} {ops : Array Oper} {Q : Exit → Act → World → Prop} : ∀ (fuel : Nat) (listed : Array Bool) (L : List Nat) (a : Act) (w : World), wpAnyIn F n P .any ops Q fuel listed a w → ValO ops fuel listed L → wpOpsIn F n P ops Q L a w
  | 0, _, L, a, w, h, hv => by
    obtain rfl : L = [] := hv
    exact h.2
  | fuel + 1, _, [], a, w, h, hv => h.1 hv
  | fuel + 1, _, i :: L, a, w, h, hv => by
    rw [wpOpsIn_cons]
    exact wpOpIn_mono (fun a w h => valO_any fuel _ L a w h hv.2) (h.2 i hv.1)
theorem aft_get (l : List Oper) (X A i : Nat) : (aft l X A)[i]? = if X = i then (l[i]?).map (aftE A) else l[i]? := by
  unfold aft
  rw [List.getElem?_modify]
  split <;> simp
theorem aft_len (l : List Oper) (X A : Nat) : (aft l X A).length = l.length := by unfold aft; rw [List.length_modify]
theorem ready_aft (l : List Oper) (X A i : Nat) (listed : Array Bool) : i ∈ Region.ready .any (aft l X A).toArray listed ↔ i ∈ Region.ready .any l.toArray listed ∧ (X = i → listed.getD A false = true) := by
  unfold Region.ready
  simp only [List.mem_filter, List.mem_range, List.size_toArray, aft_len, Bool.and_eq_true, List.getElem?_toArray, aft_get]
  by_cases hX : X = i
  · rw [if_pos hX]
    cases h : l[i]? with
    | none => simp
    | some o =>
      simp only [Option.map_some, Option.getD_some, aftE, Array.all_push, Bool.and_eq_true]
      have : (!Region.binds .any ⟨A, .data⟩ || listed.getD A false) = listed.getD A false := rfl
      rw [this]
      constructor
      · exact fun h => ⟨⟨h.1, h.2.1, h.2.2.1⟩, fun _ => h.2.2.2⟩
      · exact fun h => ⟨h.1.1, h.1.2.1, h.1.2.2, h.2 hX⟩
  · rw [if_neg hX]
    exact ⟨fun h => ⟨h, fun e => absurd e hX⟩, fun h => h.1⟩
theorem ready_nil {l : List Oper} {X A : Nat} {listed : Array Bool} (h : Region.ready .any l.toArray listed = []) : Region.ready .any (aft l X A).toArray listed = [] := by
  refine List.eq_nil_iff_forall_not_mem.2 fun i hi => ?_
  have := ((ready_aft l X A i listed).1 hi).1
  rw [h] at this; cases this
theorem getD_set {listed : Array Bool} {i j : Nat} (h : listed.getD j false = true) : (listed.setIfInBounds i true).getD j false = true := by
  rw [Array.getD_eq_getD_getElem?] at h ⊢
  rw [Array.getElem?_setIfInBounds]
  split
  · rename_i e
    subst e
    split
    · rfl
    · rename_i hn; rw [Array.getElem?_eq_none (by omega)] at h; exact h
  · exact h
theorem valO_sub {l : List Oper} {X A : Nat} : ∀ {n : Nat} {listed : Array Bool} {L : List Nat}, listed.getD A false = true → ValO l.toArray n listed L → ValO (aft l X A).toArray n listed L
  | 0, _, _, _, h => h
  | _ + 1, _, [], _, h => ready_nil h
  | n + 1, _, i :: L, hA, h => ⟨(ready_aft l X A i _).2 ⟨h.1, fun _ => hA⟩, valO_sub (getD_set hA) h.2⟩
theorem valO_split {l : List Oper} {X A : Nat} (hXA : A ≠ X) (hA : A < l.length) (hX : X < l.length) : ∀ {n : Nat} {listed : Array Bool} {L : List Nat}, listed.size = l.length → ValO l.toArray n listed L → ValO (aft l X A).toArray n listed L ∨ ValO (aft l A X).toArray n listed L
  | 0, _, _, _, h => .inl h
  | _ + 1, _, [], _, h => .inl (ready_nil h)
  | n + 1, listed, i :: L, hs, h => by
    have hon : ∀ j, j < l.length → (listed.setIfInBounds j true).getD j false = true := fun j hj => by
      rw [Array.getD_eq_getD_getElem?, Array.getElem?_setIfInBounds, if_pos rfl, if_pos (by omega)]; rfl
    by_cases h1 : i = X
    · subst h1
      exact .inr ⟨(ready_aft l A i i _).2 ⟨h.1, fun e => absurd e hXA⟩, valO_sub (hon i hX) h.2⟩
    by_cases h2 : i = A
    · subst h2
      exact .inl ⟨(ready_aft l X i i _).2 ⟨h.1, fun e => absurd e.symm h1⟩, valO_sub (hon i hA) h.2⟩
    rcases valO_split hXA hA hX (by simpa using hs) h.2 with g | g
    · exact .inl ⟨(ready_aft l X A i _).2 ⟨h.1, fun e => absurd e.symm h1⟩, g⟩
    · exact .inr ⟨(ready_aft l A X i _).2 ⟨h.1, fun e => absurd e.symm h2⟩, g⟩
theorem ops_aft {F : Fence} {n : Nat} {l : List Oper} {X A : Nat} {Q : Exit → Act → World → Prop} : ∀ (L : List Nat) (a : Act) (w : World), wpOpsIn F n P (aft l X A).toArray Q L a w → wpOpsIn F n P l.toArray Q L a w
  | [], a, w, h => h
  | i :: L, a, w, h => by
    have hy : ∀ tmps, yielded (aft l X A).toArray tmps = yielded l.toArray tmps := fun tmps => by
      funext j
      unfold yielded
      simp only [List.getElem?_toArray, aft_get]
      have : ((if X = j then (l[j]?).map (aftE A) else l[j]?).bind (·.dst)) = (l[j]?).bind (·.dst) := by
        split
        · cases l[j]? <;> rfl
        · rfl
      rw [this]
    have ih := ops_aft (F := F) (n := n) (l := l) (X := X) (A := A) (Q := Q) L
    unfold wpOpsIn at h ⊢
    simp only [List.getElem?_toArray, aft_get, hy] at h ⊢
    cases ho : l[i]? with
    | none =>
      rw [ho] at h
      have h : wpOpsIn F n P (aft l X A).toArray Q L a w := by
        by_cases hX : X = i
        · rw [if_pos hX] at h; exact h
        · rw [if_neg hX] at h; exact h
      exact ih a w h
    | some o =>
      rw [ho] at h
      have h : if Region.wanted o (yielded l.toArray a.tmps) = true then o.wpIn F n P a w (wpOpsIn F n P (aft l X A).toArray Q L) Q else (∀ f, o.about P w a.eval = some f → F.fn f) ∧ wpOpsIn F n P (aft l X A).toArray Q L (a.put o.dst undef) w := by
        by_cases hX : X = i
        · rw [if_pos hX] at h; exact h
        · rw [if_neg hX] at h; exact h
      simp only
      split
      · rename_i hw
        rw [if_pos hw] at h
        exact Oper.wpIn_mono ih h
      · rename_i hw
        rw [if_neg hw] at h
        exact ⟨h.1, ih _ _ h.2⟩
/-- Whatever the order. -/
def AWO (P : Program) (D : List Deferred) (l : List Oper) (Q : Exit → List AV → ASt → Prop) (fr : List AV) (σ : ASt) : Prop :=
  ∀ (_ : Rd) G a w, Sim G fr σ D a w → ∀ L, ValO l.toArray l.length (Array.replicate l.length false) L → wpOpsIn wideR 2 P l.toArray (lift G w D Q) L a { w with drawn := w.drawn + 1 }
theorem aw_of_awo {id : Nat} {l : List Oper} (hm : P.follows .mixedOrders = true) (h : AWO P D l Q fr σ) : AW P D (.region id l.toArray true) Q fr σ := by
  intro _ _ G a w hs
  refine wpIn_region_draw fun t => ?_
  simp only [Region.schedule, hm, Bool.true_or, if_true]
  have := valO_lin l.toArray l.toArray.size t (Array.replicate l.toArray.size false)
  simp only [List.size_toArray] at this
  exact h _ G a w hs _ (by unfold Region.linearise; simpa using this)
theorem awo_split {l : List Oper} (A X : Nat) (hXA : A ≠ X) (hA : A < l.length) (hX : X < l.length) (h1 : AWO P D (aft l X A) Q fr σ) (h2 : AWO P D (aft l A X) Q fr σ) : AWO P D l Q fr σ := by
  intro _ G a w hs L hL
  rcases valO_split hXA hA hX (by simp) hL with g | g
  · exact ops_aft L _ _ (h1 _ G a w hs L (by rw [aft_len]; exact g))
  · exact ops_aft L _ _ (h2 _ G a w hs L (by rw [aft_len]; exact g))
theorem awo_zrun {l : List Oper} (mu imp : List Nat) (hB : zB mu imp l = true) (h : Shut (ZRun P mu imp l (fun fr σ => Q .normal fr σ) 0 l fr σ [] [])) : AWO P D l Q fr σ := fun _ G a w hs L hL =>
  valO_any _ _ L _ _ (wpAny_in _ _ _ _ (any_zdraw mu imp hB (zl_run h.out fun p hp => by cases hp) hs)) hL
/-! ### in another order of the text -/
def renO (ps : List Nat) (o : Oper) : Oper := { o with after := o.after.map fun e => { e with on := ps.idxOf e.on }, guard := o.guard.map fun g => (ps.idxOf g.1, g.2) }
def permL (ps : List Nat) (l : List Oper) : List Nat → List Oper
  | [] => []
  | i :: js => renO ps (l.getD i default) :: permL ps l js
theorem permL_len (ps : List Nat) (l : List Oper) : ∀ js, (permL ps l js).length = js.length
  | [] => rfl
  | _ :: js => by rw [permL, List.length_cons, permL_len ps l js, List.length_cons]
theorem permL_get (ps : List Nat) (l : List Oper) : ∀ (js : List Nat) (j : Nat), (permL ps l js)[j]? = (js[j]?).map fun i => renO ps (l.getD i default)
  | [], _ => by simp [permL]
  | i :: js, 0 => rfl
  | i :: js, j + 1 => permL_get ps l js j
/-- Is it one? -/
def isPerm (n : Nat) (ps : List Nat) : Bool := (decide (ps.length = n) && (List.range n).all fun i => ps.contains i) && decide ps.Nodup
section
variable {l : List Oper} {ps : List Nat} (hp : isPerm l.length ps = true)
include hp
theorem perm_len : ps.length = l.length := by simp only [isPerm, Bool.and_eq_true, decide_eq_true_eq] at hp; exact hp.1.1
theorem perm_nd : ps.Nodup := by simp only [isPerm, Bool.and_eq_true, decide_eq_true_eq] at hp; exact hp.2
theorem perm_has {i : Nat} (h : i < l.length) : i ∈ ps := by
  simp only [isPerm, Bool.and_eq_true, decide_eq_true_eq] at hp
  have := List.all_eq_true.1 hp.1.2 i (by simpa using h)
  simpa using this
theorem perm_pos {i : Nat} (h : i < l.length) : ps.idxOf i < l.length ∧ ps[ps.idxOf i]? = some i := by
  have hm := perm_has hp h
  have h1 := List.idxOf_lt_length_of_mem hm
  exact ⟨by rw [← perm_len hp]; exact h1, by rw [List.getElem?_eq_getElem h1, List.getElem_idxOf]⟩
theorem perm_out {i : Nat} (h : ¬ i < l.length) (hin : i ∈ ps) : False := by
  have hlen := perm_len hp
  have hsub : List.range l.length ⊆ ps.erase i := fun j hj => by
    have hj := List.mem_range.1 hj
    exact (List.mem_erase_of_ne (by omega)).2 (perm_has hp hj)
  have := List.Nodup.length_le_of_subset List.nodup_range hsub
  rw [List.length_range, List.length_erase_of_mem hin] at this
  have : 0 < ps.length := List.length_pos_of_mem hin
  omega
theorem perm_at {j : Nat} (h : j < l.length) : ∃ i, i < l.length ∧ ps.idxOf i = j ∧ ps[j]? = some i := by
  have hlen := perm_len hp
  obtain ⟨i, hi⟩ : ∃ i, ps[j]? = some i := ⟨_, List.getElem?_eq_getElem (by omega)⟩
  have hmem := List.mem_of_getElem? hi
  have hlt : i < l.length := by
    rcases Nat.lt_or_ge i l.length with h | h
    · exact h
    · exact (perm_out hp (by omega) hmem).elim
  refine ⟨i, hlt, ?_, hi⟩
  obtain ⟨h1, h2⟩ := perm_pos hp hlt
  exact (List.getElem?_inj (by omega) (perm_nd hp)).1 (h2.trans hi.symm)
theorem perm_op {i : Nat} (h : i < l.length) : (permL ps l ps)[ps.idxOf i]? = (l[i]?).map (renO ps) := by
  rw [permL_get, (perm_pos hp h).2]; simp [List.getD, h]
/-- What is listed, of both. -/
def Lk (l : List Oper) (ps : List Nat) (a b : Array Bool) : Prop := a.size = l.length ∧ b.size = l.length ∧ ∀ i, i < l.length → b[ps.idxOf i]? = a[i]?
theorem ready_perm {a b : Array Bool} (hk : Lk l ps a b) {i : Nat} (h : i < l.length) : ps.idxOf i ∈ Region.ready .any (permL ps l ps).toArray b ↔ i ∈ Region.ready .any l.toArray a := by
  have hg : ∀ (j : Nat), b.getD (ps.idxOf j) false = a.getD j false := fun j => by
    rw [Array.getD_eq_getD_getElem?, Array.getD_eq_getD_getElem?]
    rcases Nat.lt_or_ge j l.length with hj | hj
    · rw [hk.2.2 j hj]
    · have ea : a[j]? = none := Array.getElem?_eq_none (by rw [hk.1]; omega)
      have : ps.idxOf j = ps.length := List.idxOf_eq_length fun hin => perm_out hp (by omega) hin
      have eb : b[ps.idxOf j]? = none := Array.getElem?_eq_none (by rw [this, hk.2.1, perm_len hp]; omega)
      rw [ea, eb]
  have hg2 : b.getD (ps.idxOf i) true = a.getD i true := by rw [Array.getD_eq_getD_getElem?, Array.getD_eq_getD_getElem?, hk.2.2 i h]
  unfold Region.ready
  simp only [List.mem_filter, List.mem_range, List.size_toArray, permL_len, perm_len hp, List.getElem?_toArray, perm_op hp h, hg2]
  rw [List.getElem?_eq_getElem h]
  simp only [Option.map_some, Option.getD_some, renO, Array.all_map, Function.comp_def, hg]
  have hb : ∀ e : Edge, Region.binds .any { e with on := ps.idxOf e.on } = Region.binds .any e := fun e => rfl
  simp only [hb]
  exact ⟨fun h' => ⟨h, h'.2⟩, fun h' => ⟨(perm_pos hp h).1, h'.2⟩⟩
theorem valO_perm : ∀ {n : Nat} {a b : Array Bool} {L : List Nat}, Lk l ps a b → ValO l.toArray n a L → ValO (permL ps l ps).toArray n b (L.map ps.idxOf)
  | 0, _, _, _, _, h => by obtain rfl := h; rfl
  | _ + 1, a, b, [], hk, h => by
    show Region.ready .any _ b = []
    refine List.eq_nil_iff_forall_not_mem.2 fun j hj => ?_
    have hjl : j < l.length := by
      have h' := hj
      unfold Region.ready at h'
      simp only [List.mem_filter, List.mem_range, List.size_toArray, permL_len, perm_len hp] at h'
      exact h'.1
    obtain ⟨i, hi, rfl, _⟩ := perm_at hp hjl
    have := (ready_perm hp hk hi).1 hj
    rw [show Region.ready .any l.toArray a = [] from h] at this; cases this
  | n + 1, a, b, i :: L, hk, h => by
    have hi : i < l.length := by
      have h' := h.1
      unfold Region.ready at h'
      simp only [List.mem_filter, List.mem_range, List.size_toArray] at h'
      exact h'.1
    refine ⟨(ready_perm hp hk hi).2 h.1, valO_perm ⟨by simp [hk.1], by simp [hk.2.1], fun j hj => ?_⟩ h.2⟩
    rw [Array.getElem?_setIfInBounds, Array.getElem?_setIfInBounds]
    by_cases hij : i = j
    · subst hij
      rw [if_pos rfl, if_pos rfl, if_pos (by rw [hk.2.1]; exact (perm_pos hp hi).1), if_pos (by rw [hk.1]; exact hi)]
    · rw [if_neg hij, if_neg (fun e => hij ?_), hk.2.2 j hj]
      have h1 := (perm_pos hp hi).2
      have e : ps.idxOf i = ps.idxOf j := e
      rw [e, (perm_pos hp hj).2] at h1
      exact (Option.some.inj h1).symm
theorem ops_perm {F : Fence} {n : Nat} {Q : Exit → Act → World → Prop} : ∀ (L : List Nat) (a : Act) (w : World), (∀ i ∈ L, i < l.length) → wpOpsIn F n P (permL ps l ps).toArray Q (L.map ps.idxOf) a w → wpOpsIn F n P l.toArray Q L a w
  | [], a, w, _, h => h
  | i :: L, a, w, hL, h => by
    have hi := hL i List.mem_cons_self
    have hy : ∀ (tmps : Array Value) (j : Nat), yielded (permL ps l ps).toArray tmps (ps.idxOf j) = yielded l.toArray tmps j := fun tmps j => by
      unfold yielded
      simp only [List.getElem?_toArray]
      have : ((permL ps l ps)[ps.idxOf j]?).bind (·.dst) = (l[j]?).bind (·.dst) := by
        rcases Nat.lt_or_ge j l.length with hj | hj
        · rw [perm_op hp hj]; cases l[j]? <;> rfl
        · have : ps.idxOf j = ps.length := List.idxOf_eq_length fun hin => perm_out hp (by omega) hin
          have ea : l[j]? = none := List.getElem?_eq_none (by omega)
          have eb : (permL ps l ps)[ps.idxOf j]? = none := List.getElem?_eq_none (by rw [this, permL_len]; omega)
          rw [ea, eb]
      rw [this]
    have ih := ops_perm (F := F) (n := n) (Q := Q) L
    have hL' : ∀ i ∈ L, i < l.length := fun j hj => hL j (List.mem_cons_of_mem _ hj)
    rw [List.map_cons] at h
    unfold wpOpsIn at h ⊢
    simp only [List.getElem?_toArray, perm_op hp hi] at h ⊢
    rw [List.getElem?_eq_getElem hi] at h ⊢
    obtain ⟨o, ho⟩ : ∃ o, o = l[i] := ⟨_, rfl⟩
    rw [← ho] at h ⊢
    have hw : Region.wanted (renO ps o) (yielded (permL ps l ps).toArray a.tmps) = Region.wanted o (yielded l.toArray a.tmps) := by
      unfold Region.wanted
      simp only [renO]
      cases hg : o.guard with
      | none => rfl
      | some g => obtain ⟨j, b⟩ := g; simp only [Option.map_some]; rw [hy]
    have h : if Region.wanted (renO ps o) (yielded (permL ps l ps).toArray a.tmps) = true then o.wpIn F n P a w (wpOpsIn F n P (permL ps l ps).toArray Q (L.map ps.idxOf)) Q else (∀ f, o.about P w a.eval = some f → F.fn f) ∧ wpOpsIn F n P (permL ps l ps).toArray Q (L.map ps.idxOf) (a.put o.dst undef) w := h
    rw [hw] at h
    simp only
    split
    · rename_i hq
      rw [if_pos hq] at h
      exact Oper.wpIn_mono (fun a w h => ih a w hL' h) h
    · rename_i hq
      rw [if_neg hq] at h
      exact ⟨h.1, ih _ _ hL' h.2⟩
end
theorem valO_in {l : List Oper} : ∀ {n : Nat} {a : Array Bool} {L : List Nat}, ValO l.toArray n a L → ∀ i ∈ L, i < l.length
  | 0, _, _, h => by obtain rfl := h; exact fun i h => by cases h
  | _ + 1, _, [], _ => fun i h => by cases h
  | n + 1, a, j :: L, h => fun i hi => by
    rcases List.mem_cons.1 hi with rfl | hi
    · have h' := h.1
      unfold Region.ready at h'
      simp only [List.mem_filter, List.mem_range, List.size_toArray] at h'
      exact h'.1
    · exact valO_in h.2 i hi
theorem awo_perm {l : List Oper} (ps : List Nat) (hp : isPerm l.length ps = true) (h : AWO P D (permL ps l ps) Q fr σ) : AWO P D l Q fr σ := by
  intro _ G a w hs L hL
  refine ops_perm hp L _ _ (valO_in hL) (h _ G a w hs _ ?_)
  rw [permL_len, perm_len hp]
  exact valO_perm hp ⟨by simp, by simp, fun i hi => by simp [(perm_pos hp hi).1, hi]⟩ hL
end Go.AL
/-! What append hands back, closed at once. -/
namespace Go.AL
set_option linter.unusedVariables false
set_option linter.unusedSimpArgs false
variable {P : Program} {σ : ASt} {R : AV → ASt → Prop} {D : List Deferred} {Q : Exit → List AV → ASt → Prop} {fr : List AV} {ops : Array Oper} {o : Oper} {rest : List Oper}
theorem Outc.fin {G w v w'} (h : Outc G w (fun r τ => Fin R r τ) v w') : Outc G w R v w' := by
  obtain ⟨r, G1, σ1, h1, h2, h3, h4⟩ := h
  obtain ⟨r2, G2, σ2, k1, k2, k3, k4⟩ := h4 G1 w' v h2 h3
  exact ⟨r2, G2, σ2, h1.trans k1, k2, k3, k4⟩
theorem OpQ.fin {ρ : Operand → AV} (h : OpQ P o ρ σ fun r τ => Fin R r τ) : OpQ P o ρ σ R := fun G e w h1 h2 => by
  have h := h G e w h1 h2
  generalize (execOp e o).run P w = n at *
  cases n with
  | halt => exact h
  | ok n w' =>
    cases n with
    | value v => exact Outc.fin h
    | skip => exact Outc.fin h
    | enter f args => exact Calls.mono h fun e w'' he => retOf_mono (fun v w' h => Outc.fin h) he
    | round l f tmps assign body => exact RoundIn.mono h fun e w'' he => retOf_mono (fun v w' h => Outc.fin h) he
    | _ => exact h
end Go.AL
/-! delete. -/
namespace Go.AL
set_option linter.unusedVariables false
set_option linter.unusedSimpArgs false
variable {P : Program} {σ : ASt} {R : AV → ASt → Prop} {D : List Deferred} {Q : Exit → List AV → ASt → Prop} {fr : List AV} {ops : Array Oper} {o : Oper} {ρ : Operand → AV} {rest : List Oper}
def amdel (d : TypeDesc) (k : AV) (es : List (AV × AV)) : Option (List (AV × AV)) := (amfind d k es 0).map fun r => match r with
  | none => es
  | some (j, _) => es.eraseIdx j
theorem opq_mapDel {t t2 : TypeId} {m k : Operand} (ho : o.op = .call { callee := .builtin .delete, args := #[m, k], argTypes := #[t, t2] }) {d : TypeDesc} {el : TypeId} (ht : tmap P t = some (d, el)) {b : Nat} (hm : ρ m = .map b) {es es' : List (AV × AV)} (hb : σ.mp b = some es) {kv : Value} (hk : ρ k = .p kv)
    (hf : amdel d (.p kv) es = some es') (hr : R (.p undef) { σ with mp := upd σ.mp b (some es') }) : OpQ P o ρ σ R := by
  obtain ⟨kt, u1, u2, u3⟩ := tmap_spec ht
  intro G e w he hw
  have hm' := he m
  rw [hm] at hm'
  have hk' := he k
  rw [hk] at hk'
  obtain ⟨r, hfd, rfl⟩ := Option.map_eq_some_iff.1 hf
  obtain ⟨μ, ents, clock, g1, g2, g3, g4, g5⟩ := mp_map (hw.mp b es hb) hfd
  generalize hem : e m = vm at hm'
  generalize hek : e k = vk at hk'
  cases hk'
  obtain ⟨μ', rfl, g⟩ : ∃ μ', vm = .map (some μ') ∧ G.mp b = some μ' := by cases hm'; exact ⟨_, rfl, by assumption⟩
  obtain rfl := Option.some.inj (g.symm.trans g1)
  have hfn := findNow_spec (G := G) (w := w) es ents.toList 0 r (by simp [g3]) (fun n k x e a c => by
    have := g4 n k x e a (by simpa using c)
    exact ⟨this.1, this.2.1⟩) hfd
  have key : ∃ ents' clock', (execOp e o).run P w = ((setObj μ' (.map ents' clock')).run P w).andThen (fun _ w' => .ok (.value (.tuple #[])) w') ∧ ents'.size = (match r with | none => es | some (j, _) => es.eraseIdx j).length ∧
      (∀ (i : Nat) k' x' (e' : MapEntry), (match r with | none => es | some (j, _) => es.eraseIdx j)[i]? = some (k', x') → ents'[i]? = some e' → Rep G w k' e'.key ∧ Rep G w x' e'.val ∧ e'.born < clock') ∧ (∀ (i j : Nat) (e e' : MapEntry), ents'[i]? = some e → ents'[j]? = some e' → e.born = e'.born → i = j) := by
    cases r with
    | none =>
      refine ⟨ents, clock, ?_, g3, g4, g5⟩
      rw [execOp_builtin e ho]
      simp [builtin, Builtin.delete_, run_underlying' u1, hem, hek, run_getObj_map g2, run_checkKey u2 u3, run_findKey u2 hfn]
      cases Sem.run P (setObj μ' (.map ents clock)) w <;> rfl
    | some jy =>
      obtain ⟨j, y⟩ := jy
      obtain ⟨e0, _, he0, hre, hfn⟩ := hfn
      have hj : j < es.length := by
        obtain ⟨_, hes, _⟩ := amfind_key es 0 j y hfd
        exact (List.getElem?_eq_some_iff.1 (by simpa using hes)).1
      have hje : j < ents.size := by omega
      have hget : ∀ i : Nat, (ents.eraseIdxIfInBounds j)[i]? = if i < j then ents[i]? else ents[i + 1]? := fun i => by
        rw [Array.eraseIdxIfInBounds_eq, dif_pos hje, Array.getElem?_eraseIdx]
      have hgl : ∀ i : Nat, (es.eraseIdx j)[i]? = if i < j then es[i]? else es[i + 1]? := fun i => List.getElem?_eraseIdx
      refine ⟨ents.eraseIdxIfInBounds j, clock, ?_, ?_, ?_, ?_⟩
      · rw [execOp_builtin e ho]
        simp [builtin, Builtin.delete_, run_underlying' u1, hem, hek, run_getObj_map g2, run_checkKey u2 u3, run_findKey u2 hfn]
        cases Sem.run P (setObj μ' (.map (ents.eraseIdxIfInBounds j) clock)) w <;> rfl
      · rw [Array.eraseIdxIfInBounds_eq, dif_pos hje, Array.size_eraseIdx, List.length_eraseIdx, if_pos hj, g3]
      · intro i k' x' e' a c
        simp only at a
        rw [hgl] at a
        rw [hget] at c
        split at a
        · rename_i hi; rw [if_pos hi] at c; exact g4 i k' x' e' a c
        · rename_i hi; rw [if_neg hi] at c; exact g4 (i + 1) k' x' e' a c
      · intro i i' e1 e2 h1 h2 h3
        rw [hget] at h1 h2
        split at h1 <;> split at h2
        · exact g5 i i' e1 e2 h1 h2 h3
        · have := g5 i (i' + 1) e1 e2 h1 h2 h3; omega
        · have := g5 (i + 1) i' e1 e2 h1 h2 h3; omega
        · have := g5 (i + 1) (i' + 1) e1 e2 h1 h2 h3; omega
  obtain ⟨ents', clock', run, k1, k2, k3⟩ := key
  obtain ⟨w', hset, htouch, hh⟩ := run_setObj (P := P) (o' := .map ents' clock') g2
  rw [run, hset, Result.andThen_ok]
  have hown : Owns G σ μ' (1, b) := .mp b μ' es hb g
  have hl := Le.touch hw hown htouch
  exact ⟨_, G, _, hl, hw.touch_mp hb g htouch (fun hl => .inl ⟨μ', ents', clock', g, hh, k1, fun i k' x' e' a c => ⟨(k2 i k' x' e' a c).1.mono hl, (k2 i k' x' e' a c).2.1.mono hl, (k2 i k' x' e' a c).2.2⟩, k3⟩), .p _, hr⟩
theorem awl_mapDel {t t2 : TypeId} {m k : Operand} (mu : List Nat) (ho : o.op = .call { callee := .builtin .delete, args := #[m, k], argTypes := #[t, t2] }) (hw : awanted ops o fr = some true) {d : TypeDesc} {el : TypeId} (ht : tmap P t = some (d, el)) {b : Nat} (hm : aev fr m = .map b) {es es' : List (AV × AV)} (hb : σ.mp b = some es)
    {kv : Value} (hk : aev fr k = .p kv) (hf : amdel d (.p kv) es = some es') (hk2 : Shut (ARun P D ops Q mu rest (aput fr o.dst (.p undef)) { σ with mp := upd σ.mp b (some es') })) : AWL P D ops Q (o :: rest) fr σ :=
  awl_cons hw (opq_mapDel ho ht hm hb hk hf (awl_run' mu hk2))
end Go.AL
/-! Methods on a variable that holds a map. -/
namespace Go.AL
set_option linter.unusedVariables false
set_option linter.unusedSimpArgs false
variable {P : Program} {σ : ASt} {R : AV → ASt → Prop} {D : List Deferred} {Q : Exit → List AV → ASt → Prop} {fr : List AV} {ops : Array Oper} {o : Oper} {rest : List Oper}
/-- The variable number 0, with the map number 1. -/
def tbS (es : List (AV × AV)) : ASt := ⟨fun i => if i = 0 then some [.map 1] else none, fun i => if i = 1 then some es else none, fun _ => none, 2⟩
@[simp] theorem tbS_bx (es : List (AV × AV)) (i : Nat) : (tbS es).bx i = if i = 0 then some [.map 1] else none := rfl
@[simp] theorem tbS_mp (es : List (AV × AV)) (i : Nat) : (tbS es).mp i = if i = 1 then some es else none := rfl
@[simp] theorem tbS_sl (es : List (AV × AV)) (i : Nat) : (tbS es).sl i = none := rfl
@[simp] theorem tbS_next (es : List (AV × AV)) : (tbS es).next = 2 := rfl
/-- By its address it hands back r, and leaves es'. -/
def TC (P : Program) (f : FuncId) (args : List AV) (es : List (AV × AV)) (r : AV) (es' : List (AV × AV)) : Prop := ACall P f (.ptr 0 0 :: args) (tbS es) fun r' σ' => r' = r ∧ σ'.bx 0 = some [.map 1] ∧ σ'.mp 1 = some es'
theorem TC.call {f : FuncId} {args : List AV} {es es' : List (AV × AV)} {r : AV} {b m : Nat} (h : TC P f args es r es') (ha : ∀ a ∈ args, Cl a) (hr : Cl r) (hes : ∀ p ∈ es, Cl p.1 ∧ Cl p.2) (hes' : ∀ p ∈ es', Cl p.1 ∧ Cl p.2)
    (hne : b ≠ m) (hb : σ.bx b = some [.map m]) (hm : σ.mp m = some es) (z1 : σ.mp b = none) (z2 : σ.sl b = none) (z3 : σ.bx m = none) (z4 : σ.sl m = none) :
    ACall P f (.ptr b 0 :: args) σ fun r' σ' => r' = r ∧ σ' = { σ with mp := upd σ.mp m (some es') } := by
  refine acall_ok fun hok => ?_
  have hbn : b < σ.next := by
    rcases Nat.lt_or_ge b σ.next with h' | h'
    · exact h'
    · rw [hok.bx b h'] at hb; cases hb
  have hmn : m < σ.next := by
    rcases Nat.lt_or_ge m σ.next with h' | h'
    · exact h'
    · rw [hok.mp m h'] at hm; cases hm
  obtain ⟨ρ, hρ⟩ : ∃ ρ, ρ = ridx [b, m] σ.next := ⟨_, rfl⟩
  have r0 : ρ 0 = b := by rw [hρ]; rfl
  have r1 : ρ 1 = m := by rw [hρ]; rfl
  have h0 : ACall P f (.ptr 0 0 :: args) (tbS es) fun r' σ' => r' = r ∧ σ'.bx = (tbS es').bx ∧ σ'.mp = (tbS es').mp ∧ σ'.sl = (tbS es').sl :=
    ACall.low h fun r' τ ⟨e1, e2, e3⟩ => ⟨⟨(tbS es').bx, (tbS es').mp, (tbS es').sl, τ.next⟩, {
      bx := fun i cs e => by
        simp only [tbS_bx] at e
        split at e
        · rename_i hi; subst hi; rw [e2]; exact e
        · cases e
      mp := fun i cs e => by
        simp only [tbS_mp] at e
        split at e
        · rename_i hi; subst hi; rw [e3]; exact e
        · cases e
      sl := fun _ _ e => by cases e
      next := Nat.le_refl _ }, e1, rfl, rfl, rfl⟩
  have h1 := ACall.frame1 (σ := σ) [b, m] (h := h0) rfl ⟨fun i hi => by
      have : ¬ i = 0 := by have : 2 ≤ i := hi; omega
      simp [this], fun i hi => by
      have : ¬ i = 1 := by have : 2 ≤ i := hi; omega
      simp [this], fun _ _ => rfl⟩ (by intro x hx; simp at hx; rcases hx with rfl | rfl <;> assumption) (by simpa using hne) (fun i cs e => by
      simp only [tbS_bx] at e
      split at e
      · rename_i hi; subst hi
        obtain rfl := Option.some.inj e
        rw [← hρ]; simp [rens, ren, r0, r1, hb]
      · cases e) (fun i xs e => by
      simp only [tbS_mp] at e
      split at e
      · rename_i hi; subst hi
        obtain rfl := Option.some.inj e
        rw [← hρ, r1, hm]
        refine congrArg some ?_
        conv => lhs; rw [← List.map_id es]
        exact List.map_congr_left fun p hp => by rw [renE, ren_closed _ (hes p hp).1, ren_closed _ (hes p hp).2]; rfl
      · cases e) (fun i xs e => by cases e) (fun r' τ ⟨e1, e2, e3, e4⟩ => by
      subst e1
      refine ⟨.of_cl hr, fun i cs e hi c hc => ?_, fun i es e hi p hp => ?_, fun i xs e hi => by rw [e4] at e; cases e⟩
      · rw [e2] at e
        simp only [tbS_bx] at e
        split at e
        · obtain rfl := Option.some.inj e
          obtain rfl := List.mem_singleton.1 hc
          intro π hπ
          simp only [ren]
          rw [hπ 1 (by simp)]
        · cases e
      · rw [e3] at e
        simp only [tbS_mp] at e
        split at e
        · obtain rfl := Option.some.inj e
          exact ⟨.of_cl (hes' p hp).1, .of_cl (hes' p hp).2⟩
        · cases e)
  rw [← hρ] at h1
  have ea : rens ρ (.ptr 0 0 :: args) = .ptr b 0 :: args := by
    simp only [rens, ren, r0]
    rw [rens_cl ha]
  rw [ea] at h1
  refine h1.mono fun r' σ' ⟨rc, τ, ⟨e1, e2, e3, e4⟩, e5, e6⟩ => ?_
  subst e1
  refine ⟨by rw [e5, ren_closed _ hr], ?_⟩
  rw [e6]
  unfold back1
  have hmb : ¬ m = b := fun e => hne e.symm
  have f0 : ∀ x, rfind x [b, m] 0 = if x = b then some 0 else if x = m then some 1 else none := fun x => by
    simp only [rfind]
  have esE : es'.map (renE ρ) = es' := by
    conv => rhs; rw [← List.map_id es']
    exact List.map_congr_left fun p hp => by rw [renE, ren_closed _ (hes' p hp).1, ren_closed _ (hes' p hp).2]; rfl
  rw [← hρ]
  congr 1
  · funext x
    rw [f0, e2]
    by_cases q1 : x = b
    · subst q1; simp [rens, ren, r1, hb]
    · by_cases q2 : x = m
      · subst q2; simp [hmb, z3]
      · simp [q1, q2]
  · funext x
    rw [f0, e3]
    by_cases q1 : x = b
    · subst q1; simp [upd, hne, z1]
    · by_cases q2 : x = m
      · subst q2; simp [hmb, upd, esE]
      · simp [q1, q2, upd]
  · funext x
    rw [f0, e4]
    by_cases q1 : x = b
    · subst q1; simp [z2]
    · by_cases q2 : x = m
      · subst q2; simp [hmb, z4]
      · simp [q1, q2]
end Go.AL
/-! slices.Sorted over a map's keys: texts. -/
namespace Go.AL
open Go.Proofs Go.Maps Go.WideElems
open Go.WideShapes (sorted_perm)
open Go.RowKit (Below)
set_option linter.unusedVariables false
set_option linter.unusedSimpArgs false
variable {P : Program} {σ : ASt}
abbrev kRd : Value → Option (DataW Unit × List MemPlace) := fun _ => some (.lit (.bool true), [])
end Go.AL
/-! slices.Sorted over a map's keys: whole numbers. -/
namespace Go.AL
open Go.Proofs Go.Maps Go.WideElems
open Go.WideShapes (sorted_perm)
open Go.RowKit (Below)
set_option linter.unusedVariables false
set_option linter.unusedSimpArgs false
variable {P : Program} {σ : ASt}
def sortI (ns : List Int) : List Int := ns.mergeSort leI
theorem owns_keysI {G : Ghost} {w : World} {m μ : Nat} {kt : TypeId} (hkt : P.underlying kt = some (.int .i64)) {es : List (AV × AV)} {ns : List Int} (hk : es.map Prod.fst = ns.map fun s => .p (.int .i64 s)) (hnd : ns.Nodup) (hsz : ∀ s ∈ ns, (Lit.int .i64 s).wf = true) (hl : ns.length ≤ maxLen) (hg : G.mp m = some μ) (h : MpOK G w m es) :
    ∃ D0, w.ownsMap P kt kRd μ ns.length D0 ∧ (intKeys D0).Perm ns ∧ Maps.size D0 = ns.length := by
  rcases h with ⟨μ', ents, clock, h1, h2, h3, h4, h5⟩ | ⟨μ', o, fr, h1, h2, h3, h4⟩
  · obtain rfl := Option.some.inj (hg.symm.trans h1)
    have hlen : es.length = ns.length := by have := congrArg List.length hk; simpa using this
    have hkey : ∀ (i : Nat) e, ents[i]? = some e → ∃ s, ns[i]? = some s ∧ e.key = .int .i64 s ∧ e.born < clock := fun i e he => by
      have hi : i < es.length := by have := (Array.getElem?_eq_some_iff.1 he).1; omega
      obtain ⟨⟨k, x⟩, hx⟩ : ∃ p, es[i]? = some p := ⟨_, List.getElem?_eq_getElem hi⟩
      have hk' := congrArg (·[i]?) hk
      simp only [List.getElem?_map, hx, Option.map_some] at hk'
      cases hn : ns[i]? with
      | none => rw [hn] at hk'; cases hk'
      | some s =>
        rw [hn] at hk'
        simp only [Option.map_some, Option.some.injEq] at hk'
        subst hk'
        obtain ⟨a, _, b⟩ := h4 i _ x e hx he
        generalize e.key = q at a
        cases a
        exact ⟨s, rfl, rfl, b⟩
    have hmem : ∀ e ∈ ents.toList, ∃ s, s ∈ ns ∧ e.key = .int .i64 s ∧ e.born < clock := fun e he => by
      obtain ⟨i, hi, rfl⟩ := List.getElem_of_mem he
      obtain ⟨s, a, b, c⟩ := hkey i ents.toList[i] (by simp at hi; simp [hi])
      exact ⟨s, List.mem_of_getElem? a, b, c⟩
    have hks : ents.toList.map (·.key) = ns.map (Value.int .i64) := by
      refine List.ext_getElem? fun i => ?_
      simp only [List.getElem?_map, Array.getElem?_toList]
      cases he : ents[i]? with
      | none =>
        have : ns[i]? = none := by
          rw [List.getElem?_eq_none_iff]
          have := Array.getElem?_eq_none_iff.1 he
          omega
        rw [this]; rfl
      | some e =>
        obtain ⟨s, a, b, _⟩ := hkey i e he
        rw [a]; simp [b]
    have hrd : ∀ e ∈ ents.toList, rd P kt kRd e = some (.int .i64 (match e.key with | .int _ s => s | _ => 0), .lit (.bool true)) := fun e he => by
      obtain ⟨s, hs, e1, _⟩ := hmem e he
      have hm := hsz s hs
      simp [rd, keyOf, hkt, mapKey, e1, hm]
    have F : Fit P kt kRd ents clock := ⟨by omega, ⟨fun e he => (hmem e he).choose_spec.2.2, by
        rw [List.Nodup, List.pairwise_map]
        refine List.pairwise_iff_getElem.2 fun i j hi hj hij e => ?_
        have := h5 i j ents.toList[i] ents.toList[j] (by simp at hi; simp [hi]) (by simp at hj; simp [hj]) e
        omega, by
        rw [hks]
        exact List.Pairwise.map _ (fun a b h e => h (Value.int.inj e).2) hnd⟩, fun e he => ⟨_, hrd e he⟩⟩
    refine ⟨_, ⟨ents, clock, h2, F, by omega, rfl⟩, ?_, ?_⟩
    · refine ((sorted_perm _).map _).trans ?_
      rw [List.map_map]
      have : ents.toList.map ((fun p => Go.intOf p.1) ∘ rg P kt kRd) = (ents.toList.map (·.key)).map fun v => match v with | .int _ s => s | _ => 0 := by
        rw [List.map_map]
        refine List.map_congr_left fun e he => ?_
        simp [rg, hrd e he, Go.intOf]
      rw [this, hks, List.map_map]
      have h2 : ns.map ((fun v => match v with | .int _ s => s | _ => 0) ∘ Value.int .i64) = ns := by
        conv => rhs; rw [← List.map_id ns]
        exact List.map_congr_left fun s _ => rfl
      rw [h2]
    · rw [Maps.size_eq, (sorted_perm _).length_eq, List.length_map, Array.length_toList]
      omega
  · exfalso
    subst h4
    cases ns with
    | nil => simp [obE] at hk
    | cons s ns => simp [obE] at hk
end Go.AL
/-! What is handed back, closed to some depth: variables, maps and slices of the function's own stay as they are. -/
namespace Go.AL
open Go.RowKit (Below)
set_option linter.unusedVariables false
set_option linter.unusedSimpArgs false
variable {P : Program} {σ : ASt} {R : AV → ASt → Prop} {D : List Deferred} {Q : Exit → List AV → ASt → Prop} {fr : List AV}
def AV.isKey : AV → Bool
  | .p _ => true
  | .agg _ => true
  | _ => false
def cloE (f : AV → AV) : AV → AV
  | .agg cs => .agg (cs.map f)
  | v => f v
attribute [simp] cloE
theorem cloE_of {f : AV → AV} {x : AV} (h : ∀ cs, x ≠ .agg cs) : cloE f x = f x := by
  cases x <;> first | rfl | exact absurd rfl (h _)
def cloD (σ : ASt) : Nat → AV → AV
  | 0, v => v
  | _ + 1, .p (.slice none 0 _) => .vsl []
  | n + 1, .agg cs => .agg (cs.map (cloD σ n))
  | n + 1, .tup cs => .tup (cs.map (cloD σ n))
  | n + 1, .ptr b off => match σ.bx b with
    | some cs => .vel [.agg (cs.map (cloD σ n))] 0 off
    | none => .ptr b off
  | n + 1, .map m => match σ.mp m with
    | some es => if es.all (fun p => p.1.isKey) = true then .vmp (es.map fun p => cloD σ n p.1) (es.map fun p => cloD σ n p.2) else .map m
    | none => .map m
  | _ + 1, .hsl b off k => match σ.sl b with
    | some xs => if off + k ≤ xs.length then .vsl ((xs.drop off).take k) else .any
    | none => .hsl b off k
  | n + 1, .fn f aa bs => .fn f (aa.map (cloD σ n)) (bs.map (cloD σ n))
  | n + 1, .vel xs i off => .vel (xs.map (cloE (cloD σ n))) i off
  | _ + 1, v => v
theorem cells_one {x : AV} (h : ∀ cs, x ≠ .agg cs) : x.cells = [x] := by
  cases x with
  | agg cs => exact absurd rfl (h cs)
  | _ => rfl
theorem cloD_agg {σ : ASt} {n : Nat} {x : AV} (h : ∀ cs, x ≠ .agg cs) : ∀ cs, cloD σ n x ≠ .agg cs := by
  intro cs
  cases n with
  | zero => exact h cs
  | succ n =>
    cases x with
    | agg c => exact absurd rfl (h c)
    | p x =>
      by_cases hv : ∃ cap, x = .slice none 0 cap
      · obtain ⟨cap, rfl⟩ := hv; simp [cloD]
      · have : cloD σ (n + 1) (.p x) = .p x := by
          cases x <;> first | rfl | skip
          rename_i a l c
          cases a with
          | none => cases l with
            | zero => exact absurd ⟨_, rfl⟩ hv
            | succ n => rfl
          | some a => rfl
        rw [this]; simp
    | ptr b off => simp only [cloD]; split <;> simp
    | map m => simp only [cloD]; split <;> (try split) <;> simp
    | hsl b off k => simp only [cloD]; split <;> (try split) <;> simp
    | _ => simp [cloD]
theorem rowCell_clo (σ : ASt) (n : Nat) (xs : List AV) (i j : Nat) : rowCell (xs.map (cloE (cloD σ n))) i j = (rowCell xs i j).map (cloD σ n) := by
  unfold rowCell
  rw [List.getElem?_map]
  cases xs[i]? with
  | none => rfl
  | some x =>
    simp only [Option.map_some, Option.bind_some]
    by_cases h : ∃ cs, x = .agg cs
    · obtain ⟨cs, rfl⟩ := h
      simp [AV.cells]
    · have h' : ∀ cs, x ≠ .agg cs := fun cs e => h ⟨cs, e⟩
      rw [cloE_of h', cells_one (cloD_agg h'), cells_one h']
      cases j <;> simp
def ASt.bare (σ : ASt) : ASt := ⟨fun _ => none, fun _ => none, fun _ => none, σ.next⟩
theorem bare_le (σ : ASt) : (σ.bare).Le σ := ⟨fun _ _ h => (nomatch h), fun _ _ h => (nomatch h), fun _ _ h => (nomatch h), Nat.le_refl _⟩
theorem SimW.bare {G σ w} (h : SimW G σ w) : ∃ G', Le G w G' w ∧ SimW G' σ.bare w ∧ ∀ n v u, Rep G w v u → Rep G' w (cloD σ n v) u := by
  obtain ⟨q, hq⟩ : ∃ q : Nat → Nat → Prop, q = fun γ _ => ∃ k, Owns G σ γ k := ⟨_, rfl⟩
  have hqo : ∀ γ o, q γ o → ∃ k, Owns G σ γ k := fun γ o e => by rw [hq] at e; exact e
  have hl : Le G w (G.addSt q) w := ⟨rfl, fun _ _ e => e, fun _ _ e => e, fun _ _ e => e, fun _ _ e => .inl e, fun γ o e => e.imp id fun e => by
    obtain ⟨k, hb⟩ := hqo γ o e; exact ⟨(h.own _ _ hb).1, (h.own _ _ hb).2.2⟩, fun _ _ _ => rfl, Below.refl _ _⟩
  have hw := h.less (bare_le σ)
  refine ⟨_, hl, ⟨hw.base, fun b' cs e => (nomatch e), fun b' cs e => (nomatch e), fun b' cs e => (nomatch e), fun γ k hk => ?_, fun γ o e => ?_, fun b hb => ?_⟩, ?_⟩
  · cases hk <;> rename_i e _ <;> cases e
  · rcases e with e | e
    · exact h.stIn _ _ e
    · obtain ⟨b, hb⟩ := hqo γ o e; exact h.own_lt hb
  · obtain ⟨f1, f2, f3, _, _, _⟩ := h.fresh b hb
    exact ⟨f1, f2, f3, rfl, rfl, rfl⟩
  intro n
  induction n with
  | zero => exact fun v u hr => hr.mono hl
  | succ n ih =>
    have ihL : ∀ (cs : List AV) (vs : List Value), cs.length = vs.length → (∀ (i : Nat) c v, cs[i]? = some c → vs[i]? = some v → Rep G w c v) → ∀ (i : Nat) c v, (cs.map (cloD σ n))[i]? = some c → vs[i]? = some v → Rep (G.addSt q) w c v := fun cs vs _ hr i c v hc hv => by
      rw [List.getElem?_map] at hc
      obtain ⟨c', hc', rfl⟩ := Option.map_eq_some_iff.1 hc
      exact ih _ _ (hr i c' v hc' hv)
    intro v u hr
    have hr0 := hr.mono hl
    cases v with
    | agg cs =>
      cases hr with
      | agg _ vs hs h => exact .agg _ vs (by simpa using hs) fun i c v hc hv => ihL cs vs.toList (by simpa using hs) (fun i c v a b => h i c v a (by simpa using b)) i c v hc (by simpa using hv)
    | tup cs =>
      cases hr with
      | tup _ vs hs h => exact .tup _ vs (by simpa using hs) fun i c v hc hv => ihL cs vs.toList (by simpa using hs) (fun i c v a b => h i c v a (by simpa using b)) i c v hc (by simpa using hv)
    | fn f aa bs =>
      cases hr with
      | fn _ _ _ us vs h1 h2 h3 h4 => exact .fn f _ _ us vs (by simpa using h1) (by simpa using h2) (fun i c v hc hv => ihL aa us.toList (by simpa using h1) (fun i c v a b => h3 i c v a (by simpa using b)) i c v hc (by simpa using hv)) (fun i c v hc hv => ihL bs vs.toList (by simpa using h2) (fun i c v a b => h4 i c v a (by simpa using b)) i c v hc (by simpa using hv))
    | vel xs i off =>
      cases hr with
      | vel _ _ _ β o s val hs h hrr =>
        refine .vel _ i off β o s val (fun i x hx => ?_) (fun i j c hc => ?_) (fun i j c hc => ?_)
        · rw [List.getElem?_map] at hx
          obtain ⟨y, hy, rfl⟩ := Option.map_eq_some_iff.1 hx
          rw [← hs i y hy]
          by_cases h : ∃ cs, y = .agg cs
          · obtain ⟨cs, rfl⟩ := h; simp [AV.cells]
          · have h' : ∀ cs, y ≠ .agg cs := fun cs e => h ⟨cs, e⟩
            rw [cloE_of h', cells_one (cloD_agg h'), cells_one h']; rfl
        · rw [rowCell_clo] at hc
          obtain ⟨c', hc', rfl⟩ := Option.map_eq_some_iff.1 hc
          exact ⟨.inl (h i j c' hc').1, (h i j c' hc').2⟩
        · rw [rowCell_clo] at hc
          obtain ⟨c', hc', rfl⟩ := Option.map_eq_some_iff.1 hc
          exact ih _ _ (hrr i j c' hc')
    | ptr b off =>
      simp only [cloD]
      cases hb : σ.bx b with
      | none => exact hr0
      | some cs =>
        simp only
        obtain ⟨β, arr, el, g1, g2, g3, g4⟩ := h.bx b cs hb
        cases hr with
        | ptr _ _ β' g =>
          obtain rfl := Option.some.inj (g.symm.trans g1)
          have cell : ∀ i j c, rowCell [AV.agg (cs.map (cloD σ n))] i j = some c → i = 0 ∧ ∃ c', cs[j]? = some c' ∧ c = cloD σ n c' := by
            intro i j c hc
            unfold rowCell at hc
            obtain ⟨x, h1, h2⟩ := Option.bind_eq_some_iff.1 hc
            match i, h1 with
            | 0, h1 =>
              obtain rfl := Option.some.inj h1
              refine ⟨rfl, ?_⟩
              simp only [AV.cells, List.getElem?_map] at h2
              obtain ⟨c', hc', rfl⟩ := Option.map_eq_some_iff.1 h2
              exact ⟨c', hc', rfl⟩
          have key := Rep.vel (G := G.addSt q) (w := w) [.agg (cs.map (cloD σ n))] 0 off β' 0 cs.length (fun _ j => arr.getD j undef) (fun i x hx => by
            match i, hx with
            | 0, hx => obtain rfl := Option.some.inj hx; simp [AV.cells]) (fun i j c hc => by
            obtain ⟨rfl, c', hc', rfl⟩ := cell i j c hc
            have hj : j < arr.size := by have := (List.getElem?_eq_some_iff.1 hc').1; omega
            refine ⟨.inr (by rw [hq]; exact ⟨_, .bx b β' cs hb g⟩), ?_⟩
            rw [cell_of_heap g2]
            simp [hj]) (fun i j c hc => by
            obtain ⟨rfl, c', hc', rfl⟩ := cell i j c hc
            have hj : j < arr.size := by have := (List.getElem?_eq_some_iff.1 hc').1; omega
            simp only [Array.getD, hj, dif_pos]
            exact ih _ _ (g4 j c' _ hc' (Array.getElem?_eq_getElem hj)))
          simpa using key
    | map m =>
      simp only [cloD]
      cases hb : σ.mp m with
      | none => exact hr0
      | some es =>
        simp only
        split
        · rename_i hall
          have hno : ∀ p ∈ es, p.1 ≠ noV := fun p hp e => by
            have := List.all_eq_true.1 hall p hp
            rw [e] at this; cases this
          obtain ⟨μ, ents, clock, g1, g2, g3, g4, g5⟩ := mp_real (h.mp m es hb) hno
          cases hr with
          | map _ μ' g =>
            obtain rfl := Option.some.inj (g.symm.trans g1)
            exact .vmp _ _ μ' clock ents (.inr (by rw [hq]; exact ⟨_, .mp m μ' es hb g⟩)) g2 (by simp [g3]) (by simp [g3]) (fun i c e a c' => by
              rw [List.getElem?_map] at a
              obtain ⟨p, hp, rfl⟩ := Option.map_eq_some_iff.1 a
              exact ih _ _ (g4 i p.1 p.2 e hp c').1) (fun i c e a c' => by
              rw [List.getElem?_map] at a
              obtain ⟨p, hp, rfl⟩ := Option.map_eq_some_iff.1 a
              exact ih _ _ (g4 i p.1 p.2 e hp c').2.1) (fun i e he => by
              have hi : i < es.length := by have := (Array.getElem?_eq_some_iff.1 he).1; omega
              exact (g4 i es[i].1 es[i].2 e (by rw [List.getElem?_eq_getElem hi]) he).2.2) g5
        · exact hr0
    | hsl b off k =>
      simp only [cloD]
      cases hb : σ.sl b with
      | none => exact hr0
      | some xs =>
        simp only
        split
        · rename_i hin
          have hS := h.sl b xs hb
          cases hr with
          | hsl _ _ _ β' o' s' cap' g hle =>
            rcases hS with ⟨g1, rfl⟩ | ⟨β, o, s, cap, arr, el, g1, g2, g3, g4, g5, g6⟩
            · rw [g1] at g; cases g
            obtain ⟨rfl, rfl, rfl, rfl⟩ : β = β' ∧ o = o' ∧ s = s' ∧ cap = cap' := by rw [g] at g1; simpa using g1.symm
            have hlen : ((xs.drop off).take k).length = k := by simp; omega
            have hc0 : k ≤ cap - off := by omega
            have hc1 : ((xs.drop off).take k).length ≤ cap - off := by rw [hlen]; exact hc0
            have hin2 : ∀ i j c, rowCell ((xs.drop off).take k) i j = some c → rowCell xs (off + i) j = some c ∧ o + (off + i) * s + j < arr.size := by
              intro i j c hc
              obtain ⟨hc2, hi⟩ := rowCell_seg _ _ _ _ _ _ hc
              obtain ⟨h1, h2, h3⟩ := rowCell_lt hc2 g5
              have : xs.length * s ≤ cap * s := Nat.mul_le_mul_right _ g3.2
              exact ⟨hc2, by omega⟩
            have key := Rep.vsl (G := G.addSt q) (w := w) ((xs.drop off).take k) β (o + off * s) s (cap - off) (fun i j => arr.getD (o + (off + i) * s + j) undef) hc1 (fun i x hx => by
              rw [List.getElem?_take] at hx
              split at hx
              · rw [List.getElem?_drop] at hx; exact g5 _ _ hx
              · cases hx) (fun i j c hc => ⟨.inr (by rw [hq]; exact ⟨_, .sl b β _ xs hb g1⟩), by
              obtain ⟨_, hlt⟩ := hin2 i j c hc
              have e : o + off * s + i * s + j = o + (off + i) * s + j := by rw [Nat.add_mul]; omega
              rw [cell_of_heap g2, e]
              simp [hlt]⟩) (fun i j c hc => by
              obtain ⟨hc2, hlt⟩ := hin2 i j c hc
              have := g6 (off + i) j c _ hc2 (Array.getElem?_eq_getElem hlt)
              simp only [Array.getD, hlt, dif_pos]
              exact this.mono hl)
            rw [hlen] at key; exact key
          | hend _ _ a β' o' s' cap' g hle => simp only [List.take_zero]; exact .vnil _ _
          | hnil _ a g => simp only [List.take_zero]; exact .vnil _ _
        · exact .any _
    | p x =>
      by_cases hv : ∃ cap, x = .slice none 0 cap
      · obtain ⟨cap, rfl⟩ := hv
        cases hr
        exact .vnil none cap
      · have : cloD σ (n + 1) (.p x) = .p x := by
          cases x <;> first | rfl | skip
          rename_i a l c
          cases a with
          | none => cases l with
            | zero => exact absurd ⟨_, rfl⟩ hv
            | succ n => rfl
          | some a => rfl
        rw [this]; exact hr0
    | _ => exact hr0
theorem Fin.bare {r : AV} (n : Nat) (h : Fin R (cloD σ n r) σ.bare) : Fin R r σ := by
  intro G w v hw hr
  obtain ⟨G', h1, h2, h3⟩ := hw.bare
  obtain ⟨r', G2, σ2, k1, k2, k3, k4⟩ := h G' w v h2 (h3 n _ _ hr)
  exact ⟨r', G2, σ2, h1.trans k1, k2, k3, k4⟩
end Go.AL
/-! Slices of one's own, under contracts of the kit's that speak of rows. -/
namespace Go.AL
open Go.Proofs Go.Maps Go.WideElems Go.Sort
open Go.RowKit (Below)
set_option linter.unusedVariables false
set_option linter.unusedSimpArgs false
variable {P : Program} {σ : ASt} {R : AV → ASt → Prop}
/-- A slice that owns a row is a slice of one's own. -/
theorem own_row {G : Ghost} {w w' : World} {t : TypeId} {s : Nat} {v : Value} {n : Nat} {vals : List Value} {xs : List AV} (hw : SimW G σ w) (hbl : Below w.heap.size w w') (hrow : w'.ownsRow w.heap.size t s v n vals) (hnil : n = 0 → v = .slice none 0 0) (hn : xs.length = n)
    (hs : ∀ (i : Nat) x, xs[i]? = some x → x.cells.length = s) (hx : ∀ (i j : Nat) c, rowCell xs i j = some c → ∃ u, vals[i * s + j]? = some u ∧ c = .p u) :
    ∃ G', Le G w G' w' ∧ SimW G' (σ.addSl xs) w' ∧ Rep G' w' (.hsl σ.next 0 n) v := by
  by_cases h0 : n = 0
  · obtain rfl : xs = [] := List.eq_nil_of_length_eq_zero (by omega)
    rw [hnil h0]
    subst h0
    exact new_nil hw w' hbl none
  obtain ⟨hlen, hrow⟩ := hrow
  rcases hrow with ⟨rfl, h0'⟩ | ⟨g, cap, cur, rfl, hge, hheap, hnc, hcap, hcs, htake⟩
  · exact absurd h0' h0
  · have hl := Le.addSl hw hbl (some (g, 0, s, cap))
    refine ⟨_, hl, hw.addSl _ hbl (fun β q e => by cases e; exact hge) (fun hl => .inr ⟨g, 0, s, cap, cur, t, upd_same _ _ _, hheap, ⟨by omega, by omega⟩, ⟨by omega, by unfold maxLen at hcap; omega⟩, hs, fun i j c u hc hu => ?_⟩), ?_⟩
    · obtain ⟨u', h1, rfl⟩ := hx i j c hc
      obtain ⟨hi, hj, hlt⟩ := rowCell_lt hc hs
      rw [← htake, List.getElem?_take_of_lt (by rw [← hn]; exact hlt), Array.getElem?_toList] at h1
      rw [Nat.zero_add, h1] at hu
      obtain rfl := Option.some.inj hu
      exact .p _
    · have := Rep.hsl (G := G.addSl σ.next (some (g, 0, s, cap))) (w := w') σ.next 0 n g 0 s cap (upd_same _ _ _) (by omega)
      simpa using this
/-! ### in place -/
theorem rowCell_one {xs : List AV} (h : ∀ x ∈ xs, x.cells = [x]) (i j : Nat) : rowCell xs i j = if j = 0 then xs[i]? else none := by
  unfold rowCell
  cases hx : xs[i]? with
  | none => simp
  | some x =>
    simp only [Option.bind_some]
    rw [h x (List.mem_of_getElem? hx)]
    cases j <;> simp
/-! ### the library's contracts -/
end Go.AL
