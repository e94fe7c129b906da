import Derived.Test.YtfpjojjgoelckaaDoorA0
/-! How memory goes on. -/
namespace Go.AL
open Go.RowKit (Below)
set_option linter.unusedVariables false

/-- One block alone may have turned. -/
structure Touch (w w' : World) (β : Nat) : Prop where
  os : w'.os = w.os
  tape : w'.tape = w.tape
  output : w'.output = w.output
  size : w'.heap.size = w.heap.size
  block : ∀ k, k ≠ β → w'.heap[k]? = w.heap[k]?
theorem Touch.refl (w : World) (β : Nat) : Touch w w β := ⟨rfl, rfl, rfl, rfl, fun _ _ => rfl⟩
theorem Touch.trans {w w' w'' : World} {β : Nat} (h : Touch w w' β) (k : Touch w' w'' β) : Touch w w'' β :=
  ⟨k.os.trans h.os, k.tape.trans h.tape, k.output.trans h.output, k.size.trans h.size, fun i hi => (k.block i hi).trans (h.block i hi)⟩
theorem touch_setCell (w : World) (a : Addr) (v : Value) : Touch w (w.setCell a v) a.block :=
  ⟨rfl, rfl, rfl, by simp [World.setCell], fun k hk => by simp only [World.setCell, Array.getElem?_modify]; rw [if_neg (fun e => hk e.symm)]⟩
theorem cell_block {w w' : World} {β o : Nat} (h : w'.heap[β]? = w.heap[β]?) : w'.cell? ⟨β, o, none⟩ = w.cell? ⟨β, o, none⟩ := by
  unfold World.cell?; simp only [h]

theorem Le.touch {G σ w w' β k} (h : SimW G σ w) (ho : Owns G σ β k) (ht : Touch w w' β) : Le G w G w' where
  base := rfl
  bx := fun _ _ e => e
  mp := fun _ _ e => e
  sl := fun _ _ e => e
  st := fun _ _ e => e
  st2 := fun _ _ e => .inl e
  cell := fun γ o e => cell_block (ht.block γ fun hh => (h.own β k ho).2.2 o (hh ▸ e))
  below := ⟨ht.os, ht.tape, ht.output, Nat.le_of_eq ht.size.symm, fun i hi => ht.block i fun hh => by have := (h.own β k ho).1; omega⟩

/-- What is known of the other things stays known. -/
theorem SimW.others {G σ w w' β k} (h : SimW G σ w) (ho : Owns G σ β k) (ht : Touch w w' β) :
    (∀ b cs, σ.bx b = some cs → k ≠ (0, b) → BxOK G w' b cs) ∧ (∀ b cs, σ.mp b = some cs → k ≠ (1, b) → MpOK G w' b cs) ∧ (∀ b cs, σ.sl b = some cs → k ≠ (2, b) → SlOK G w' b cs) := by
  have hl := Le.touch h ho ht
  refine ⟨fun b cs e hk => (h.bx b cs e).mono hl fun γ g => ht.block γ fun hh => ?_, fun b cs e hk => (h.mp b cs e).mono hl fun γ g => ht.block γ fun hh => ?_, fun b cs e hk => (h.sl b cs e).mono hl fun γ r g => ht.block γ fun hh => ?_⟩
  · subst hh; exact hk ((h.own γ k ho).2.1 _ (.bx b γ cs e g)).symm
  · subst hh; exact hk ((h.own γ k ho).2.1 _ (.mp b γ cs e g)).symm
  · subst hh; exact hk ((h.own γ k ho).2.1 _ (.sl b γ r cs e g)).symm

theorem SimW.touch_bx {G σ w w' b cs cs' β arr el} (h : SimW G σ w) (hb : σ.bx b = some cs) (g : G.bx b = some β) (ht : Touch w w' β) (hw : w'.heap[β]? = some (.cells arr el (0, 0)))
    (hs : arr.size = cs'.length) (hr : ∀ (i : Nat) c v, cs'[i]? = some c → arr[i]? = some v → Rep G w c v) : SimW G { σ with bx := upd σ.bx b (some cs') } w' := by
  have ho : Owns G σ β (0, b) := .bx b β cs hb g
  have hl := Le.touch h ho ht
  obtain ⟨o1, o2, o3⟩ := h.others ho ht
  have hown : ∀ γ k, Owns G { σ with bx := upd σ.bx b (some cs') } γ k → Owns G σ γ k := by
    intro γ k hk
    cases hk with
    | bx b' β' cs2 h2 g2 =>
      by_cases e : b' = b
      · subst e; exact .bx _ _ cs hb g2
      · exact .bx _ _ cs2 ((upd_ne _ _ e).symm.trans h2) g2
    | mp b' β' cs2 h2 g2 => exact .mp _ _ cs2 h2 g2
    | sl b' β' r cs2 h2 g2 => exact .sl _ _ r cs2 h2 g2
  refine ⟨h.base.go hl.below, fun b' cs2 e => ?_, fun b' cs2 e => o2 b' cs2 e (by simp), fun b' cs2 e => o3 b' cs2 e (by simp), ?_, fun γ o e => by rw [ht.size]; exact h.stIn γ o e, fun b' hb' => ?_⟩
  · by_cases eb : b' = b
    · subst eb
      obtain rfl := Option.some.inj ((upd_same σ.bx b' (some cs')).symm.trans e)
      exact ⟨β, arr, el, g, hw, hs, fun i c v a b => (hr i c v a b).mono hl⟩
    · exact o1 b' cs2 ((upd_ne _ _ eb).symm.trans e) (by simpa using fun hh => eb hh.symm)
  · intro γ k hk
    exact ⟨(h.own γ k (hown γ k hk)).1, fun k' hk' => (h.own γ k (hown γ k hk)).2.1 k' (hown γ k' hk'), (h.own γ k (hown γ k hk)).2.2⟩
  · obtain ⟨f1, f2, f3, f4, f5, f6⟩ := h.fresh b' hb'
    refine ⟨f1, f2, f3, ?_, f5, f6⟩
    have : b' ≠ b := fun e => by subst e; rw [f4] at hb; cases hb
    exact (upd_ne _ _ this).trans f4

theorem SimW.touch_mp {G σ w w' b cs cs' β} (h : SimW G σ w) (hb : σ.mp b = some cs) (g : G.mp b = some β) (ht : Touch w w' β) (hw : Le G w G w' → MpOK G w' b cs') : SimW G { σ with mp := upd σ.mp b (some cs') } w' := by
  have ho : Owns G σ β (1, b) := .mp b β cs hb g
  have hl := Le.touch h ho ht
  obtain ⟨o1, o2, o3⟩ := h.others ho ht
  have hown : ∀ γ k, Owns G { σ with mp := upd σ.mp b (some cs') } γ k → Owns G σ γ k := by
    intro γ k hk
    cases hk with
    | mp b' β' cs2 h2 g2 =>
      by_cases e : b' = b
      · subst e; exact .mp _ _ cs hb g2
      · exact .mp _ _ cs2 ((upd_ne _ _ e).symm.trans h2) g2
    | bx b' β' cs2 h2 g2 => exact .bx _ _ cs2 h2 g2
    | sl b' β' r cs2 h2 g2 => exact .sl _ _ r cs2 h2 g2
  refine ⟨h.base.go hl.below, fun b' cs2 e => o1 b' cs2 e (by simp), fun b' cs2 e => ?_, fun b' cs2 e => o3 b' cs2 e (by simp), ?_, fun γ o e => by rw [ht.size]; exact h.stIn γ o e, fun b' hb' => ?_⟩
  · by_cases eb : b' = b
    · subst eb
      obtain rfl := Option.some.inj ((upd_same σ.mp b' (some cs')).symm.trans e)
      exact hw hl
    · exact o2 b' cs2 ((upd_ne _ _ eb).symm.trans e) (by simpa using fun hh => eb hh.symm)
  · intro γ k hk
    exact ⟨(h.own γ k (hown γ k hk)).1, fun k' hk' => (h.own γ k (hown γ k hk)).2.1 k' (hown γ k' hk'), (h.own γ k (hown γ k hk)).2.2⟩
  · obtain ⟨f1, f2, f3, f4, f5, f6⟩ := h.fresh b' hb'
    refine ⟨f1, f2, f3, f4, ?_, f6⟩
    have : b' ≠ b := fun e => by subst e; rw [f5] at hb; cases hb
    exact (upd_ne _ _ this).trans f5

theorem SimW.touch_sl {G σ w w' b cs cs' β r} (h : SimW G σ w) (hb : σ.sl b = some cs) (g : G.sl b = some (some (β, r))) (ht : Touch w w' β) (hw : Le G w G w' → SlOK G w' b cs') : SimW G { σ with sl := upd σ.sl b (some cs') } w' := by
  have ho : Owns G σ β (2, b) := .sl b β r cs hb g
  have hl := Le.touch h ho ht
  obtain ⟨o1, o2, o3⟩ := h.others ho ht
  have hown : ∀ γ k, Owns G { σ with sl := upd σ.sl b (some cs') } γ k → Owns G σ γ k := by
    intro γ k hk
    cases hk with
    | sl b' β' r2 cs2 h2 g2 =>
      by_cases e : b' = b
      · subst e; exact .sl _ _ r2 cs hb g2
      · exact .sl _ _ r2 cs2 ((upd_ne _ _ e).symm.trans h2) g2
    | bx b' β' cs2 h2 g2 => exact .bx _ _ cs2 h2 g2
    | mp b' β' cs2 h2 g2 => exact .mp _ _ cs2 h2 g2
  refine ⟨h.base.go hl.below, fun b' cs2 e => o1 b' cs2 e (by simp), fun b' cs2 e => o2 b' cs2 e (by simp), fun b' cs2 e => ?_, ?_, fun γ o e => by rw [ht.size]; exact h.stIn γ o e, fun b' hb' => ?_⟩
  · by_cases eb : b' = b
    · subst eb
      obtain rfl := Option.some.inj ((upd_same σ.sl b' (some cs')).symm.trans e)
      exact hw hl
    · exact o3 b' cs2 ((upd_ne _ _ eb).symm.trans e) (by simpa using fun hh => eb hh.symm)
  · intro γ k hk
    exact ⟨(h.own γ k (hown γ k hk)).1, fun k' hk' => (h.own γ k (hown γ k hk)).2.1 k' (hown γ k' hk'), (h.own γ k (hown γ k hk)).2.2⟩
  · obtain ⟨f1, f2, f3, f4, f5, f6⟩ := h.fresh b' hb'
    refine ⟨f1, f2, f3, f4, f5, ?_⟩
    have : b' ≠ b := fun e => by subst e; rw [f6] at hb; cases hb
    exact (upd_ne _ _ this).trans f6

/-! ### new blocks -/
theorem heap_alloc_new (w : World) (o : Obj) : (w.alloc o).heap[w.heap.size]? = some o := by
  show (w.heap.push o)[w.heap.size]? = _
  simp
theorem below_alloc' (w : World) (o : Obj) : Below w.heap.size w (w.alloc o) := (Below.refl _ _).alloc (Nat.le_refl _) o

/-- The ghost with a new box. -/
def Ghost.addBx (G : Ghost) (n β : Nat) : Ghost := { G with bx := upd G.bx n (some β) }
def Ghost.addMp (G : Ghost) (n β : Nat) : Ghost := { G with mp := upd G.mp n (some β) }
def Ghost.addSl (G : Ghost) (n : Nat) (r : Option (Nat × Nat × Nat × Nat)) : Ghost := { G with sl := upd G.sl n (some r) }
def Ghost.addSt (G : Ghost) (q : Nat → Nat → Prop) : Ghost := { G with st := fun β o => G.st β o ∨ q β o }
def ASt.addBx (σ : ASt) (cs : List AV) : ASt := { σ with bx := upd σ.bx σ.next (some cs), next := σ.next + 1 }
def ASt.addMp (σ : ASt) (es : List (AV × AV)) : ASt := { σ with mp := upd σ.mp σ.next (some es), next := σ.next + 1 }
def ASt.addSl (σ : ASt) (xs : List AV) : ASt := { σ with sl := upd σ.sl σ.next (some xs), next := σ.next + 1 }

theorem Le.addBx {G σ w w'} (h : SimW G σ w) (hb : Below w.heap.size w w') (β : Nat) : Le G w (G.addBx σ.next β) w' where
  base := rfl
  bx := fun b γ e => (upd_ne G.bx (some β) (fun hh => by subst hh; rw [(h.fresh _ (Nat.le_refl _)).1] at e; cases e)).trans e
  mp := fun _ _ e => e
  sl := fun _ _ e => e
  st := fun _ _ e => e
  st2 := fun _ _ e => .inl e
  cell := (Le.grow h hb).cell
  below := hb.mono h.base.le
theorem Le.addMp {G σ w w'} (h : SimW G σ w) (hb : Below w.heap.size w w') (β : Nat) : Le G w (G.addMp σ.next β) w' where
  base := rfl
  mp := fun b γ e => (upd_ne G.mp (some β) (fun hh => by subst hh; rw [(h.fresh _ (Nat.le_refl _)).2.1] at e; cases e)).trans e
  bx := fun _ _ e => e
  sl := fun _ _ e => e
  st := fun _ _ e => e
  st2 := fun _ _ e => .inl e
  cell := (Le.grow h hb).cell
  below := hb.mono h.base.le
theorem Le.addSl {G σ w w'} (h : SimW G σ w) (hb : Below w.heap.size w w') (r : Option (Nat × Nat × Nat × Nat)) : Le G w (G.addSl σ.next r) w' where
  base := rfl
  sl := fun b γ e => (upd_ne G.sl (some r) (fun hh => by subst hh; rw [(h.fresh _ (Nat.le_refl _)).2.2.1] at e; cases e)).trans e
  bx := fun _ _ e => e
  mp := fun _ _ e => e
  st := fun _ _ e => e
  st2 := fun _ _ e => .inl e
  cell := (Le.grow h hb).cell
  below := hb.mono h.base.le
theorem Le.addSt {G σ w w'} (h : SimW G σ w) (hb : Below w.heap.size w w') (q : Nat → Nat → Prop) (hq : ∀ β o, q β o → w.heap.size ≤ β) : Le G w (G.addSt q) w' where
  base := rfl
  bx := fun _ _ e => e
  mp := fun _ _ e => e
  sl := fun _ _ e => e
  st := fun _ _ e => .inl e
  st2 := fun β o e => e.elim .inl fun e => .inr (Nat.le_trans h.base.le (hq β o e))
  cell := (Le.grow h hb).cell
  below := hb.mono h.base.le

theorem SimW.addBx {G σ w w' β cs arr el} (h : SimW G σ w) (hb : Below w.heap.size w w') (hn : w.heap.size ≤ β) (hw : w'.heap[β]? = some (.cells arr el (0, 0)))
    (hs : arr.size = cs.length) (hr : ∀ (i : Nat) c v, cs[i]? = some c → arr[i]? = some v → Rep G w c v) : SimW (G.addBx σ.next β) (σ.addBx cs) w' := by
  have hl := Le.addBx h hb β
  have f0 := h.fresh _ (Nat.le_refl σ.next)
  have hown : ∀ γ k, Owns (G.addBx σ.next β) (σ.addBx cs) γ k → (γ = β ∧ k = (0, σ.next)) ∨ Owns G σ γ k := by
    intro γ k hk
    cases hk with
    | bx b' β' cs2 h2 g2 =>
      by_cases e : b' = σ.next
      · subst e; exact .inl ⟨(Option.some.inj ((upd_same G.bx σ.next (some β)).symm.trans g2)).symm, rfl⟩
      · exact .inr (.bx _ _ cs2 ((upd_ne _ _ e).symm.trans h2) ((upd_ne _ _ e).symm.trans g2))
    | mp b' β' cs2 h2 g2 => exact .inr (.mp _ _ cs2 h2 g2)
    | sl b' β' r cs2 h2 g2 => exact .inr (.sl _ _ r cs2 h2 g2)
  refine ⟨h.base.go hl.below, fun b' cs2 e => ?_, fun b' cs2 e => (h.mp b' cs2 e).mono hl fun γ g => hb.block γ ((h.mp b' cs2 e).lt g), fun b' cs2 e => (h.sl b' cs2 e).mono hl fun γ r g => hb.block γ ((h.sl b' cs2 e).lt g), ?_,
    fun γ o e => Nat.lt_of_lt_of_le (h.stIn γ o e) hb.size, fun b' hb' => ?_⟩
  · by_cases eb : b' = σ.next
    · subst eb
      obtain rfl := Option.some.inj ((upd_same σ.bx σ.next (some cs)).symm.trans e)
      exact ⟨β, arr, el, upd_same _ _ _, hw, hs, fun i c v a b => (hr i c v a b).mono hl⟩
    · have e' : σ.bx b' = some cs2 := (upd_ne _ _ eb).symm.trans e
      exact (h.bx b' cs2 e').mono hl fun γ g => hb.block γ ((h.bx b' cs2 e').lt g)
  · intro γ k hk
    rcases hown γ k hk with ⟨rfl, rfl⟩ | hk
    · refine ⟨Nat.le_trans h.base.le hn, fun k' hk' => ?_, fun o e => ?_⟩
      · rcases hown _ k' hk' with ⟨_, rfl⟩ | hk'
        · rfl
        · have := h.own_lt hk'; omega
      · have := h.stIn _ o e; omega
    · have hlt := h.own_lt hk
      refine ⟨(h.own γ k hk).1, fun k' hk' => ?_, (h.own γ k hk).2.2⟩
      rcases hown _ k' hk' with ⟨rfl, _⟩ | hk'
      · omega
      · exact (h.own γ k hk).2.1 k' hk'
  · have hb2 : σ.next + 1 ≤ b' := hb'
    obtain ⟨f1, f2, f3, f4, f5, f6⟩ := h.fresh b' (by omega)
    have : b' ≠ σ.next := by omega
    exact ⟨(upd_ne _ _ this).trans f1, f2, f3, (upd_ne _ _ this).trans f4, f5, f6⟩
theorem SimW.addMp {G σ w w' β es} (h : SimW G σ w) (hb : Below w.heap.size w w') (hn : w.heap.size ≤ β) (hw : Le G w (G.addMp σ.next β) w' → MpOK (G.addMp σ.next β) w' σ.next es) : SimW (G.addMp σ.next β) (σ.addMp es) w' := by
  have hl := Le.addMp h hb β
  have hown : ∀ γ k, Owns (G.addMp σ.next β) (σ.addMp es) γ k → (γ = β ∧ k = (1, σ.next)) ∨ Owns G σ γ k := by
    intro γ k hk
    cases hk with
    | mp b' β' cs2 h2 g2 =>
      by_cases e : b' = σ.next
      · subst e; exact .inl ⟨(Option.some.inj ((upd_same G.mp σ.next (some β)).symm.trans g2)).symm, rfl⟩
      · exact .inr (.mp _ _ cs2 ((upd_ne _ _ e).symm.trans h2) ((upd_ne _ _ e).symm.trans g2))
    | bx b' β' cs2 h2 g2 => exact .inr (.bx _ _ cs2 h2 g2)
    | sl b' β' r cs2 h2 g2 => exact .inr (.sl _ _ r cs2 h2 g2)
  refine ⟨h.base.go hl.below, fun b' cs2 e => (h.bx b' cs2 e).mono hl fun γ g => hb.block γ ((h.bx b' cs2 e).lt g), fun b' cs2 e => ?_, fun b' cs2 e => (h.sl b' cs2 e).mono hl fun γ r g => hb.block γ ((h.sl b' cs2 e).lt g), ?_,
    fun γ o e => Nat.lt_of_lt_of_le (h.stIn γ o e) hb.size, fun b' hb' => ?_⟩
  · by_cases eb : b' = σ.next
    · subst eb
      obtain rfl := Option.some.inj ((upd_same σ.mp σ.next (some es)).symm.trans e)
      exact hw hl
    · have e' : σ.mp b' = some cs2 := (upd_ne _ _ eb).symm.trans e
      exact (h.mp b' cs2 e').mono hl fun γ g => hb.block γ ((h.mp b' cs2 e').lt g)
  · intro γ k hk
    rcases hown γ k hk with ⟨rfl, rfl⟩ | hk
    · refine ⟨Nat.le_trans h.base.le hn, fun k' hk' => ?_, fun o e => ?_⟩
      · rcases hown _ k' hk' with ⟨_, rfl⟩ | hk'
        · rfl
        · have := h.own_lt hk'; omega
      · have := h.stIn _ o e; omega
    · have hlt := h.own_lt hk
      refine ⟨(h.own γ k hk).1, fun k' hk' => ?_, (h.own γ k hk).2.2⟩
      rcases hown _ k' hk' with ⟨rfl, _⟩ | hk'
      · omega
      · exact (h.own γ k hk).2.1 k' hk'
  · have hb2 : σ.next + 1 ≤ b' := hb'
    obtain ⟨f1, f2, f3, f4, f5, f6⟩ := h.fresh b' (by omega)
    have : b' ≠ σ.next := by omega
    exact ⟨f1, (upd_ne _ _ this).trans f2, f3, f4, (upd_ne _ _ this).trans f5, f6⟩
theorem SimW.addSl {G σ w w' xs} (r : Option (Nat × Nat × Nat × Nat)) (h : SimW G σ w) (hb : Below w.heap.size w w') (hn : ∀ β q, r = some (β, q) → w.heap.size ≤ β)
    (hw : Le G w (G.addSl σ.next r) w' → SlOK (G.addSl σ.next r) w' σ.next xs) : SimW (G.addSl σ.next r) (σ.addSl xs) w' := by
  have hl := Le.addSl h hb r
  have hown : ∀ γ k, Owns (G.addSl σ.next r) (σ.addSl xs) γ k → (w.heap.size ≤ γ ∧ k = (2, σ.next)) ∨ Owns G σ γ k := by
    intro γ k hk
    cases hk with
    | sl b' β' q cs2 h2 g2 =>
      by_cases e : b' = σ.next
      · subst e; exact .inl ⟨hn _ _ (Option.some.inj ((upd_same G.sl σ.next (some r)).symm.trans g2)), rfl⟩
      · exact .inr (.sl _ _ q cs2 ((upd_ne _ _ e).symm.trans h2) ((upd_ne _ _ e).symm.trans g2))
    | bx b' β' cs2 h2 g2 => exact .inr (.bx _ _ cs2 h2 g2)
    | mp b' β' cs2 h2 g2 => exact .inr (.mp _ _ cs2 h2 g2)
  refine ⟨h.base.go hl.below, fun b' cs2 e => (h.bx b' cs2 e).mono hl fun γ g => hb.block γ ((h.bx b' cs2 e).lt g), fun b' cs2 e => (h.mp b' cs2 e).mono hl fun γ g => hb.block γ ((h.mp b' cs2 e).lt g), fun b' cs2 e => ?_, ?_,
    fun γ o e => Nat.lt_of_lt_of_le (h.stIn γ o e) hb.size, fun b' hb' => ?_⟩
  · by_cases eb : b' = σ.next
    · subst eb
      obtain rfl := Option.some.inj ((upd_same σ.sl σ.next (some xs)).symm.trans e)
      exact hw hl
    · have e' : σ.sl b' = some cs2 := (upd_ne _ _ eb).symm.trans e
      exact (h.sl b' cs2 e').mono hl fun γ q g => hb.block γ ((h.sl b' cs2 e').lt g)
  · intro γ k hk
    rcases hown γ k hk with ⟨hge, rfl⟩ | hk
    · refine ⟨Nat.le_trans h.base.le hge, fun k' hk' => ?_, fun o e => ?_⟩
      · rcases hown _ k' hk' with ⟨_, rfl⟩ | hk'
        · rfl
        · have := h.own_lt hk'; omega
      · have := h.stIn _ o e; omega
    · have hlt := h.own_lt hk
      refine ⟨(h.own γ k hk).1, fun k' hk' => ?_, (h.own γ k hk).2.2⟩
      rcases hown _ k' hk' with ⟨hge, _⟩ | hk'
      · omega
      · exact (h.own γ k hk).2.1 k' hk'
  · have hb2 : σ.next + 1 ≤ b' := hb'
    obtain ⟨f1, f2, f3, f4, f5, f6⟩ := h.fresh b' (by omega)
    have : b' ≠ σ.next := by omega
    exact ⟨f1, f2, (upd_ne _ _ this).trans f3, f4, f5, (upd_ne _ _ this).trans f6⟩
/-- New blocks, some of whose cells stay as they are. -/
theorem SimW.addSt {G σ w w'} (h : SimW G σ w) (hb : Below w.heap.size w w') (q : Nat → Nat → Prop) (hq : ∀ β o, q β o → w.heap.size ≤ β ∧ β < w'.heap.size) : SimW (G.addSt q) σ w' := by
  have hl := Le.addSt h hb q fun β o e => (hq β o e).1
  have hown : ∀ γ k, Owns (G.addSt q) σ γ k → Owns G σ γ k := by
    intro γ k hk
    cases hk with
    | bx b' β' cs2 h2 g2 => exact .bx _ _ cs2 h2 g2
    | mp b' β' cs2 h2 g2 => exact .mp _ _ cs2 h2 g2
    | sl b' β' r cs2 h2 g2 => exact .sl _ _ r cs2 h2 g2
  refine ⟨h.base.go hl.below, fun b cs e => (h.bx b cs e).mono hl fun γ g => hb.block γ ((h.bx b cs e).lt g), fun b cs e => (h.mp b cs e).mono hl fun γ g => hb.block γ ((h.mp b cs e).lt g),
    fun b cs e => (h.sl b cs e).mono hl fun γ r g => hb.block γ ((h.sl b cs e).lt g), fun γ k hk => ?_, fun γ o e => ?_, h.fresh⟩
  · have hk := hown γ k hk
    refine ⟨(h.own γ k hk).1, fun k' hk' => (h.own γ k hk).2.1 k' (hown _ _ hk'), fun o e => ?_⟩
    rcases e with e | e
    · exact (h.own γ k hk).2.2 o e
    · have := (hq _ _ e).1; have := h.own_lt hk; omega
  · rcases e with e | e
    · exact Nat.lt_of_lt_of_le (h.stIn γ o e) hb.size
    · exact (hq _ _ e).2

/-! ### forgetting -/
/-- Fewer things are known. -/
structure ASt.Le (τ σ : ASt) : Prop where
  bx : ∀ b cs, τ.bx b = some cs → σ.bx b = some cs
  mp : ∀ b cs, τ.mp b = some cs → σ.mp b = some cs
  sl : ∀ b cs, τ.sl b = some cs → σ.sl b = some cs
  next : σ.next ≤ τ.next
theorem SimW.less {G σ τ w} (h : SimW G σ w) (l : τ.Le σ) : SimW G τ w := by
  have hown : ∀ γ k, Owns G τ γ k → Owns G σ γ k := by
    intro γ k hk
    cases hk with
    | bx b' β' cs2 h2 g2 => exact .bx _ _ cs2 (l.bx _ _ h2) g2
    | mp b' β' cs2 h2 g2 => exact .mp _ _ cs2 (l.mp _ _ h2) g2
    | sl b' β' r cs2 h2 g2 => exact .sl _ _ r cs2 (l.sl _ _ h2) g2
  refine ⟨h.base, fun b cs e => h.bx b cs (l.bx b cs e), fun b cs e => h.mp b cs (l.mp b cs e), fun b cs e => h.sl b cs (l.sl b cs e), fun γ k hk => ?_, h.stIn, fun b hb => ?_⟩
  · exact ⟨(h.own γ k (hown _ _ hk)).1, fun k' hk' => (h.own γ k (hown _ _ hk)).2.1 k' (hown _ _ hk'), (h.own γ k (hown _ _ hk)).2.2⟩
  · obtain ⟨f1, f2, f3, f4, f5, f6⟩ := h.fresh b (Nat.le_trans l.next hb)
    refine ⟨f1, f2, f3, ?_, ?_, ?_⟩
    · cases e : τ.bx b with
      | none => rfl
      | some cs => rw [l.bx b cs e] at f4; cases f4
    · cases e : τ.mp b with
      | none => rfl
      | some cs => rw [l.mp b cs e] at f5; cases f5
    · cases e : τ.sl b with
      | none => rfl
      | some cs => rw [l.sl b cs e] at f6; cases f6
end Go.AL
