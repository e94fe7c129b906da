/- Parts of the proof of ArenaStays: the logic, contracts, plain laws. -/
import Derived.Test.YtofopejmidlceaaDoorZArenaStays9
/-! A call that works on some of what is known, under other numbers: the rest stays as it is. -/
namespace Go.AL
open Go.RowKit (Below)
set_option linter.unusedVariables false
set_option linter.unusedSimpArgs false
variable {P : Program} {σ : ASt}
mutual
/-- The same, by other numbers. -/
def ren (ρ : Nat → Nat) : AV → AV
  | .p x => .p x
  | .agg cs => .agg (rens ρ cs)
  | .tup cs => .tup (rens ρ cs)
  | .ptr b off => .ptr (ρ b) off
  | .vsl xs => .vsl (rens ρ xs)
  | .vel xs i off => .vel (rens ρ xs) i off
  | .hsl b off len => .hsl (ρ b) off len
  | .hel b i off => .hel (ρ b) i off
  | .map m => .map (ρ m)
  | .it m => .it (ρ m)
  | .yld m => .yld (ρ m)
  | .vmp ks vs => .vmp (rens ρ ks) (rens ρ vs)
  | .ob o => .ob o
  | .fn f aa bs => .fn f (rens ρ aa) (rens ρ bs)
  | .ifc t v => .ifc t (ren ρ v)
  | .opt b v => .opt b (ren ρ v)
  | .any => .any
def rens (ρ : Nat → Nat) : List AV → List AV
  | [] => []
  | x :: xs => ren ρ x :: rens ρ xs
end
theorem rens_map (ρ : Nat → Nat) : ∀ l, rens ρ l = l.map (ren ρ)
  | [] => rfl
  | x :: xs => by rw [rens, rens_map ρ xs]; rfl
theorem rens_get (ρ : Nat → Nat) (l : List AV) (i : Nat) : (rens ρ l)[i]? = (l[i]?).map (ren ρ) := by rw [rens_map, List.getElem?_map]
theorem ren_cells (ρ : Nat → Nat) (x : AV) : (ren ρ x).cells = rens ρ x.cells := by
  cases x <;> simp [ren, AV.cells, rens]
theorem ren_rowCell (ρ : Nat → Nat) (xs : List AV) (i j : Nat) : rowCell (rens ρ xs) i j = (rowCell xs i j).map (ren ρ) := by
  unfold rowCell
  rw [rens_get]
  cases xs[i]? with
  | none => rfl
  | some x => simp only [Option.map_some, Option.bind_some, ren_cells, rens_get]
theorem rens_len (ρ : Nat → Nat) (l : List AV) : (rens ρ l).length = l.length := by rw [rens_map, List.length_map]
theorem ren_closed (ρ : Nat → Nat) : ∀ {x : AV}, Cl x → ren ρ x = x := by
  have key : ∀ l : List AV, (∀ c ∈ l, Cl c → ren ρ c = c) → (∀ c ∈ l, Cl c) → rens ρ l = l := fun l h1 h2 => by
    rw [rens_map]; conv => rhs; rw [← List.map_id l]
    exact List.map_congr_left fun c hc => h1 c hc (h2 c hc)
  intro x h
  induction h with
  | p x => rfl
  | agg cs h ih => simp only [ren]; rw [key cs (fun c hc _ => ih c hc) h]
  | tup cs h ih => simp only [ren]; rw [key cs (fun c hc _ => ih c hc) h]
  | vsl cs h ih => simp only [ren]; rw [key cs (fun c hc _ => ih c hc) h]
  | vel cs i off h ih => simp only [ren]; rw [key cs (fun c hc _ => ih c hc) h]
  | fn f aa bs h1 h2 ih1 ih2 => simp only [ren]; rw [key aa (fun c hc _ => ih1 c hc) h1, key bs (fun c hc _ => ih2 c hc) h2]
  | ifc t v h ih => simp only [ren]; rw [ih]
  | opt b v h ih => simp only [ren]; rw [ih]
  | any => rfl
  | ob o => rfl
  | vmp ks vs h1 h2 ih1 ih2 => simp only [ren]; rw [key ks (fun c hc _ => ih1 c hc) h1, key vs (fun c hc _ => ih2 c hc) h2]
/-- What is so by one ghost is so by another that has the same things under other numbers. -/
theorem Rep.ren_to {G G' : Ghost} {w : World} {ρ : Nat → Nat} (hb : ∀ i β, G.bx i = some β → G'.bx (ρ i) = some β) (hm : ∀ i β, G.mp i = some β → G'.mp (ρ i) = some β) (hs : ∀ i r, G.sl i = some r → G'.sl (ρ i) = some r)
    (hst : ∀ β o, G.st β o → (∃ v, w.cell? ⟨β, o, none⟩ = some v) ∨ o = 0 → G'.st β o) {x : AV} {v : Value} (h : Rep G w x v) : Rep G' w (ren ρ x) v := by
  induction h with
  | p x => exact .p x
  | agg cs vs hsz _ ih =>
    exact .agg _ vs (by rw [rens_len]; exact hsz) fun i c v hc hv => by
      rw [rens_get] at hc; obtain ⟨c', hc', rfl⟩ := Option.map_eq_some_iff.1 hc; exact ih i c' v hc' hv
  | tup cs vs hsz _ ih =>
    exact .tup _ vs (by rw [rens_len]; exact hsz) fun i c v hc hv => by
      rw [rens_get] at hc; obtain ⟨c', hc', rfl⟩ := Option.map_eq_some_iff.1 hc; exact ih i c' v hc' hv
  | ptr b off β h => exact .ptr _ off β (hb _ _ h)
  | vnil a cap => exact .vnil a cap
  | vsl xs β o s cap val hcap hsz h _ ih =>
    have := Rep.vsl (G := G') (w := w) (rens ρ xs) β o s cap val (by rw [rens_len]; exact hcap) (fun i x hx => by
      rw [rens_get] at hx; obtain ⟨c', hc', rfl⟩ := Option.map_eq_some_iff.1 hx; rw [ren_cells, rens_len]; exact hsz i c' hc') (fun i j c hc => by
      rw [ren_rowCell] at hc; obtain ⟨c', hc', rfl⟩ := Option.map_eq_some_iff.1 hc
      exact ⟨hst _ _ (h i j c' hc').1 (.inl ⟨_, (h i j c' hc').2⟩), (h i j c' hc').2⟩) (fun i j c hc => by
      rw [ren_rowCell] at hc; obtain ⟨c', hc', rfl⟩ := Option.map_eq_some_iff.1 hc
      exact ih i j c' hc')
    rw [rens_len] at this
    exact this
  | vel xs i off β o s val hsz h _ ih =>
    exact Rep.vel (G := G') (w := w) (rens ρ xs) i off β o s val (fun i x hx => by
      rw [rens_get] at hx; obtain ⟨c', hc', rfl⟩ := Option.map_eq_some_iff.1 hx; rw [ren_cells, rens_len]; exact hsz i c' hc') (fun i j c hc => by
      rw [ren_rowCell] at hc; obtain ⟨c', hc', rfl⟩ := Option.map_eq_some_iff.1 hc
      exact ⟨hst _ _ (h i j c' hc').1 (.inl ⟨_, (h i j c' hc').2⟩), (h i j c' hc').2⟩) (fun i j c hc => by
      rw [ren_rowCell] at hc; obtain ⟨c', hc', rfl⟩ := Option.map_eq_some_iff.1 hc
      exact ih i j c' hc')
  | hsl b off len β o s cap h hle => exact .hsl _ off len β o s cap (hs _ _ h) hle
  | hend b off a β o s cap h hle => exact .hend _ off a β o s cap (hs _ _ h) hle
  | hnil b a h => exact .hnil _ a (hs _ _ h)
  | hel b i off β o s cap h => exact .hel _ i off β o s cap (hs _ _ h)
  | map m μ h => exact .map _ μ (hm _ _ h)
  | it m μ h => exact .it _ μ (hm _ _ h)
  | yld m μ h => exact .yld _ μ (hm _ _ h)
  | vmp ks vs μ clock ents h1 h2 h3 h4 _ _ h7 h8 ih5 ih6 =>
    exact .vmp _ _ μ clock ents (hst _ _ h1 (.inr rfl)) h2 (by rw [rens_len]; exact h3) (by rw [rens_len]; exact h4) (fun i c e hc he => by
      rw [rens_get] at hc; obtain ⟨c', hc', rfl⟩ := Option.map_eq_some_iff.1 hc; exact ih5 i c' e hc' he) (fun i c e hc he => by
      rw [rens_get] at hc; obtain ⟨c', hc', rfl⟩ := Option.map_eq_some_iff.1 hc; exact ih6 i c' e hc' he) h7 h8
  | fn f aa bs us vs h1 h2 _ _ ih3 ih4 =>
    exact .fn f _ _ us vs (by rw [rens_len]; exact h1) (by rw [rens_len]; exact h2) (fun i c v hc hv => by
      rw [rens_get] at hc; obtain ⟨c', hc', rfl⟩ := Option.map_eq_some_iff.1 hc; exact ih3 i c' v hc' hv) (fun i c v hc hv => by
      rw [rens_get] at hc; obtain ⟨c', hc', rfl⟩ := Option.map_eq_some_iff.1 hc; exact ih4 i c' v hc' hv)
  | ifc t c v _ ih => exact .ifc t _ v ih
  | opt b c v _ h0 ih => exact .opt b _ v ih h0
  | any v => exact .any v
/-- And back. -/
theorem Rep.ren_of {G G' : Ghost} {w : World} {ρ : Nat → Nat} (hb : ∀ i, G.bx i = G'.bx (ρ i)) (hm : ∀ i, G.mp i = G'.mp (ρ i)) (hs : ∀ i, G.sl i = G'.sl (ρ i)) (hst : ∀ β o, G'.st β o → G.st β o) :
    ∀ (n : Nat) (x : AV), SizeOf.sizeOf x ≤ n → ∀ v, Rep G' w (ren ρ x) v → Rep G w x v := by
  intro n
  induction n with
  | zero => intro x hx; cases x <;> simp at hx
  | succ n ih =>
    intro x hx v h
    have mem : ∀ {l : List AV} {i : Nat} {c : AV}, l[i]? = some c → SizeOf.sizeOf c < SizeOf.sizeOf l := fun {l i c} hc => List.sizeOf_lt_of_mem (List.mem_of_getElem? hc)
    have memc : ∀ {l : List AV} {i j : Nat} {c : AV}, rowCell l i j = some c → SizeOf.sizeOf c ≤ SizeOf.sizeOf l := fun {l i j c} hc => by
      unfold rowCell at hc
      obtain ⟨y, h1, h2⟩ := Option.bind_eq_some_iff.1 hc
      have h3 := mem h1
      cases y <;> simp only [AV.cells] at h2 <;> first
        | (have h4 := mem h2; simp at h3 h4; omega)
        | (rcases j with _ | j
           · cases h2; omega
           · simp at h2)
    cases x with
    | p y => exact (by cases h; exact .p _)
    | agg cs =>
      simp only [ren] at h
      simp at hx
      cases h with
      | agg _ vs hsz hr => exact .agg cs vs (by rw [rens_len] at hsz; exact hsz) fun i c u hc hu => ih c (by have := mem hc; omega) u (hr i (ren ρ c) u (by rw [rens_get, hc]; rfl) hu)
    | tup cs =>
      simp only [ren] at h
      simp at hx
      cases h with
      | tup _ vs hsz hr => exact .tup cs vs (by rw [rens_len] at hsz; exact hsz) fun i c u hc hu => ih c (by have := mem hc; omega) u (hr i (ren ρ c) u (by rw [rens_get, hc]; rfl) hu)
    | ptr b off => cases h with | ptr _ _ β e => exact .ptr b off β (by rw [hb]; exact e)
    | vsl xs =>
      simp only [ren] at h
      simp at hx
      generalize hy : rens ρ xs = ys at h
      cases h with
      | vnil a cap =>
        have : xs = [] := by cases xs with | nil => rfl | cons => simp [rens] at hy
        subst this; exact .vnil a cap
      | vsl _ β o s cap val hcap hsz hc hr =>
        subst hy
        rw [rens_len] at hcap ⊢
        exact .vsl xs β o s cap val hcap (fun i x hx => by
          have := hsz i (ren ρ x) (by rw [rens_get, hx]; rfl)
          rw [ren_cells, rens_len] at this; exact this) (fun i j c e => by
          have := hc i j (ren ρ c) (by rw [ren_rowCell, e]; rfl)
          exact ⟨hst _ _ this.1, this.2⟩) (fun i j c e => ih c (by have := memc e; omega) _ (hr i j (ren ρ c) (by rw [ren_rowCell, e]; rfl)))
    | vel xs i off =>
      simp only [ren] at h
      simp at hx
      cases h with
      | vel _ _ _ β o s val hsz hc hr =>
        exact .vel xs i off β o s val (fun i x hx => by
          have := hsz i (ren ρ x) (by rw [rens_get, hx]; rfl)
          rw [ren_cells, rens_len] at this; exact this) (fun i j c e => by
          have := hc i j (ren ρ c) (by rw [ren_rowCell, e]; rfl)
          exact ⟨hst _ _ this.1, this.2⟩) (fun i j c e => ih c (by have := memc e; omega) _ (hr i j (ren ρ c) (by rw [ren_rowCell, e]; rfl)))
    | hsl b off len =>
      simp only [ren] at h
      cases h with
      | hsl _ _ _ β o s cap e hle => exact .hsl b off len β o s cap (by rw [hs]; exact e) hle
      | hend _ _ a β o s cap e hle => exact .hend b off a β o s cap (by rw [hs]; exact e) hle
      | hnil _ a e => exact .hnil b a (by rw [hs]; exact e)
    | hel b i off => cases h with | hel _ _ _ β o s cap e => exact .hel b i off β o s cap (by rw [hs]; exact e)
    | map m => cases h with | map _ μ e => exact .map m μ (by rw [hm]; exact e)
    | it m => cases h with | it _ μ e => exact .it m μ (by rw [hm]; exact e)
    | yld m => cases h with | yld _ μ e => exact .yld m μ (by rw [hm]; exact e)
    | ob o => cases h
    | vmp ks vs =>
      simp only [ren] at h
      simp at hx
      cases h with
      | vmp _ _ μ clock ents h1 h2 h3 h4 h5 h6 h7 h8 =>
        exact .vmp ks vs μ clock ents (hst _ _ h1) h2 (by rw [rens_len] at h3; exact h3) (by rw [rens_len] at h4; exact h4) (fun i c e hc he => ih c (by have := mem hc; omega) _ (h5 i (ren ρ c) e (by rw [rens_get, hc]; rfl) he)) (fun i c e hc he => ih c (by have := mem hc; omega) _ (h6 i (ren ρ c) e (by rw [rens_get, hc]; rfl) he)) h7 h8
    | fn f aa bs =>
      simp only [ren] at h
      simp at hx
      cases h with
      | fn _ _ _ us vs h1 h2 h3 h4 =>
        exact .fn f aa bs us vs (by rw [rens_len] at h1; exact h1) (by rw [rens_len] at h2; exact h2) (fun i c u hc hu => ih c (by have := mem hc; omega) u (h3 i (ren ρ c) u (by rw [rens_get, hc]; rfl) hu))
          (fun i c u hc hu => ih c (by have := mem hc; omega) u (h4 i (ren ρ c) u (by rw [rens_get, hc]; rfl) hu))
    | ifc t c =>
      simp only [ren] at h
      simp at hx
      cases h with | ifc _ _ u e => exact .ifc t c u (ih c (by omega) u e)
    | opt b c =>
      simp only [ren] at h
      simp at hx
      cases h with | opt _ _ u e e0 => exact .opt b c v (fun hb => ih c (by omega) v (e hb)) e0
    | any => exact .any v
end Go.AL
/-! A call by a contract over some of what is known, under other numbers. -/
namespace Go.AL
open Go.RowKit (Below)
set_option linter.unusedVariables false
set_option linter.unusedSimpArgs false
variable {P : Program} {σ : ASt}
def ridx (ids : List Nat) (n i : Nat) : Nat := if i < ids.length then ids.getD i 0 else n + (i - ids.length)
def rfind (b : Nat) : List Nat → Nat → Option Nat
  | [], _ => none
  | x :: l, i => if b = x then some i else rfind b l (i + 1)
def rinv (ids : List Nat) (n b : Nat) : Option Nat := if n ≤ b then some (ids.length + (b - n)) else rfind b ids 0
theorem rfind_some {b : Nat} : ∀ {l : List Nat} {i j : Nat}, rfind b l i = some j → i ≤ j ∧ l[j - i]? = some b
  | [], _, _, h => by cases h
  | x :: l, i, j, h => by
    unfold rfind at h
    split at h
    · rename_i hb; obtain rfl := Option.some.inj h; simp [hb]
    · obtain ⟨h1, h2⟩ := rfind_some h
      refine ⟨by omega, ?_⟩
      rw [show j - i = (j - (i + 1)) + 1 by omega, List.getElem?_cons_succ]; exact h2
theorem rfind_none {b : Nat} : ∀ {l : List Nat} {i : Nat}, rfind b l i = none → b ∉ l
  | [], _, _ => by simp
  | x :: l, i, h => by
    unfold rfind at h
    split at h
    · cases h
    · rename_i hb; simp only [List.mem_cons, not_or]; exact ⟨hb, rfind_none h⟩
theorem rinv_ridx {ids : List Nat} {n b i : Nat} (h : rinv ids n b = some i) : ridx ids n i = b := by
  unfold rinv at h
  unfold ridx
  split at h
  · obtain rfl := Option.some.inj h
    rw [if_neg (by omega)]; omega
  · obtain ⟨_, h2⟩ := rfind_some h
    simp only [Nat.sub_zero] at h2
    rw [if_pos (List.getElem?_eq_some_iff.1 h2).1, List.getD, h2]; rfl
theorem ridx_rinv {ids : List Nat} {n : Nat} (hlt : ∀ b ∈ ids, b < n) (hnd : ids.Nodup) (i : Nat) : rinv ids n (ridx ids n i) = some i := by
  unfold ridx
  split
  · rename_i hi
    have hm : ids.getD i 0 ∈ ids := by rw [List.getD, List.getElem?_eq_getElem hi]; exact List.getElem_mem hi
    unfold rinv
    rw [if_neg (by have := hlt _ hm; omega)]
    cases hf : rfind (ids.getD i 0) ids 0 with
    | none => exact absurd hm (rfind_none hf)
    | some j =>
      obtain ⟨_, h2⟩ := rfind_some hf
      simp only [Nat.sub_zero] at h2
      obtain ⟨hj, he⟩ := List.getElem?_eq_some_iff.1 h2
      rw [List.getD, List.getElem?_eq_getElem hi] at he
      congr 1
      have hp := List.pairwise_iff_getElem.1 hnd
      rcases Nat.lt_trichotomy j i with hlt' | e | hlt'
      · exact absurd he (hp j i hj hi hlt')
      · exact e
      · exact absurd he.symm (hp i j hi hj hlt')
  · unfold rinv
    rw [if_pos (by omega)]; congr 1; omega
theorem rinv_none {ids : List Nat} {n b : Nat} (h : rinv ids n b = none) : b < n ∧ b ∉ ids := by
  unfold rinv at h
  split at h
  · cases h
  · exact ⟨by omega, rfind_none h⟩
def renE (ρ : Nat → Nat) (p : AV × AV) : AV × AV := (ren ρ p.1, ren ρ p.2)
/-- What is known behind such a call. -/
def back (σ : ASt) (ids : List Nat) (τ : ASt) : ASt where
  bx b := match rinv ids σ.next b with | some i => (τ.bx i).map (rens (ridx ids σ.next)) | none => σ.bx b
  mp b := match rinv ids σ.next b with | some i => (τ.mp i).map (List.map (renE (ridx ids σ.next))) | none => σ.mp b
  sl b := match rinv ids σ.next b with | some i => (τ.sl i).map (rens (ridx ids σ.next)) | none => σ.sl b
  next := σ.next + (τ.next - ids.length)
theorem ren_noV {ρ : Nat → Nat} {a : AV} (h : ren ρ a = noV) : a = noV := by
  cases a <;> simp only [ren, noV, reduceCtorEq, AV.vsl.injEq] at h
  rename_i xs
  match xs, h with
  | [y1, y2], h =>
    simp only [rens, List.cons.injEq, and_true] at h
    obtain ⟨h1, h2⟩ := h
    cases y1 <;> simp only [ren, reduceCtorEq, AV.agg.injEq] at h1
    cases y2 <;> simp only [ren, reduceCtorEq, AV.agg.injEq] at h2
    rename_i l1 l2
    cases l1 <;> simp only [rens, reduceCtorEq] at h1
    match l2, h2 with
    | [z], h2 =>
      simp only [rens, List.cons.injEq, and_true] at h2
      cases z <;> simp only [ren, reduceCtorEq] at h2
      rfl
    | [], h2 => simp [rens] at h2
    | _ :: _ :: _, h2 => simp [rens] at h2
  | [], h => simp [rens] at h
  | [_], h => simp [rens] at h
  | _ :: _ :: _ :: _, h => simp [rens] at h
theorem renE_obE {ρ : Nat → Nat} {es : List (AV × AV)} {o : Obj} {fr : List AV} (h : es.map (renE ρ) = obE o fr) : ∃ fr0, es = obE o fr0 ∧ fr = rens ρ fr0 := by
  unfold obE at h ⊢
  match es, h with
  | [(a, b)], h =>
    simp only [List.map_cons, List.map_nil, renE, List.cons.injEq, Prod.mk.injEq, and_true] at h
    obtain ⟨h1, h2⟩ := h
    rw [ren_noV h1]
    cases b <;> simp only [ren, reduceCtorEq, AV.tup.injEq] at h2
    rename_i l
    match l, h2 with
    | [c, d], h2 =>
      simp only [rens, List.cons.injEq, and_true] at h2
      obtain ⟨h3, h4⟩ := h2
      cases c <;> simp only [ren, reduceCtorEq, AV.ob.injEq] at h3
      cases d <;> simp only [ren, reduceCtorEq, AV.agg.injEq] at h4
      rename_i fr0
      exact ⟨fr0, by rw [h3], h4.symm⟩
    | [], h2 => simp [rens] at h2
    | [_], h2 => simp [rens] at h2
    | _ :: _ :: _ :: _, h2 => simp [rens] at h2
  | [], h => simp at h
  | _ :: _ :: _, h => simp at h
theorem obE_ren (ρ : Nat → Nat) (o : Obj) (fr : List AV) : (obE o fr).map (renE ρ) = obE o (rens ρ fr) := by
  simp [obE, renE, ren, rens, noV]
theorem ObR.of {G G' : Ghost} {w w' : World} {f : AV → AV} {o : Obj} {fr : List AV} (hr : ∀ x v, Rep G w (f x) v → Rep G' w' x v) (h : ObR G w o (fr.map f)) : ObR G' w' o fr := by
  cases o <;> first
    | (simpa [ObR] using h)
    | exact ⟨by have := h.1; simpa using this, fun i c v a b => hr _ _ (h.2 i (f c) v (by rw [List.getElem?_map, a]; rfl) b)⟩
theorem ObR.to {G G' : Ghost} {w w' : World} {f : AV → AV} {o : Obj} {fr : List AV} (hr : ∀ x ∈ fr, ∀ v, Rep G w x v → Rep G' w' (f x) v) (h : ObR G w o fr) : ObR G' w' o (fr.map f) := by
  cases o <;> first
    | (simpa [ObR] using h)
    | exact ⟨by have := h.1; simpa using this, fun i c v a b => by
        rw [List.getElem?_map] at a
        obtain ⟨c', hc', rfl⟩ := Option.map_eq_some_iff.1 a
        exact hr _ (List.mem_of_getElem? hc') _ (h.2 i c' v hc' b)⟩
theorem cell_out (w : World) (β : Nat) : ∃ o, w.cell? ⟨β, o, none⟩ = none ∧ o ≠ 0 := by
  cases h : w.heap[β]? with
  | none => exact ⟨1, by unfold World.cell?; simp [h], by decide⟩
  | some ob =>
    cases ob with
    | cells arr el fz => exact ⟨arr.size + 1, by rw [cell_of_heap h]; simp, by omega⟩
    | _ => exact ⟨1, by unfold World.cell?; simp [h], by decide⟩
theorem frame_core {args : List AV} {σc : ASt} (ids : List Nat) (hk : σc.next = ids.length) (hok : σc.Ok) (hlt : ∀ b ∈ ids, b < σ.next) (hnd : ids.Nodup)
    (hb : ∀ i cs, σc.bx i = some cs → σ.bx (ridx ids σ.next i) = some (rens (ridx ids σ.next) cs)) (hm : ∀ i es, σc.mp i = some es → σ.mp (ridx ids σ.next i) = some (es.map (renE (ridx ids σ.next))))
    (hs : ∀ i xs, σc.sl i = some xs → σ.sl (ridx ids σ.next i) = some (rens (ridx ids σ.next) xs)) {G : Ghost} {w : World} {vs : Array Value} (hv : RepL G w (rens (ridx ids σ.next) args) vs.toList) (hw : SimW G σ w) :
    ∃ Gc : Ghost, SimW Gc σc w ∧ RepL Gc w args vs.toList ∧ (∀ i, Gc.mp i = G.mp (ridx ids σ.next i)) ∧
      ∀ (R : AV → ASt → Prop) v w1, Outc Gc w R v w1 → Outc G w (fun r σ' => ∃ rc τ, R rc τ ∧ r = ren (ridx ids σ.next) rc ∧ σ' = back σ ids τ) v w1 := by
  obtain ⟨ρ, hρ⟩ : ∃ ρ, ρ = ridx ids σ.next := ⟨_, rfl⟩
  rw [← hρ] at hb hm hs hv ⊢
  have hri : ∀ i, rinv ids σ.next (ρ i) = some i := fun i => by rw [hρ]; exact ridx_rinv hlt hnd i
  have hir : ∀ {b i}, rinv ids σ.next b = some i → ρ i = b := fun h => by rw [hρ]; exact rinv_ridx h
  have hinj : ∀ i j, ρ i = ρ j → i = j := fun i j e => by have h1 := hri i; rw [e, hri j] at h1; exact (Option.some.inj h1).symm
  have hge : ∀ i, ids.length ≤ i → σ.next ≤ ρ i := fun i hi => by rw [hρ]; unfold ridx; rw [if_neg (by omega)]; omega
  have hids : ∀ i, i < ids.length → ρ i ∈ ids := fun i hi => by
    rw [hρ]; unfold ridx; rw [if_pos hi, List.getD, List.getElem?_eq_getElem hi]; exact List.getElem_mem hi
  obtain ⟨q, hq⟩ : ∃ q : Nat → Prop, q = fun β => ∃ kk, Owns G σ β kk ∧ kk.2 ∉ ids := ⟨_, rfl⟩
  obtain ⟨Gc, hGc⟩ : ∃ Gc : Ghost, Gc = ⟨G.base, fun β o => G.st β o ∨ (q β ∧ w.cell? ⟨β, o, none⟩ = none ∧ o ≠ 0), fun i => G.bx (ρ i), fun i => G.mp (ρ i), fun i => G.sl (ρ i)⟩ := ⟨_, rfl⟩
  have cbx : ∀ i, Gc.bx i = G.bx (ρ i) := fun i => by rw [hGc]
  have cmp : ∀ i, Gc.mp i = G.mp (ρ i) := fun i => by rw [hGc]
  have csl : ∀ i, Gc.sl i = G.sl (ρ i) := fun i => by rw [hGc]
  have cst : ∀ β o, Gc.st β o ↔ G.st β o ∨ (q β ∧ w.cell? ⟨β, o, none⟩ = none ∧ o ≠ 0) := fun β o => by rw [hGc]
  have cbase : Gc.base = G.base := by rw [hGc]
  have of : ∀ {x v}, Rep G w (ren ρ x) v → Rep Gc w x v := fun {x v} hr => Rep.ren_of cbx cmp csl (fun β o e => (cst β o).2 (.inl e)) _ x (Nat.le_refl _) v hr
  have ownc : ∀ β kk, Owns Gc σc β kk → Owns G σ β (kk.1, ρ kk.2) ∧ kk.2 < ids.length := by
    intro β kk ho
    cases ho with
    | bx i β cs h1 h2 =>
      refine ⟨.bx _ _ _ (hb i cs h1) ((cbx i).symm.trans h2), ?_⟩
      rcases Nat.lt_or_ge i ids.length with hl | hl
      · exact hl
      · have := hok.bx i (by omega); rw [this] at h1; cases h1
    | mp i β cs h1 h2 =>
      refine ⟨.mp _ _ _ (hm i cs h1) ((cmp i).symm.trans h2), ?_⟩
      rcases Nat.lt_or_ge i ids.length with hl | hl
      · exact hl
      · have := hok.mp i (by omega); rw [this] at h1; cases h1
    | sl i β r cs h1 h2 =>
      refine ⟨.sl _ _ r _ (hs i cs h1) ((csl i).symm.trans h2), ?_⟩
      rcases Nat.lt_or_ge i ids.length with hl | hl
      · exact hl
      · have := hok.sl i (by omega); rw [this] at h1; cases h1
  have hwc : SimW Gc σc w := by
    refine ⟨by rw [cbase]; exact hw.base, fun i cs e => ?_, fun i es e => ?_, fun i xs e => ?_, fun β kk ho => ?_, fun β o e => ?_, fun i hi => ?_⟩
    · obtain ⟨β, arr, el, h1, h2, h3, h4⟩ := hw.bx _ _ (hb i cs e)
      rw [rens_len] at h3
      exact ⟨β, arr, el, (cbx i).trans h1, h2, h3, fun j c v hc hv => of (h4 j (ren ρ c) v (by rw [rens_get, hc]; rfl) hv)⟩
    · rcases hw.mp _ _ (hm i es e) with ⟨μ, ents, clock, h1, h2, h3, h4, h5⟩ | ⟨μ, ob, ofr, h1, h2, h3, h4⟩
      · rw [List.length_map] at h3
        refine .inl ⟨μ, ents, clock, (cmp i).trans h1, h2, h3, fun j k x en a b => ?_, h5⟩
        obtain ⟨e1, e2, e3⟩ := h4 j (ren ρ k) (ren ρ x) en (by rw [List.getElem?_map, a]; rfl) b
        exact ⟨of e1, of e2, e3⟩
      · obtain ⟨fr0, h5, h6⟩ := renE_obE h4
        subst h6
        exact .inr ⟨μ, ob, fr0, (cmp i).trans h1, h2, ObR.of (f := ren ρ) (fun x v hr => of hr) (by rw [← rens_map]; exact h3), h5⟩
    · rcases hw.sl _ _ (hs i xs e) with ⟨h1, h2⟩ | ⟨β, o, s, cap, arr, el, h1, h2, h3, h4, h5, h6⟩
      · refine .inl ⟨(csl i).trans h1, ?_⟩
        cases xs with
        | nil => rfl
        | cons => simp [rens] at h2
      · rw [rens_len] at h3
        refine .inr ⟨β, o, s, cap, arr, el, (csl i).trans h1, h2, h3, h4, fun j x hx => ?_, fun j k c v hc hv => of (h6 j k (ren ρ c) v (by rw [ren_rowCell, hc]; rfl) hv)⟩
        have := h5 j (ren ρ x) (by rw [rens_get, hx]; rfl)
        rw [ren_cells, rens_len] at this
        exact this
    · obtain ⟨ho', hi⟩ := ownc β kk ho
      obtain ⟨o1, o2, o3⟩ := hw.own _ _ ho'
      refine ⟨by rw [cbase]; exact o1, fun k' hk' => ?_, fun o e => ?_⟩
      · have := o2 _ (ownc β k' hk').1
        simp only [Prod.mk.injEq] at this
        exact Prod.ext this.1 (hinj _ _ this.2)
      · rcases (cst β o).1 e with e | ⟨e, _⟩
        · exact o3 o e
        · rw [hq] at e
          obtain ⟨k2, ho2, hn⟩ := e
          have := o2 _ ho2
          rw [this] at hn
          exact hn (hids _ hi)
    · rcases (cst β o).1 e with e | ⟨e, _⟩
      · exact hw.stIn β o e
      · rw [hq] at e
        obtain ⟨k2, ho2, _⟩ := e
        exact hw.own_lt ho2
    · have hi' : ids.length ≤ i := by omega
      obtain ⟨f1, f2, f3, f4, f5, f6⟩ := hw.fresh (ρ i) (hge i hi')
      exact ⟨(cbx i).trans f1, (cmp i).trans f2, (csl i).trans f3, hok.bx i hi, hok.mp i hi, hok.sl i hi⟩
  have hvc : RepL Gc w args vs.toList := ⟨by have := hv.1; rw [rens_len] at this; exact this, fun i c v hc hv' => of (hv.2 i (ren ρ c) v (by rw [rens_get, hc]; rfl) hv')⟩
  refine ⟨Gc, hwc, hvc, cmp, fun R v w1 ho => ?_⟩
  obtain ⟨rc, G1, τ, hl, hw1, hr1, hR⟩ := ho
  have hqst : ∀ β, q β → ∃ o, Gc.st β o := fun β e => by
    obtain ⟨o, ho⟩ := cell_out w β
    exact ⟨o, (cst β o).2 (.inr ⟨e, ho⟩)⟩
  have hqb : ∀ β, q β → w1.heap[β]? = w.heap[β]? := fun β e => by
    obtain ⟨o, ho⟩ := hqst β e; exact hl.cell β o ho
  have hqown : ∀ {β}, q β → ∀ o, ¬ G.st β o := fun {β} e => by
    rw [hq] at e; obtain ⟨k2, ho2, _⟩ := e; exact (hw.own _ _ ho2).2.2
  obtain ⟨G2, hG2⟩ : ∃ G2 : Ghost, G2 = ⟨G.base, fun β o => G1.st β o ∧ ¬ q β, fun b => match rinv ids σ.next b with | some i => G1.bx i | none => G.bx b, fun b => match rinv ids σ.next b with | some i => G1.mp i | none => G.mp b, fun b => match rinv ids σ.next b with | some i => G1.sl i | none => G.sl b⟩ := ⟨_, rfl⟩
  have dbase : G2.base = G.base := by rw [hG2]
  have dst : ∀ β o, G2.st β o ↔ G1.st β o ∧ ¬ q β := fun β o => by rw [hG2]
  have dbx : ∀ b, G2.bx b = match rinv ids σ.next b with | some i => G1.bx i | none => G.bx b := fun b => by rw [hG2]
  have dmp : ∀ b, G2.mp b = match rinv ids σ.next b with | some i => G1.mp i | none => G.mp b := fun b => by rw [hG2]
  have dsl : ∀ b, G2.sl b = match rinv ids σ.next b with | some i => G1.sl i | none => G.sl b := fun b => by rw [hG2]
  have hl2 : Le G w G2 w1 := by
    refine ⟨dbase, fun b β e => ?_, fun b β e => ?_, fun b r e => ?_, fun β o e => (dst β o).2 ⟨hl.st _ _ ((cst β o).2 (.inl e)), fun hqq => hqown hqq o e⟩, fun β o e => ?_, fun β o e => hl.cell _ _ ((cst β o).2 (.inl e)), ?_⟩
    · rw [dbx]
      cases hi : rinv ids σ.next b with
      | none => exact e
      | some i => exact hl.bx _ _ (by rw [cbx, hir hi]; exact e)
    · rw [dmp]
      cases hi : rinv ids σ.next b with
      | none => exact e
      | some i => exact hl.mp _ _ (by rw [cmp, hir hi]; exact e)
    · rw [dsl]
      cases hi : rinv ids σ.next b with
      | none => exact e
      | some i => exact hl.sl _ _ (by rw [csl, hir hi]; exact e)
    · obtain ⟨e1, e2⟩ := (dst β o).1 e
      rcases hl.st2 β o e1 with e3 | ⟨e3, e4⟩
      · rcases (cst β o).1 e3 with e3 | ⟨e3, _⟩
        · exact .inl e3
        · exact absurd e3 e2
      · rw [cbase] at e3
        exact .inr ⟨e3, fun o' e' => e4 o' ((cst β o').2 (.inl e'))⟩
    · have := hl.below; rw [cbase] at this; exact this
  have to : ∀ {x v}, Rep G1 w1 x v → Rep G2 w1 (ren ρ x) v := fun {x v} hr => by
    refine Rep.ren_to (fun i β e => by rw [dbx, hri]; exact e) (fun i β e => by rw [dmp, hri]; exact e) (fun i r e => by rw [dsl, hri]; exact e) (fun β o e hue => (dst β o).2 ⟨e, fun hqq => ?_⟩) hr
    rcases hl.st2 β o e with e3 | ⟨_, e4⟩
    · rcases (cst β o).1 e3 with e3 | ⟨_, e3, e30⟩
      · exact hqown hqq o e3
      · rcases hue with ⟨u, hu⟩ | h0
        · rw [cell_block (hqb β hqq), e3] at hu; cases hu
        · exact e30 h0
    · obtain ⟨o', ho'⟩ := hqst β hqq
      exact e4 o' ho'
  have own2 : ∀ β kk, Owns G2 (back σ ids τ) β kk → (∃ i, rinv ids σ.next kk.2 = some i ∧ Owns G1 τ β (kk.1, i)) ∨ (rinv ids σ.next kk.2 = none ∧ Owns G σ β kk) := by
    intro β kk ho
    cases ho with
    | bx b β cs h1 h2 =>
      rw [dbx] at h2
      simp only [back] at h1
      cases hi : rinv ids σ.next b with
      | none => rw [hi] at h1 h2; exact .inr ⟨rfl, .bx _ _ _ h1 h2⟩
      | some i =>
        rw [hi] at h1 h2
        obtain ⟨cs0, h3, _⟩ := Option.map_eq_some_iff.1 h1
        exact .inl ⟨i, rfl, .bx _ _ _ h3 h2⟩
    | mp b β cs h1 h2 =>
      rw [dmp] at h2
      simp only [back] at h1
      cases hi : rinv ids σ.next b with
      | none => rw [hi] at h1 h2; exact .inr ⟨rfl, .mp _ _ _ h1 h2⟩
      | some i =>
        rw [hi] at h1 h2
        obtain ⟨cs0, h3, _⟩ := Option.map_eq_some_iff.1 h1
        exact .inl ⟨i, rfl, .mp _ _ _ h3 h2⟩
    | sl b β r cs h1 h2 =>
      rw [dsl] at h2
      simp only [back] at h1
      cases hi : rinv ids σ.next b with
      | none => rw [hi] at h1 h2; exact .inr ⟨rfl, .sl _ _ _ _ h1 h2⟩
      | some i =>
        rw [hi] at h1 h2
        obtain ⟨cs0, h3, _⟩ := Option.map_eq_some_iff.1 h1
        exact .inl ⟨i, rfl, .sl _ _ _ _ h3 h2⟩
  have qof : ∀ {β kk}, rinv ids σ.next kk.2 = none → Owns G σ β kk → q β := fun {β kk} h1 h2 => by
    rw [hq]; exact ⟨kk, h2, (rinv_none h1).2⟩
  refine ⟨_, G2, back σ ids τ, hl2, ?_, to hr1, rc, τ, hR, rfl, rfl⟩
  refine ⟨by rw [dbase]; exact hw.base.go hl2.below, fun b cs e => ?_, fun b es e => ?_, fun b xs e => ?_, fun β kk ho => ?_, fun β o e => hw1.stIn β o ((dst β o).1 e).1, fun b hbn => ?_⟩
  · simp only [back] at e
    cases hi : rinv ids σ.next b with
    | none =>
      rw [hi] at e
      refine (hw.bx b cs e).mono hl2 fun β g => hqb β (qof (kk := (0, b)) hi (.bx b β cs e g))
    | some i =>
      rw [hi] at e
      obtain ⟨cs0, h3, rfl⟩ := Option.map_eq_some_iff.1 e
      obtain ⟨β, arr, el, h1, h2, h4, h5⟩ := hw1.bx i cs0 h3
      refine ⟨β, arr, el, by rw [dbx, hi]; exact h1, h2, by rw [rens_len]; exact h4, fun j c v hc hv' => ?_⟩
      rw [← hρ, rens_get] at hc
      obtain ⟨c', hc', rfl⟩ := Option.map_eq_some_iff.1 hc
      exact to (h5 j c' v hc' hv')
  · simp only [back] at e
    cases hi : rinv ids σ.next b with
    | none =>
      rw [hi] at e
      refine (hw.mp b es e).mono hl2 fun β g => hqb β (qof (kk := (1, b)) hi (.mp b β es e g))
    | some i =>
      rw [hi] at e
      obtain ⟨es0, h3, rfl⟩ := Option.map_eq_some_iff.1 e
      rcases hw1.mp i es0 h3 with ⟨μ, ents, clock, h1, h2, h4, h5, h6⟩ | ⟨μ, ob, ofr, h1, h2, h3', rfl⟩
      · refine .inl ⟨μ, ents, clock, by rw [dmp, hi]; exact h1, h2, by rw [List.length_map]; exact h4, fun j k x en a b => ?_, h6⟩
        rw [List.getElem?_map] at a
        obtain ⟨p, hp, e2⟩ := Option.map_eq_some_iff.1 a
        obtain ⟨e3, e4, e5⟩ := h5 j p.1 p.2 en hp b
        rw [← hρ] at e2
        simp only [renE, Prod.mk.injEq] at e2
        obtain ⟨rfl, rfl⟩ := e2
        exact ⟨to e3, to e4, e5⟩
      · exact .inr ⟨μ, ob, rens ρ ofr, by rw [dmp, hi]; exact h1, h2, by rw [rens_map]; exact ObR.to (fun x _ v hr => to hr) h3', by rw [← hρ]; exact obE_ren _ _ _⟩
  · simp only [back] at e
    cases hi : rinv ids σ.next b with
    | none =>
      rw [hi] at e
      refine (hw.sl b xs e).mono hl2 fun β r g => hqb β (qof (kk := (2, b)) hi (.sl b β r xs e g))
    | some i =>
      rw [hi] at e
      obtain ⟨xs0, h3, rfl⟩ := Option.map_eq_some_iff.1 e
      rcases hw1.sl i xs0 h3 with ⟨h1, rfl⟩ | ⟨β, o, s, cap, arr, el, h1, h2, h4, h5, h6, h7⟩
      · exact .inl ⟨by rw [dsl, hi]; exact h1, rfl⟩
      · refine .inr ⟨β, o, s, cap, arr, el, by rw [dsl, hi]; exact h1, h2, by rw [rens_len]; exact h4, h5, fun j x hx => ?_, fun j k c v hc hv' => ?_⟩
        · rw [rens_get] at hx
          obtain ⟨x', hx', rfl⟩ := Option.map_eq_some_iff.1 hx
          rw [ren_cells, rens_len]; exact h6 j x' hx'
        · rw [← hρ, ren_rowCell] at hc
          obtain ⟨c', hc', rfl⟩ := Option.map_eq_some_iff.1 hc
          exact to (h7 j k c' v hc' hv')
  · rcases own2 β kk ho with ⟨i, hi, ho1⟩ | ⟨hn, ho1⟩
    · obtain ⟨o1, o2, o3⟩ := hw1.own _ _ ho1
      refine ⟨by rw [dbase, ← cbase, ← hl.base]; exact o1, fun k' hk' => ?_, fun o e => o3 o ((dst β o).1 e).1⟩
      rcases own2 β k' hk' with ⟨j, hj, ho2⟩ | ⟨hn, ho2⟩
      · have := o2 _ ho2
        simp only [Prod.mk.injEq] at this
        refine Prod.ext this.1 ?_
        rw [← hir hi, ← hir hj, this.2]
      · exfalso
        obtain ⟨o, hst⟩ := hqst β (qof hn ho2)
        exact o3 o (hl.st _ _ hst)
    · obtain ⟨o1, o2, o3⟩ := hw.own _ _ ho1
      have hqq := qof hn ho1
      refine ⟨by rw [dbase]; exact o1, fun k' hk' => ?_, fun o e => ((dst β o).1 e).2 hqq⟩
      rcases own2 β k' hk' with ⟨j, hj, ho2⟩ | ⟨_, ho2⟩
      · exfalso
        obtain ⟨o, hst⟩ := hqst β hqq
        exact (hw1.own _ _ ho2).2.2 o (hl.st _ _ hst)
      · exact o2 _ ho2
  · have hb1 : σ.next + (τ.next - ids.length) ≤ b := hbn
    have hi : rinv ids σ.next b = some (ids.length + (b - σ.next)) := by unfold rinv; rw [if_pos (by omega)]
    obtain ⟨f1, f2, f3, f4, f5, f6⟩ := hw1.fresh (ids.length + (b - σ.next)) (by omega)
    refine ⟨by rw [dbx, hi]; exact f1, by rw [dmp, hi]; exact f2, by rw [dsl, hi]; exact f3, ?_, ?_, ?_⟩
    · simp only [back, hi, f4]; rfl
    · simp only [back, hi, f5]; rfl
    · simp only [back, hi, f6]; rfl
theorem ACall.frame {f : FuncId} {args : List AV} {σc : ASt} {R : AV → ASt → Prop} (ids : List Nat) (hk : σc.next = ids.length) (hok : σc.Ok) (hlt : ∀ b ∈ ids, b < σ.next) (hnd : ids.Nodup)
    (hb : ∀ i cs, σc.bx i = some cs → σ.bx (ridx ids σ.next i) = some (rens (ridx ids σ.next) cs)) (hm : ∀ i es, σc.mp i = some es → σ.mp (ridx ids σ.next i) = some (es.map (renE (ridx ids σ.next))))
    (hs : ∀ i xs, σc.sl i = some xs → σ.sl (ridx ids σ.next i) = some (rens (ridx ids σ.next) xs)) (h : ACall P f args σc R) :
    ACall P f (rens (ridx ids σ.next) args) σ fun r σ' => ∃ rc τ, R rc τ ∧ r = ren (ridx ids σ.next) rc ∧ σ' = back σ ids τ := by
  intro G w vs hv hw
  obtain ⟨Gc, h1, h2, _, h3⟩ := frame_core ids hk hok hlt hnd hb hm hs hv hw
  exact Calls.mono (h Gc w vs h2 h1) fun e w' he => retOf_mono (fun v w1 ho => h3 R v w1 ho) he
end Go.AL
/-! A call by a contract over some of what is known, which hands back, and leaves, nothing but what is closed, or among this. -/
namespace Go.AL
open Go.RowKit (Below)
set_option linter.unusedVariables false
set_option linter.unusedSimpArgs false
variable {P : Program} {σ : ASt}
/-- What is known behind such a call. -/
def back0 (σ : ASt) (ids : List Nat) (τ : ASt) : ASt where
  bx b := match rfind b ids 0 with | some i => τ.bx i | none => σ.bx b
  mp b := match rfind b ids 0 with | some i => τ.mp i | none => σ.mp b
  sl b := match rfind b ids 0 with | some i => τ.sl i | none => σ.sl b
  next := σ.next
/-- It speaks of none but the first k. -/
def Lo (k : Nat) (x : AV) : Prop := ∀ ρ : Nat → Nat, (∀ i, i < k → ρ i = i) → ren ρ x = x
theorem Lo.of_cl {k : Nat} {x : AV} (h : Cl x) : Lo k x := fun ρ _ => ren_closed ρ h
def back1 (σ : ASt) (ids : List Nat) (τ : ASt) : ASt where
  bx b := match rfind b ids 0 with | some i => (τ.bx i).map (rens (ridx ids σ.next)) | none => σ.bx b
  mp b := match rfind b ids 0 with | some i => (τ.mp i).map (List.map (renE (ridx ids σ.next))) | none => σ.mp b
  sl b := match rfind b ids 0 with | some i => (τ.sl i).map (rens (ridx ids σ.next)) | none => σ.sl b
  next := σ.next
theorem Lo.cells {k : Nat} {x : AV} (h : Lo k x) : ∀ c ∈ x.cells, Lo k c := fun c hc π hπ => by
  have h1 := ren_cells π x
  rw [h π hπ] at h1
  obtain ⟨j, hj⟩ := List.getElem?_of_mem hc
  have h2 := rens_get π x.cells j
  rw [← h1, hj] at h2
  exact (Option.some.inj h2).symm
theorem Lo.rowCell {k : Nat} {xs : List AV} (h : ∀ x ∈ xs, Lo k x) {i j : Nat} {c : AV} (hc : rowCell xs i j = some c) : Lo k c := by
  unfold Go.AL.rowCell at hc
  obtain ⟨x, h1, h2⟩ := Option.bind_eq_some_iff.1 hc
  exact (h x (List.mem_of_getElem? h1)).cells c (List.mem_of_getElem? h2)
theorem ACall.frame1 {f : FuncId} {args : List AV} {σc : ASt} {R : AV → ASt → Prop} (ids : List Nat) (hk : σc.next = ids.length) (hok : σc.Ok) (hlt : ∀ b ∈ ids, b < σ.next) (hnd : ids.Nodup)
    (hb : ∀ i cs, σc.bx i = some cs → σ.bx (ridx ids σ.next i) = some (rens (ridx ids σ.next) cs)) (hm : ∀ i es, σc.mp i = some es → σ.mp (ridx ids σ.next i) = some (es.map (renE (ridx ids σ.next))))
    (hs : ∀ i xs, σc.sl i = some xs → σ.sl (ridx ids σ.next i) = some (rens (ridx ids σ.next) xs)) (h : ACall P f args σc R)
    (hcl : ∀ r τ, R r τ → Lo ids.length r ∧ (∀ i cs, τ.bx i = some cs → i < ids.length → ∀ c ∈ cs, Lo ids.length c) ∧ (∀ i es, τ.mp i = some es → i < ids.length → ∀ p ∈ es, Lo ids.length p.1 ∧ Lo ids.length p.2) ∧ (∀ i xs, τ.sl i = some xs → i < ids.length → ∀ x ∈ xs, Lo ids.length x)) :
    ACall P f (rens (ridx ids σ.next) args) σ fun r σ' => ∃ rc τ, R rc τ ∧ r = ren (ridx ids σ.next) rc ∧ σ' = back1 σ ids τ := by
  intro G w vs hv hw
  obtain ⟨ρ, hρ⟩ : ∃ ρ, ρ = ridx ids σ.next := ⟨_, rfl⟩
  rw [← hρ] at hb hm hs hv
  have hri : ∀ i, rinv ids σ.next (ρ i) = some i := fun i => by rw [hρ]; exact ridx_rinv hlt hnd i
  have hir : ∀ {b i}, rinv ids σ.next b = some i → ρ i = b := fun h => by rw [hρ]; exact rinv_ridx h
  have hinj : ∀ i j, ρ i = ρ j → i = j := fun i j e => by have h1 := hri i; rw [e, hri j] at h1; exact (Option.some.inj h1).symm
  have hge : ∀ i, ids.length ≤ i → σ.next ≤ ρ i := fun i hi => by rw [hρ]; unfold ridx; rw [if_neg (by omega)]; omega
  have hids : ∀ i, i < ids.length → ρ i ∈ ids := fun i hi => by
    rw [hρ]; unfold ridx; rw [if_pos hi, List.getD, List.getElem?_eq_getElem hi]; exact List.getElem_mem hi
  obtain ⟨q, hq⟩ : ∃ q : Nat → Prop, q = fun β => ∃ kk, Owns G σ β kk ∧ kk.2 ∉ ids := ⟨_, rfl⟩
  obtain ⟨Gc, hGc⟩ : ∃ Gc : Ghost, Gc = ⟨G.base, fun β o => G.st β o ∨ (q β ∧ w.cell? ⟨β, o, none⟩ = none ∧ o ≠ 0), fun i => G.bx (ρ i), fun i => G.mp (ρ i), fun i => G.sl (ρ i)⟩ := ⟨_, rfl⟩
  have cbx : ∀ i, Gc.bx i = G.bx (ρ i) := fun i => by rw [hGc]
  have cmp : ∀ i, Gc.mp i = G.mp (ρ i) := fun i => by rw [hGc]
  have csl : ∀ i, Gc.sl i = G.sl (ρ i) := fun i => by rw [hGc]
  have cst : ∀ β o, Gc.st β o ↔ G.st β o ∨ (q β ∧ w.cell? ⟨β, o, none⟩ = none ∧ o ≠ 0) := fun β o => by rw [hGc]
  have cbase : Gc.base = G.base := by rw [hGc]
  have of : ∀ {x v}, Rep G w (ren ρ x) v → Rep Gc w x v := fun {x v} hr => Rep.ren_of cbx cmp csl (fun β o e => (cst β o).2 (.inl e)) _ x (Nat.le_refl _) v hr
  have ownc : ∀ β kk, Owns Gc σc β kk → Owns G σ β (kk.1, ρ kk.2) ∧ kk.2 < ids.length := by
    intro β kk ho
    cases ho with
    | bx i β cs h1 h2 =>
      refine ⟨.bx _ _ _ (hb i cs h1) ((cbx i).symm.trans h2), ?_⟩
      rcases Nat.lt_or_ge i ids.length with hl | hl
      · exact hl
      · have := hok.bx i (by omega); rw [this] at h1; cases h1
    | mp i β cs h1 h2 =>
      refine ⟨.mp _ _ _ (hm i cs h1) ((cmp i).symm.trans h2), ?_⟩
      rcases Nat.lt_or_ge i ids.length with hl | hl
      · exact hl
      · have := hok.mp i (by omega); rw [this] at h1; cases h1
    | sl i β r cs h1 h2 =>
      refine ⟨.sl _ _ r _ (hs i cs h1) ((csl i).symm.trans h2), ?_⟩
      rcases Nat.lt_or_ge i ids.length with hl | hl
      · exact hl
      · have := hok.sl i (by omega); rw [this] at h1; cases h1
  have hwc : SimW Gc σc w := by
    refine ⟨by rw [cbase]; exact hw.base, fun i cs e => ?_, fun i es e => ?_, fun i xs e => ?_, fun β kk ho => ?_, fun β o e => ?_, fun i hi => ?_⟩
    · obtain ⟨β, arr, el, h1, h2, h3, h4⟩ := hw.bx _ _ (hb i cs e)
      rw [rens_len] at h3
      exact ⟨β, arr, el, (cbx i).trans h1, h2, h3, fun j c v hc hv => of (h4 j (ren ρ c) v (by rw [rens_get, hc]; rfl) hv)⟩
    · rcases hw.mp _ _ (hm i es e) with ⟨μ, ents, clock, h1, h2, h3, h4, h5⟩ | ⟨μ, ob, ofr, h1, h2, h3, h4⟩
      · rw [List.length_map] at h3
        refine .inl ⟨μ, ents, clock, (cmp i).trans h1, h2, h3, fun j k x en a b => ?_, h5⟩
        obtain ⟨e1, e2, e3⟩ := h4 j (ren ρ k) (ren ρ x) en (by rw [List.getElem?_map, a]; rfl) b
        exact ⟨of e1, of e2, e3⟩
      · obtain ⟨fr0, h5, h6⟩ := renE_obE h4
        subst h6
        exact .inr ⟨μ, ob, fr0, (cmp i).trans h1, h2, ObR.of (f := ren ρ) (fun x v hr => of hr) (by rw [← rens_map]; exact h3), h5⟩
    · rcases hw.sl _ _ (hs i xs e) with ⟨h1, h2⟩ | ⟨β, o, s, cap, arr, el, h1, h2, h3, h4, h5, h6⟩
      · refine .inl ⟨(csl i).trans h1, ?_⟩
        cases xs with
        | nil => rfl
        | cons => simp [rens] at h2
      · rw [rens_len] at h3
        refine .inr ⟨β, o, s, cap, arr, el, (csl i).trans h1, h2, h3, h4, fun j x hx => ?_, fun j k c v hc hv => of (h6 j k (ren ρ c) v (by rw [ren_rowCell, hc]; rfl) hv)⟩
        have := h5 j (ren ρ x) (by rw [rens_get, hx]; rfl)
        rw [ren_cells, rens_len] at this
        exact this
    · obtain ⟨ho', hi⟩ := ownc β kk ho
      obtain ⟨o1, o2, o3⟩ := hw.own _ _ ho'
      refine ⟨by rw [cbase]; exact o1, fun k' hk' => ?_, fun o e => ?_⟩
      · have := o2 _ (ownc β k' hk').1
        simp only [Prod.mk.injEq] at this
        exact Prod.ext this.1 (hinj _ _ this.2)
      · rcases (cst β o).1 e with e | ⟨e, _⟩
        · exact o3 o e
        · rw [hq] at e
          obtain ⟨k2, ho2, hn⟩ := e
          have := o2 _ ho2
          rw [this] at hn
          exact hn (hids _ hi)
    · rcases (cst β o).1 e with e | ⟨e, _⟩
      · exact hw.stIn β o e
      · rw [hq] at e
        obtain ⟨k2, ho2, _⟩ := e
        exact hw.own_lt ho2
    · have hi' : ids.length ≤ i := by omega
      obtain ⟨f1, f2, f3, f4, f5, f6⟩ := hw.fresh (ρ i) (hge i hi')
      exact ⟨(cbx i).trans f1, (cmp i).trans f2, (csl i).trans f3, hok.bx i hi, hok.mp i hi, hok.sl i hi⟩
  have hvc : RepL Gc w args vs.toList := ⟨by have := hv.1; rw [rens_len] at this; exact this, fun i c v hc hv' => of (hv.2 i (ren ρ c) v (by rw [rens_get, hc]; rfl) hv')⟩
  refine Calls.mono (h Gc w vs hvc hwc) fun e w' he => retOf_mono (fun v w1 ho => ?_) he
  obtain ⟨rc, G1, τ, hl, hw1, hr1, hR⟩ := ho
  have hqst : ∀ β, q β → ∃ o, Gc.st β o := fun β e => by
    obtain ⟨o, ho⟩ := cell_out w β
    exact ⟨o, (cst β o).2 (.inr ⟨e, ho⟩)⟩
  have hqb : ∀ β, q β → w1.heap[β]? = w.heap[β]? := fun β e => by
    obtain ⟨o, ho⟩ := hqst β e; exact hl.cell β o ho
  have hqown : ∀ {β}, q β → ∀ o, ¬ G.st β o := fun {β} e => by
    rw [hq] at e; obtain ⟨k2, ho2, _⟩ := e; exact (hw.own _ _ ho2).2.2
  obtain ⟨hcr, hcb, hcm, hcs⟩ := hcl rc τ hR
  obtain ⟨G2, hG2⟩ : ∃ G2 : Ghost, G2 = ⟨G.base, fun β o => G1.st β o ∧ ¬ q β, fun b => match rfind b ids 0 with | some i => G1.bx i | none => G.bx b, fun b => match rfind b ids 0 with | some i => G1.mp i | none => G.mp b, fun b => match rfind b ids 0 with | some i => G1.sl i | none => G.sl b⟩ := ⟨_, rfl⟩
  have dbase : G2.base = G.base := by rw [hG2]
  have dst : ∀ β o, G2.st β o ↔ G1.st β o ∧ ¬ q β := fun β o => by rw [hG2]
  have dbx : ∀ b, G2.bx b = match rfind b ids 0 with | some i => G1.bx i | none => G.bx b := fun b => by rw [hG2]
  have dmp : ∀ b, G2.mp b = match rfind b ids 0 with | some i => G1.mp i | none => G.mp b := fun b => by rw [hG2]
  have dsl : ∀ b, G2.sl b = match rfind b ids 0 with | some i => G1.sl i | none => G.sl b := fun b => by rw [hG2]
  have hfi : ∀ {b i}, rfind b ids 0 = some i → ρ i = b ∧ i < ids.length := fun {b i} h => by
    obtain ⟨_, h2⟩ := rfind_some h
    simp only [Nat.sub_zero] at h2
    obtain ⟨h3, h4⟩ := List.getElem?_eq_some_iff.1 h2
    refine ⟨?_, h3⟩
    rw [hρ]; unfold ridx; rw [if_pos h3, List.getD, h2]; rfl
  have hl2 : Le G w G2 w1 := by
    refine ⟨dbase, fun b β e => ?_, fun b β e => ?_, fun b r e => ?_, fun β o e => (dst β o).2 ⟨hl.st _ _ ((cst β o).2 (.inl e)), fun hqq => hqown hqq o e⟩, fun β o e => ?_, fun β o e => hl.cell _ _ ((cst β o).2 (.inl e)), ?_⟩
    · rw [dbx]
      cases hi : rfind b ids 0 with
      | none => exact e
      | some i => exact hl.bx _ _ (by rw [cbx, (hfi hi).1]; exact e)
    · rw [dmp]
      cases hi : rfind b ids 0 with
      | none => exact e
      | some i => exact hl.mp _ _ (by rw [cmp, (hfi hi).1]; exact e)
    · rw [dsl]
      cases hi : rfind b ids 0 with
      | none => exact e
      | some i => exact hl.sl _ _ (by rw [csl, (hfi hi).1]; exact e)
    · obtain ⟨e1, e2⟩ := (dst β o).1 e
      rcases hl.st2 β o e1 with e3 | ⟨e3, e4⟩
      · rcases (cst β o).1 e3 with e3 | ⟨e3, _⟩
        · exact .inl e3
        · exact absurd e3 e2
      · rw [cbase] at e3
        exact .inr ⟨e3, fun o' e' => e4 o' ((cst β o').2 (.inl e'))⟩
    · have := hl.below; rw [cbase] at this; exact this
  have hfind : ∀ {i}, i < ids.length → rfind (ρ i) ids 0 = some i := fun {i} hi => by
    have := hri i
    unfold rinv at this
    rwa [if_neg (by have := hlt (ρ i) (hids i hi); omega)] at this
  have to : ∀ {x v}, Lo ids.length x → Rep G1 w1 x v → Rep G2 w1 (ren ρ x) v := fun {x v} hx hr => by
    obtain ⟨N, hN⟩ : ∃ N, N = max τ.next ids.length := ⟨_, rfl⟩
    obtain ⟨f1, f2, f3, _⟩ := hw1.fresh N (by omega)
    obtain ⟨π, hπ⟩ : ∃ π : Nat → Nat, π = fun i => if i < ids.length then i else N := ⟨_, rfl⟩
    have hπ1 : ∀ i, i < ids.length → π i = i := fun i hi => by rw [hπ]; exact if_pos hi
    have hπ2 : ∀ i, ¬ i < ids.length → π i = N := fun i hi => by rw [hπ]; exact if_neg hi
    obtain ⟨Gr, hGr⟩ : ∃ Gr : Ghost, Gr = ⟨G1.base, G1.st, fun i => G1.bx (π i), fun i => G1.mp (π i), fun i => G1.sl (π i)⟩ := ⟨_, rfl⟩
    have hr' : Rep Gr w1 x v := Rep.ren_of (G := Gr) (G' := G1) (ρ := π) (fun _ => by rw [hGr]) (fun _ => by rw [hGr]) (fun _ => by rw [hGr]) (fun _ _ e => by rw [hGr]; exact e) _ x (Nat.le_refl _) v (by rw [hx π hπ1]; exact hr)
    refine Rep.ren_to (G := Gr) (G' := G2) (ρ := ρ) (fun i β e => ?_) (fun i β e => ?_) (fun i r e => ?_) (fun β o e hue => (dst β o).2 ⟨by rw [hGr] at e; exact e, fun hqq => by
      have e : G1.st β o := by rw [hGr] at e; exact e
      rcases hl.st2 β o e with e3 | ⟨_, e4⟩
      · rcases (cst β o).1 e3 with e3 | ⟨_, e3, e30⟩
        · exact hqown hqq o e3
        · rcases hue with ⟨u, hu⟩ | h0
          · rw [cell_block (hqb β hqq), e3] at hu; cases hu
          · exact e30 h0
      · obtain ⟨o', ho'⟩ := hqst β hqq
        exact e4 o' ho'⟩) hr'
    all_goals
      rw [hGr] at e
      by_cases hi : i < ids.length
      · simp only [hπ1 i hi] at e
        first | rw [dbx, hfind hi] | rw [dmp, hfind hi] | rw [dsl, hfind hi]
        exact e
      · simp only [hπ2 i hi] at e
        first | (rw [f1] at e; cases e) | (rw [f2] at e; cases e) | (rw [f3] at e; cases e)
  have own2 : ∀ β kk, Owns G2 (back1 σ ids τ) β kk → (∃ i, rfind kk.2 ids 0 = some i ∧ Owns G1 τ β (kk.1, i)) ∨ (rfind kk.2 ids 0 = none ∧ Owns G σ β kk) := by
    intro β kk ho
    cases ho with
    | bx b β cs h1 h2 =>
      rw [dbx] at h2
      simp only [back1] at h1
      cases hi : rfind b ids 0 with
      | none => rw [hi] at h1 h2; exact .inr ⟨rfl, .bx _ _ _ h1 h2⟩
      | some i => rw [hi] at h1 h2; obtain ⟨y, hy, _⟩ := Option.map_eq_some_iff.1 h1; exact .inl ⟨i, rfl, .bx _ _ _ hy h2⟩
    | mp b β cs h1 h2 =>
      rw [dmp] at h2
      simp only [back1] at h1
      cases hi : rfind b ids 0 with
      | none => rw [hi] at h1 h2; exact .inr ⟨rfl, .mp _ _ _ h1 h2⟩
      | some i => rw [hi] at h1 h2; obtain ⟨y, hy, _⟩ := Option.map_eq_some_iff.1 h1; exact .inl ⟨i, rfl, .mp _ _ _ hy h2⟩
    | sl b β r cs h1 h2 =>
      rw [dsl] at h2
      simp only [back1] at h1
      cases hi : rfind b ids 0 with
      | none => rw [hi] at h1 h2; exact .inr ⟨rfl, .sl _ _ _ _ h1 h2⟩
      | some i => rw [hi] at h1 h2; obtain ⟨y, hy, _⟩ := Option.map_eq_some_iff.1 h1; exact .inl ⟨i, rfl, .sl _ _ _ _ hy h2⟩
  have qof : ∀ {β kk}, rfind kk.2 ids 0 = none → Owns G σ β kk → q β := fun {β kk} h1 h2 => by
    rw [hq]; exact ⟨kk, h2, rfind_none h1⟩
  refine ⟨_, G2, back1 σ ids τ, hl2, ?_, to hcr hr1, rc, τ, hR, by rw [hρ], rfl⟩
  refine ⟨by rw [dbase]; exact hw.base.go hl2.below, fun b cs e => ?_, fun b es e => ?_, fun b xs e => ?_, fun β kk ho => ?_, fun β o e => hw1.stIn β o ((dst β o).1 e).1, fun b hbn => ?_⟩
  · simp only [back1] at e
    cases hi : rfind b ids 0 with
    | none =>
      rw [hi] at e
      exact (hw.bx b cs e).mono hl2 fun β g => hqb β (qof (kk := (0, b)) hi (.bx b β cs e g))
    | some i =>
      rw [hi] at e
      obtain ⟨cs0, h3, rfl⟩ := Option.map_eq_some_iff.1 e
      have hci := hcb i cs0 h3 (hfi hi).2
      obtain ⟨β, arr, el, h1, h2, h4, h5⟩ := hw1.bx i cs0 h3
      refine ⟨β, arr, el, by rw [dbx, hi]; exact h1, h2, by rw [rens_len]; exact h4, fun j c v hc hv' => ?_⟩
      rw [← hρ, rens_get] at hc
      obtain ⟨c', hc', rfl⟩ := Option.map_eq_some_iff.1 hc
      exact to (hci c' (List.mem_of_getElem? hc')) (h5 j c' v hc' hv')
  · simp only [back1] at e
    cases hi : rfind b ids 0 with
    | none =>
      rw [hi] at e
      exact (hw.mp b es e).mono hl2 fun β g => hqb β (qof (kk := (1, b)) hi (.mp b β es e g))
    | some i =>
      rw [hi] at e
      obtain ⟨es0, h0, rfl⟩ := Option.map_eq_some_iff.1 e
      have hci := hcm i es0 h0 (hfi hi).2
      rcases hw1.mp i es0 h0 with ⟨μ, ents, clock, h1, h2, h4, h5, h6⟩ | ⟨μ, ob, ofr, h1, h2, h3, rfl⟩
      · refine .inl ⟨μ, ents, clock, by rw [dmp, hi]; exact h1, h2, by rw [List.length_map]; exact h4, fun j k x en a b => ?_, h6⟩
        rw [List.getElem?_map] at a
        obtain ⟨p, hp, e2⟩ := Option.map_eq_some_iff.1 a
        obtain ⟨e3, e4, e5⟩ := h5 j p.1 p.2 en hp b
        have := hci p (List.mem_of_getElem? hp)
        rw [← hρ] at e2
        simp only [renE, Prod.mk.injEq] at e2
        obtain ⟨rfl, rfl⟩ := e2
        exact ⟨to this.1 e3, to this.2 e4, e5⟩
      · have hcf : ∀ c ∈ ofr, Lo ids.length c := fun c hc π hπ => by
          have := (hci (noV, .tup [.ob (erO ob), .agg ofr]) (by exact List.mem_cons_self)).2 π hπ
          simp only [ren, rens, AV.tup.injEq, List.cons.injEq, AV.agg.injEq, and_true, true_and] at this
          obtain ⟨j, hj⟩ := List.getElem?_of_mem hc
          have h7 := rens_get π ofr j
          rw [this, hj] at h7
          exact (Option.some.inj h7).symm
        exact .inr ⟨μ, ob, rens ρ ofr, by rw [dmp, hi]; exact h1, h2, by rw [rens_map]; exact ObR.to (fun x hx v hr => to (hcf x hx) hr) h3, by rw [← hρ]; exact obE_ren _ _ _⟩
  · simp only [back1] at e
    cases hi : rfind b ids 0 with
    | none =>
      rw [hi] at e
      exact (hw.sl b xs e).mono hl2 fun β r g => hqb β (qof (kk := (2, b)) hi (.sl b β r xs e g))
    | some i =>
      rw [hi] at e
      obtain ⟨xs0, h0, rfl⟩ := Option.map_eq_some_iff.1 e
      have hci := hcs i xs0 h0 (hfi hi).2
      rcases hw1.sl i xs0 h0 with ⟨h1, rfl⟩ | ⟨β, o, s, cap, arr, el, h1, h2, h4, h5, h6, h7⟩
      · exact .inl ⟨by rw [dsl, hi]; exact h1, rfl⟩
      · refine .inr ⟨β, o, s, cap, arr, el, by rw [dsl, hi]; exact h1, h2, by rw [rens_len]; exact h4, h5, fun j x hx => ?_, fun j k c v hc hv' => ?_⟩
        · rw [rens_get] at hx
          obtain ⟨x', hx', rfl⟩ := Option.map_eq_some_iff.1 hx
          rw [ren_cells, rens_len]; exact h6 j x' hx'
        · rw [← hρ, ren_rowCell] at hc
          obtain ⟨c', hc', rfl⟩ := Option.map_eq_some_iff.1 hc
          exact to (Lo.rowCell hci hc') (h7 j k c' v hc' hv')
  · rcases own2 β kk ho with ⟨i, hi, ho1⟩ | ⟨hn, ho1⟩
    · obtain ⟨o1, o2, o3⟩ := hw1.own _ _ ho1
      refine ⟨by rw [dbase, ← cbase, ← hl.base]; exact o1, fun k' hk' => ?_, fun o e => o3 o ((dst β o).1 e).1⟩
      rcases own2 β k' hk' with ⟨j, hj, ho2⟩ | ⟨hn, ho2⟩
      · have := o2 _ ho2
        simp only [Prod.mk.injEq] at this
        refine Prod.ext this.1 ?_
        rw [← (hfi hi).1, ← (hfi hj).1, this.2]
      · exfalso
        obtain ⟨o, hst⟩ := hqst β (qof hn ho2)
        exact o3 o (hl.st _ _ hst)
    · obtain ⟨o1, o2, o3⟩ := hw.own _ _ ho1
      have hqq := qof hn ho1
      refine ⟨by rw [dbase]; exact o1, fun k' hk' => ?_, fun o e => ((dst β o).1 e).2 hqq⟩
      rcases own2 β k' hk' with ⟨j, hj, ho2⟩ | ⟨_, ho2⟩
      · exfalso
        obtain ⟨o, hst⟩ := hqst β hqq
        exact (hw1.own _ _ ho2).2.2 o (hl.st _ _ hst)
      · exact o2 _ ho2
  · have hb1 : σ.next ≤ b := hbn
    have hi : rfind b ids 0 = none := by
      cases hf : rfind b ids 0 with
      | none => rfl
      | some i =>
        obtain ⟨_, h2⟩ := rfind_some hf
        have := hlt b (List.mem_of_getElem? h2)
        omega
    obtain ⟨f1, f2, f3, f4, f5, f6⟩ := hw.fresh b hb1
    refine ⟨by rw [dbx, hi]; exact f1, by rw [dmp, hi]; exact f2, by rw [dsl, hi]; exact f3, ?_, ?_, ?_⟩
    · simp only [back1, hi]; exact f4
    · simp only [back1, hi]; exact f5
    · simp only [back1, hi]; exact f6
theorem rens_cl {ρ : Nat → Nat} {l : List AV} (h : ∀ c ∈ l, Cl c) : rens ρ l = l := by
  rw [rens_map]; conv => rhs; rw [← List.map_id l]
  exact List.map_congr_left fun c hc => ren_closed ρ (h c hc)
theorem ACall.frame0 {f : FuncId} {args : List AV} {σc : ASt} {R : AV → ASt → Prop} (ids : List Nat) (hk : σc.next = ids.length) (hok : σc.Ok) (hlt : ∀ b ∈ ids, b < σ.next) (hnd : ids.Nodup)
    (hb : ∀ i cs, σc.bx i = some cs → σ.bx (ridx ids σ.next i) = some (rens (ridx ids σ.next) cs)) (hm : ∀ i es, σc.mp i = some es → σ.mp (ridx ids σ.next i) = some (es.map (renE (ridx ids σ.next))))
    (hs : ∀ i xs, σc.sl i = some xs → σ.sl (ridx ids σ.next i) = some (rens (ridx ids σ.next) xs)) (h : ACall P f args σc R)
    (hcl : ∀ r τ, R r τ → Cl r ∧ (∀ i cs, τ.bx i = some cs → i < ids.length → ∀ c ∈ cs, Cl c) ∧ (∀ i es, τ.mp i = some es → i < ids.length → ∀ p ∈ es, Cl p.1 ∧ Cl p.2) ∧ (∀ i xs, τ.sl i = some xs → i < ids.length → ∀ c ∈ xs, Cl c)) :
    ACall P f (rens (ridx ids σ.next) args) σ fun r σ' => ∃ τ, R r τ ∧ σ' = back0 σ ids τ := by
  refine (ACall.frame1 ids hk hok hlt hnd hb hm hs h fun r τ hR => ?_).mono fun r σ' hr => ?_
  · obtain ⟨h1, h2, h3, h4⟩ := hcl r τ hR
    exact ⟨.of_cl h1, fun i cs e hi c hc => .of_cl (h2 i cs e hi c hc), fun i es e hi p hp => ⟨.of_cl (h3 i es e hi p hp).1, .of_cl (h3 i es e hi p hp).2⟩, fun i xs e hi c hc => .of_cl (h4 i xs e hi c hc)⟩
  · obtain ⟨rc, τ, hR, rfl, rfl⟩ := hr
    obtain ⟨h1, h2, h3, h4⟩ := hcl rc τ hR
    refine ⟨τ, by rw [ren_closed _ h1]; exact hR, ?_⟩
    have hfi : ∀ {b i}, rfind b ids 0 = some i → i < ids.length := fun {b i} h => by
      have := (rfind_some h).2
      exact (List.getElem?_eq_some_iff.1 (by simpa using this)).1
    unfold back1 back0
    congr 1 <;> funext b <;> cases hi : rfind b ids 0 with
    | none => rfl
    | some i =>
      simp only
      first
        | (cases e : τ.bx i with | none => rfl | some cs => rw [Option.map_some, rens_cl (h2 i cs e (hfi hi))])
        | (cases e : τ.mp i with
           | none => rfl
           | some es =>
             rw [Option.map_some]
             refine congrArg some ?_
             conv => rhs; rw [← List.map_id es]
             exact List.map_congr_left fun p hp => by rw [renE, ren_closed _ (h3 i es e (hfi hi) p hp).1, ren_closed _ (h3 i es e (hfi hi) p hp).2]; rfl)
        | (cases e : τ.sl i with | none => rfl | some cs => rw [Option.map_some, rens_cl (h4 i cs e (hfi hi))])
end Go.AL
