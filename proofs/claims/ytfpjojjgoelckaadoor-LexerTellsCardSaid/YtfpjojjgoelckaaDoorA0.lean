import Derived.Test.YtfpjojjgoelckaaDoorAG
import Derived.Below
import Derived.Tactics
import Derived.Still
import Derived.ScopeJumps
/-! A semantic abstract logic over the machine. Values with slices as lists, boxes, maps and own slices by numbers. -/
namespace Go.AL
open Go.RowKit (Below)
set_option linter.unusedVariables false

/-- An abstract value. -/
inductive AV where
  | p (x : Value)
  | agg (cs : List AV)
  | tup (vs : List AV)
  | ptr (b off : Nat)
  | vsl (xs : List AV)
  | vel (xs : List AV) (i off : Nat)
  | hsl (b off len : Nat)
  | hel (b i off : Nat)
  | map (m : Nat)
  | it (m : Nat)
  | fn (f : Fn) (first cap : List AV)
  | ifc (t : TypeId) (v : AV)
  | opt (b : Bool) (v : AV)
  | any
  deriving Inhabited

def AV.cells : AV → List AV
  | .agg cs => cs
  | v => [v]

/-- The cell j of the element i. -/
def rowCell (xs : List AV) (i j : Nat) : Option AV := (xs[i]?).bind fun x => x.cells[j]?

/-- Where things lie. -/
structure Ghost where
  base : Nat
  st : Nat → Nat → Prop
  bx : Nat → Option Nat
  mp : Nat → Option Nat
  sl : Nat → Option (Option (Nat × Nat × Nat × Nat))

/-- A value is as an abstract one says. -/
inductive Rep (G : Ghost) (w : World) : AV → Value → Prop where
  | p (x : Value) : Rep G w (.p x) x
  | agg (cs : List AV) (vs : Array Value) (hs : cs.length = vs.size) (h : ∀ (i : Nat) c v, cs[i]? = some c → vs[i]? = some v → Rep G w c v) : Rep G w (.agg cs) (.agg vs)
  | tup (cs : List AV) (vs : Array Value) (hs : cs.length = vs.size) (h : ∀ (i : Nat) c v, cs[i]? = some c → vs[i]? = some v → Rep G w c v) : Rep G w (.tup cs) (.tuple vs)
  | ptr (b off β : Nat) (h : G.bx b = some β) : Rep G w (.ptr b off) (.pointer (some ⟨β, off, none⟩))
  | vnil (a : Option Addr) (cap : Nat) : Rep G w (.vsl []) (.slice a 0 cap)
  | vsl (xs : List AV) (β o s cap : Nat) (val : Nat → Nat → Value) (hcap : xs.length ≤ cap) (hs : ∀ (i : Nat) x, xs[i]? = some x → x.cells.length = s)
      (h : ∀ (i j : Nat) c, rowCell xs i j = some c → G.st β (o + i * s + j) ∧ w.cell? ⟨β, o + i * s + j, none⟩ = some (val i j))
      (hr : ∀ (i j : Nat) c, rowCell xs i j = some c → Rep G w c (val i j)) : Rep G w (.vsl xs) (.slice (some ⟨β, o, none⟩) xs.length cap)
  | vel (xs : List AV) (i off β o s : Nat) (val : Nat → Nat → Value) (hs : ∀ (i : Nat) x, xs[i]? = some x → x.cells.length = s)
      (h : ∀ (i j : Nat) c, rowCell xs i j = some c → G.st β (o + i * s + j) ∧ w.cell? ⟨β, o + i * s + j, none⟩ = some (val i j))
      (hr : ∀ (i j : Nat) c, rowCell xs i j = some c → Rep G w c (val i j)) : Rep G w (.vel xs i off) (.pointer (some ⟨β, o + i * s + off, none⟩))
  | hsl (b off len β o s cap : Nat) (h : G.sl b = some (some (β, o, s, cap))) (hle : off + len ≤ cap) : Rep G w (.hsl b off len) (.slice (some ⟨β, o + off * s, none⟩) len (cap - off))
  | hend (b off : Nat) (a : Option Addr) (β o s cap : Nat) (h : G.sl b = some (some (β, o, s, cap))) (hle : off = cap) : Rep G w (.hsl b off 0) (.slice a 0 0)
  | hnil (b : Nat) (a : Option Addr) (h : G.sl b = some none) : Rep G w (.hsl b 0 0) (.slice a 0 0)
  | hel (b i off β o s cap : Nat) (h : G.sl b = some (some (β, o, s, cap))) : Rep G w (.hel b i off) (.pointer (some ⟨β, o + i * s + off, none⟩))
  | map (m μ : Nat) (h : G.mp m = some μ) : Rep G w (.map m) (.map (some μ))
  | it (m μ : Nat) (h : G.mp m = some μ) : Rep G w (.it m) (.pointer (some ⟨μ, 0, none⟩))
  | fn (f : Fn) (aa bs : List AV) (us vs : Array Value) (h1 : aa.length = us.size) (h2 : bs.length = vs.size)
      (h3 : ∀ (i : Nat) c v, aa[i]? = some c → us[i]? = some v → Rep G w c v) (h4 : ∀ (i : Nat) c v, bs[i]? = some c → vs[i]? = some v → Rep G w c v) : Rep G w (.fn f aa bs) (.func f us vs)
  | ifc (t : TypeId) (c : AV) (v : Value) (h : Rep G w c v) : Rep G w (.ifc t c) (.iface t v)
  | opt (b : Bool) (c : AV) (v : Value) (h : b = true → Rep G w c v) (h0 : b = false → v = .tuple #[]) : Rep G w (.opt b c) v
  | any (v : Value) : Rep G w .any v

/-- Lists of values. -/
def RepL (G : Ghost) (w : World) (cs : List AV) (vs : List Value) : Prop := cs.length = vs.length ∧ ∀ (i : Nat) c v, cs[i]? = some c → vs[i]? = some v → Rep G w c v

/-- What comes behind. -/
structure Le (G : Ghost) (w : World) (G' : Ghost) (w' : World) : Prop where
  base : G'.base = G.base
  bx : ∀ b β, G.bx b = some β → G'.bx b = some β
  mp : ∀ b β, G.mp b = some β → G'.mp b = some β
  sl : ∀ b β, G.sl b = some β → G'.sl b = some β
  st : ∀ β o, G.st β o → G'.st β o
  st2 : ∀ β o, G'.st β o → G.st β o ∨ G.base ≤ β
  cell : ∀ β o, G.st β o → w'.cell? ⟨β, o, none⟩ = w.cell? ⟨β, o, none⟩
  below : Below G.base w w'

theorem Le.refl (G : Ghost) (w : World) : Le G w G w := ⟨rfl, fun _ _ h => h, fun _ _ h => h, fun _ _ h => h, fun _ _ h => h, fun _ _ h => .inl h, fun _ _ _ => rfl, Below.refl _ _⟩
theorem Le.trans {G w G' w' G'' w''} (h : Le G w G' w') (k : Le G' w' G'' w'') : Le G w G'' w'' :=
  ⟨k.base.trans h.base, fun b β e => k.bx b β (h.bx b β e), fun b β e => k.mp b β (h.mp b β e), fun b β e => k.sl b β (h.sl b β e), fun β o e => k.st β o (h.st β o e), fun β o e => (k.st2 β o e).elim (fun e => h.st2 β o e) (fun e => .inr (h.base ▸ e)),
    fun β o e => (k.cell β o (h.st β o e)).trans (h.cell β o e), h.below.trans (h.base ▸ k.below)⟩

theorem Rep.mono {G w G' w'} (hl : Le G w G' w') {c v} (h : Rep G w c v) : Rep G' w' c v := by
  induction h with
  | p x => exact .p x
  | agg cs vs hs _ ih => exact .agg cs vs hs ih
  | tup cs vs hs _ ih => exact .tup cs vs hs ih
  | ptr b off β h => exact .ptr b off β (hl.bx _ _ h)
  | vnil a cap => exact .vnil a cap
  | vsl xs β o s cap val hcap hs h _ ih => exact .vsl xs β o s cap val hcap hs (fun i j c e => ⟨hl.st _ _ (h i j c e).1, (hl.cell _ _ (h i j c e).1).trans (h i j c e).2⟩) ih
  | vel xs i off β o s val hs h _ ih => exact .vel xs i off β o s val hs (fun i j c e => ⟨hl.st _ _ (h i j c e).1, (hl.cell _ _ (h i j c e).1).trans (h i j c e).2⟩) ih
  | hsl b off len β o s cap h hle => exact .hsl b off len β o s cap (hl.sl _ _ h) hle
  | hend b off a β o s cap h hle => exact .hend b off a β o s cap (hl.sl _ _ h) hle
  | hnil b a h => exact .hnil b a (hl.sl _ _ h)
  | hel b i off β o s cap h => exact .hel b i off β o s cap (hl.sl _ _ h)
  | map m μ h => exact .map m μ (hl.mp _ _ h)
  | it m μ h => exact .it m μ (hl.mp _ _ h)
  | fn f aa bs us vs h1 h2 _ _ ih3 ih4 => exact .fn f aa bs us vs h1 h2 ih3 ih4
  | ifc t c v _ ih => exact .ifc t c v ih
  | opt b c v _ h0 ih => exact .opt b c v ih h0
  | any v => exact .any v
theorem RepL.mono {G w G' w'} (hl : Le G w G' w') {cs vs} (h : RepL G w cs vs) : RepL G' w' cs vs := ⟨h.1, fun i c v a b => (h.2 i c v a b).mono hl⟩

/-- What is known of memory. -/
structure ASt where
  bx : Nat → Option (List AV)
  mp : Nat → Option (List (AV × AV))
  sl : Nat → Option (List AV)
  next : Nat

def BxOK (G : Ghost) (w : World) (b : Nat) (cs : List AV) : Prop :=
  ∃ β arr el, G.bx b = some β ∧ w.heap[β]? = some (.cells arr el (0, 0)) ∧ arr.size = cs.length ∧ ∀ (i : Nat) c v, cs[i]? = some c → arr[i]? = some v → Rep G w c v
/-- What no value is. -/
abbrev noV : AV := .vsl [.agg [], .agg [.any]]
theorem noV_rep {G : Ghost} {w : World} {v : Value} (h : Rep G w noV v) : False := by
  cases h with
  | vsl xs β o s cap val hcap hs h hr =>
    have h0 := hs 0 _ rfl
    have h1 := hs 1 _ rfl
    simp [AV.cells] at h0 h1
    omega
/-- An iterator over a text, among the maps. -/
def itE (s : ByteArray) (pos : Nat) : List (AV × AV) := [(noV, .tup [.p (.string s), .p (.int .i64 (pos : Int))])]
def MpOK (G : Ghost) (w : World) (b : Nat) (es : List (AV × AV)) : Prop :=
  (∃ μ ents clock, G.mp b = some μ ∧ w.heap[μ]? = some (.map ents clock) ∧ ents.size = es.length ∧
    (∀ (i : Nat) k x (e : MapEntry), es[i]? = some (k, x) → ents[i]? = some e → Rep G w k e.key ∧ Rep G w x e.val ∧ e.born < clock) ∧ (∀ (i j : Nat) (e e' : MapEntry), ents[i]? = some e → ents[j]? = some e' → e.born = e'.born → i = j)) ∨
  ∃ μ s pos, G.mp b = some μ ∧ w.heap[μ]? = some (.stringIter s pos) ∧ es = itE s pos
def SlOK (G : Ghost) (w : World) (b : Nat) (xs : List AV) : Prop :=
  (G.sl b = some none ∧ xs = []) ∨ ∃ β o s cap arr el, G.sl b = some (some (β, o, s, cap)) ∧ w.heap[β]? = some (.cells arr el (0, 0)) ∧ (0 < xs.length ∧ xs.length ≤ cap) ∧ o + cap * s ≤ arr.size ∧
    (∀ (i : Nat) x, xs[i]? = some x → x.cells.length = s) ∧ ∀ (i j : Nat) c v, rowCell xs i j = some c → arr[o + i * s + j]? = some v → Rep G w c v

/-- The block that a thing has. -/
inductive Owns (G : Ghost) (σ : ASt) : Nat → Nat × Nat → Prop where
  | bx (b β : Nat) (cs : List AV) (h : σ.bx b = some cs) (g : G.bx b = some β) : Owns G σ β (0, b)
  | mp (b β : Nat) (es : List (AV × AV)) (h : σ.mp b = some es) (g : G.mp b = some β) : Owns G σ β (1, b)
  | sl (b β : Nat) (r : Nat × Nat × Nat) (xs : List AV) (h : σ.sl b = some xs) (g : G.sl b = some (some (β, r))) : Owns G σ β (2, b)

/-- Behind the world in which all began. -/
structure Based (b : Nat) (w : World) : Prop where
  le : b ≤ w.heap.size
  ini : ∃ w0, Init w0 ∧ w0.heap.size ≤ b ∧ Below w0.heap.size w0 w
theorem Based.go {b : Nat} {w w' : World} (h : Based b w) (hb : Below b w w') : Based b w' :=
  ⟨Nat.le_trans h.le hb.size, let ⟨w0, h1, h2, h3⟩ := h.ini; ⟨w0, h1, h2, h3.trans (hb.mono h2)⟩⟩
structure SimW (G : Ghost) (σ : ASt) (w : World) : Prop where
  base : Based G.base w
  bx : ∀ b cs, σ.bx b = some cs → BxOK G w b cs
  mp : ∀ b es, σ.mp b = some es → MpOK G w b es
  sl : ∀ b xs, σ.sl b = some xs → SlOK G w b xs
  own : ∀ β k, Owns G σ β k → G.base ≤ β ∧ (∀ k', Owns G σ β k' → k' = k) ∧ ∀ o, ¬ G.st β o
  stIn : ∀ β o, G.st β o → β < w.heap.size
  fresh : ∀ b, σ.next ≤ b → G.bx b = none ∧ G.mp b = none ∧ G.sl b = none ∧ σ.bx b = none ∧ σ.mp b = none ∧ σ.sl b = none

theorem BxOK.lt {G w b cs β} (h : BxOK G w b cs) (g : G.bx b = some β) : β < w.heap.size := by
  obtain ⟨β', arr, el, h1, h2, _⟩ := h
  obtain rfl := Option.some.inj (g.symm.trans h1)
  exact (Array.getElem?_eq_some_iff.1 h2).1
theorem MpOK.lt {G w b cs β} (h : MpOK G w b cs) (g : G.mp b = some β) : β < w.heap.size := by
  rcases h with ⟨β', ents, clock, h1, h2, _⟩ | ⟨β', s, pos, h1, h2, _⟩
  · obtain rfl := Option.some.inj (g.symm.trans h1)
    exact (Array.getElem?_eq_some_iff.1 h2).1
  · obtain rfl := Option.some.inj (g.symm.trans h1)
    exact (Array.getElem?_eq_some_iff.1 h2).1
theorem SlOK.lt {G w b cs β r} (h : SlOK G w b cs) (g : G.sl b = some (some (β, r))) : β < w.heap.size := by
  rcases h with ⟨h1, _⟩ | ⟨β', o, s, cap, arr, el, h1, h2, _⟩
  · rw [g] at h1; cases h1
  · obtain ⟨rfl, rfl⟩ : β = β' ∧ r = (o, s, cap) := by rw [g] at h1; simpa using h1
    exact (Array.getElem?_eq_some_iff.1 h2).1
theorem SimW.own_lt {G σ w} (h : SimW G σ w) {β k} (ho : Owns G σ β k) : β < w.heap.size := by
  cases ho with
  | bx b β cs hb g => exact (h.bx b cs hb).lt g
  | mp b β cs hb g => exact (h.mp b cs hb).lt g
  | sl b β r cs hb g => exact (h.sl b cs hb).lt g
theorem BxOK.mono {G w G' w' b cs} (hl : Le G w G' w') (hh : ∀ β, G.bx b = some β → w'.heap[β]? = w.heap[β]?) (h : BxOK G w b cs) : BxOK G' w' b cs := by
  obtain ⟨β, arr, el, h1, h2, h3, h4⟩ := h
  exact ⟨β, arr, el, hl.bx _ _ h1, (hh β h1).trans h2, h3, fun i c v a b => (h4 i c v a b).mono hl⟩
theorem MpOK.mono {G w G' w' b es} (hl : Le G w G' w') (hh : ∀ β, G.mp b = some β → w'.heap[β]? = w.heap[β]?) (h : MpOK G w b es) : MpOK G' w' b es := by
  rcases h with ⟨μ, ents, clock, h1, h2, h3, h4, h5⟩ | ⟨μ, s, pos, h1, h2, h3⟩
  · exact .inl ⟨μ, ents, clock, hl.mp _ _ h1, (hh μ h1).trans h2, h3, fun i k x e a b => ⟨(h4 i k x e a b).1.mono hl, (h4 i k x e a b).2.1.mono hl, (h4 i k x e a b).2.2⟩, h5⟩
  · exact .inr ⟨μ, s, pos, hl.mp _ _ h1, (hh μ h1).trans h2, h3⟩
theorem SlOK.mono {G w G' w' b xs} (hl : Le G w G' w') (hh : ∀ β r, G.sl b = some (some (β, r)) → w'.heap[β]? = w.heap[β]?) (h : SlOK G w b xs) : SlOK G' w' b xs := by
  rcases h with ⟨h1, h2⟩ | ⟨β, o, s, cap, arr, el, h1, h2, h3, h4, h5, h6⟩
  · exact .inl ⟨hl.sl _ _ h1, h2⟩
  · exact .inr ⟨β, o, s, cap, arr, el, hl.sl _ _ h1, (hh β _ h1).trans h2, h3, h4, h5, fun i j c v a b => (h6 i j c v a b).mono hl⟩

/-- A frame. -/
structure Sim (G : Ghost) (fr : List AV) (σ : ASt) (D : List Deferred) (a : Act) (w : World) : Prop where
  tmps : RepL G w fr a.tmps.toList
  defers : a.defers = D
  w : SimW G σ w

/-! ### the world goes on -/
def upd {α : Type} (f : Nat → Option α) (b : Nat) (v : Option α) : Nat → Option α := fun x => if x = b then v else f x
@[simp] theorem upd_same {α : Type} (f : Nat → Option α) (b : Nat) (v : Option α) : upd f b v b = v := if_pos rfl
theorem upd_ne {α : Type} (f : Nat → Option α) {b x : Nat} (v : Option α) (h : x ≠ b) : upd f b v x = f x := if_neg h

/-- Nothing that is known of has turned, and the ghost is as it was. -/
theorem SimW.keep {G σ w w'} (h : SimW G σ w) (hl : Le G w G w') (hh : ∀ β k, Owns G σ β k → w'.heap[β]? = w.heap[β]?) : SimW G σ w' where
  base := h.base.go hl.below
  bx := fun b cs e => (h.bx b cs e).mono hl fun β g => hh β _ (.bx b β cs e g)
  mp := fun b es e => (h.mp b es e).mono hl fun β g => hh β _ (.mp b β es e g)
  sl := fun b xs e => (h.sl b xs e).mono hl fun β r g => hh β _ (.sl b β r xs e g)
  own := h.own
  stIn := fun β o e => Nat.lt_of_lt_of_le (h.stIn β o e) hl.below.size
  fresh := h.fresh
/-- New blocks alone. -/
theorem Le.grow {G σ w w'} (h : SimW G σ w) (hb : Below w.heap.size w w') : Le G w G w' where
  base := rfl
  bx := fun _ _ e => e
  mp := fun _ _ e => e
  sl := fun _ _ e => e
  st := fun _ _ e => e
  st2 := fun _ _ e => .inl e
  cell := fun β o e => hb.cell (p := ⟨β, o, none⟩) (h.stIn β o e)
  below := hb.mono h.base.le
theorem SimW.grow {G σ w w'} (h : SimW G σ w) (hb : Below w.heap.size w w') : SimW G σ w' :=
  h.keep (Le.grow h hb) fun β k ho => hb.block β (h.own_lt ho)
end Go.AL
