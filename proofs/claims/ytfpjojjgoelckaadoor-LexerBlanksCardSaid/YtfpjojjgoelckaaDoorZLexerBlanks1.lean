/- Parts of the proof of LexerBlanks: the logic, contracts, plain laws. -/
import Derived.Test.YtfpjojjgoelckaaDoorProg
import Derived.Lib.LaidTab
import Derived.Lib.ItoaNum
import Derived.Below
import Derived.Tactics
import Derived.Still
import Derived.ScopeJumps
import Derived.Laws.Cells
import Derived.Laws.Rows
import Derived.Deep.MidRow
import Derived.Laws.Strings
import Derived.Laws.NewFold
import Derived.Laws.CopyRow
import Derived.Laws.Tables
import Derived.Great.BuildSlice
import Derived.Laws.AppendOwn
import Derived.Laws.Append
import Derived.Laws.StructEq
import Derived.Lib.ConvBytes
import Derived.Laws.IdiomStrings
/-! What is known of the world in which all begins. -/
namespace Go.AL
open Go.Proofs
structure Init (w : World) : Prop where
  tab : Lib.TabIs Tryd.prog w "internal/strconv.uint64pow10" .u64 Lib.pow10Tab
  range : ∃ tp p, w.var? Tryd.prog "strconv.ErrRange" = some #[.iface tp p]
  syn : ∃ tp p, w.var? Tryd.prog "strconv.ErrSyntax" = some #[.iface tp p]
end Go.AL
/-! A semantic abstract logic over the machine. Values with slices as lists, boxes, maps and own slices by numbers. -/
namespace Go.AL
open Go.RowKit (Below)
set_option linter.unusedVariables false

/-- An abstract value. -/
inductive AV where
  | p (x : Value)
  | agg (cs : List AV)
  | tup (vs : List AV)
  | ptr (b off : Nat)
  | vsl (xs : List AV)
  | vel (xs : List AV) (i off : Nat)
  | hsl (b off len : Nat)
  | hel (b i off : Nat)
  | map (m : Nat)
  | it (m : Nat)
  | fn (f : Fn) (first cap : List AV)
  | ifc (t : TypeId) (v : AV)
  | opt (b : Bool) (v : AV)
  | any
  deriving Inhabited

def AV.cells : AV → List AV
  | .agg cs => cs
  | v => [v]

/-- The cell j of the element i. -/
def rowCell (xs : List AV) (i j : Nat) : Option AV := (xs[i]?).bind fun x => x.cells[j]?

/-- Where things lie. -/
structure Ghost where
  base : Nat
  st : Nat → Nat → Prop
  bx : Nat → Option Nat
  mp : Nat → Option Nat
  sl : Nat → Option (Option (Nat × Nat × Nat × Nat))

/-- A value is as an abstract one says. -/
inductive Rep (G : Ghost) (w : World) : AV → Value → Prop where
  | p (x : Value) : Rep G w (.p x) x
  | agg (cs : List AV) (vs : Array Value) (hs : cs.length = vs.size) (h : ∀ (i : Nat) c v, cs[i]? = some c → vs[i]? = some v → Rep G w c v) : Rep G w (.agg cs) (.agg vs)
  | tup (cs : List AV) (vs : Array Value) (hs : cs.length = vs.size) (h : ∀ (i : Nat) c v, cs[i]? = some c → vs[i]? = some v → Rep G w c v) : Rep G w (.tup cs) (.tuple vs)
  | ptr (b off β : Nat) (h : G.bx b = some β) : Rep G w (.ptr b off) (.pointer (some ⟨β, off, none⟩))
  | vnil (a : Option Addr) (cap : Nat) : Rep G w (.vsl []) (.slice a 0 cap)
  | vsl (xs : List AV) (β o s cap : Nat) (val : Nat → Nat → Value) (hcap : xs.length ≤ cap) (hs : ∀ (i : Nat) x, xs[i]? = some x → x.cells.length = s)
      (h : ∀ (i j : Nat) c, rowCell xs i j = some c → G.st β (o + i * s + j) ∧ w.cell? ⟨β, o + i * s + j, none⟩ = some (val i j))
      (hr : ∀ (i j : Nat) c, rowCell xs i j = some c → Rep G w c (val i j)) : Rep G w (.vsl xs) (.slice (some ⟨β, o, none⟩) xs.length cap)
  | vel (xs : List AV) (i off β o s : Nat) (val : Nat → Nat → Value) (hs : ∀ (i : Nat) x, xs[i]? = some x → x.cells.length = s)
      (h : ∀ (i j : Nat) c, rowCell xs i j = some c → G.st β (o + i * s + j) ∧ w.cell? ⟨β, o + i * s + j, none⟩ = some (val i j))
      (hr : ∀ (i j : Nat) c, rowCell xs i j = some c → Rep G w c (val i j)) : Rep G w (.vel xs i off) (.pointer (some ⟨β, o + i * s + off, none⟩))
  | hsl (b off len β o s cap : Nat) (h : G.sl b = some (some (β, o, s, cap))) (hle : off + len ≤ cap) : Rep G w (.hsl b off len) (.slice (some ⟨β, o + off * s, none⟩) len (cap - off))
  | hend (b off : Nat) (a : Option Addr) (β o s cap : Nat) (h : G.sl b = some (some (β, o, s, cap))) (hle : off = cap) : Rep G w (.hsl b off 0) (.slice a 0 0)
  | hnil (b : Nat) (a : Option Addr) (h : G.sl b = some none) : Rep G w (.hsl b 0 0) (.slice a 0 0)
  | hel (b i off β o s cap : Nat) (h : G.sl b = some (some (β, o, s, cap))) : Rep G w (.hel b i off) (.pointer (some ⟨β, o + i * s + off, none⟩))
  | map (m μ : Nat) (h : G.mp m = some μ) : Rep G w (.map m) (.map (some μ))
  | it (m μ : Nat) (h : G.mp m = some μ) : Rep G w (.it m) (.pointer (some ⟨μ, 0, none⟩))
  | fn (f : Fn) (aa bs : List AV) (us vs : Array Value) (h1 : aa.length = us.size) (h2 : bs.length = vs.size)
      (h3 : ∀ (i : Nat) c v, aa[i]? = some c → us[i]? = some v → Rep G w c v) (h4 : ∀ (i : Nat) c v, bs[i]? = some c → vs[i]? = some v → Rep G w c v) : Rep G w (.fn f aa bs) (.func f us vs)
  | ifc (t : TypeId) (c : AV) (v : Value) (h : Rep G w c v) : Rep G w (.ifc t c) (.iface t v)
  | opt (b : Bool) (c : AV) (v : Value) (h : b = true → Rep G w c v) (h0 : b = false → v = .tuple #[]) : Rep G w (.opt b c) v
  | any (v : Value) : Rep G w .any v

/-- Lists of values. -/
def RepL (G : Ghost) (w : World) (cs : List AV) (vs : List Value) : Prop := cs.length = vs.length ∧ ∀ (i : Nat) c v, cs[i]? = some c → vs[i]? = some v → Rep G w c v

/-- What comes behind. -/
structure Le (G : Ghost) (w : World) (G' : Ghost) (w' : World) : Prop where
  base : G'.base = G.base
  bx : ∀ b β, G.bx b = some β → G'.bx b = some β
  mp : ∀ b β, G.mp b = some β → G'.mp b = some β
  sl : ∀ b β, G.sl b = some β → G'.sl b = some β
  st : ∀ β o, G.st β o → G'.st β o
  st2 : ∀ β o, G'.st β o → G.st β o ∨ G.base ≤ β
  cell : ∀ β o, G.st β o → w'.cell? ⟨β, o, none⟩ = w.cell? ⟨β, o, none⟩
  below : Below G.base w w'

theorem Le.refl (G : Ghost) (w : World) : Le G w G w := ⟨rfl, fun _ _ h => h, fun _ _ h => h, fun _ _ h => h, fun _ _ h => h, fun _ _ h => .inl h, fun _ _ _ => rfl, Below.refl _ _⟩
theorem Le.trans {G w G' w' G'' w''} (h : Le G w G' w') (k : Le G' w' G'' w'') : Le G w G'' w'' :=
  ⟨k.base.trans h.base, fun b β e => k.bx b β (h.bx b β e), fun b β e => k.mp b β (h.mp b β e), fun b β e => k.sl b β (h.sl b β e), fun β o e => k.st β o (h.st β o e), fun β o e => (k.st2 β o e).elim (fun e => h.st2 β o e) (fun e => .inr (h.base ▸ e)),
    fun β o e => (k.cell β o (h.st β o e)).trans (h.cell β o e), h.below.trans (h.base ▸ k.below)⟩

theorem Rep.mono {G w G' w'} (hl : Le G w G' w') {c v} (h : Rep G w c v) : Rep G' w' c v := by
  induction h with
  | p x => exact .p x
  | agg cs vs hs _ ih => exact .agg cs vs hs ih
  | tup cs vs hs _ ih => exact .tup cs vs hs ih
  | ptr b off β h => exact .ptr b off β (hl.bx _ _ h)
  | vnil a cap => exact .vnil a cap
  | vsl xs β o s cap val hcap hs h _ ih => exact .vsl xs β o s cap val hcap hs (fun i j c e => ⟨hl.st _ _ (h i j c e).1, (hl.cell _ _ (h i j c e).1).trans (h i j c e).2⟩) ih
  | vel xs i off β o s val hs h _ ih => exact .vel xs i off β o s val hs (fun i j c e => ⟨hl.st _ _ (h i j c e).1, (hl.cell _ _ (h i j c e).1).trans (h i j c e).2⟩) ih
  | hsl b off len β o s cap h hle => exact .hsl b off len β o s cap (hl.sl _ _ h) hle
  | hend b off a β o s cap h hle => exact .hend b off a β o s cap (hl.sl _ _ h) hle
  | hnil b a h => exact .hnil b a (hl.sl _ _ h)
  | hel b i off β o s cap h => exact .hel b i off β o s cap (hl.sl _ _ h)
  | map m μ h => exact .map m μ (hl.mp _ _ h)
  | it m μ h => exact .it m μ (hl.mp _ _ h)
  | fn f aa bs us vs h1 h2 _ _ ih3 ih4 => exact .fn f aa bs us vs h1 h2 ih3 ih4
  | ifc t c v _ ih => exact .ifc t c v ih
  | opt b c v _ h0 ih => exact .opt b c v ih h0
  | any v => exact .any v
theorem RepL.mono {G w G' w'} (hl : Le G w G' w') {cs vs} (h : RepL G w cs vs) : RepL G' w' cs vs := ⟨h.1, fun i c v a b => (h.2 i c v a b).mono hl⟩

/-- What is known of memory. -/
structure ASt where
  bx : Nat → Option (List AV)
  mp : Nat → Option (List (AV × AV))
  sl : Nat → Option (List AV)
  next : Nat

def BxOK (G : Ghost) (w : World) (b : Nat) (cs : List AV) : Prop :=
  ∃ β arr el, G.bx b = some β ∧ w.heap[β]? = some (.cells arr el (0, 0)) ∧ arr.size = cs.length ∧ ∀ (i : Nat) c v, cs[i]? = some c → arr[i]? = some v → Rep G w c v
/-- What no value is. -/
abbrev noV : AV := .vsl [.agg [], .agg [.any]]
theorem noV_rep {G : Ghost} {w : World} {v : Value} (h : Rep G w noV v) : False := by
  cases h with
  | vsl xs β o s cap val hcap hs h hr =>
    have h0 := hs 0 _ rfl
    have h1 := hs 1 _ rfl
    simp [AV.cells] at h0 h1
    omega
/-- An iterator over a text, among the maps. -/
def itE (s : ByteArray) (pos : Nat) : List (AV × AV) := [(noV, .tup [.p (.string s), .p (.int .i64 (pos : Int))])]
def MpOK (G : Ghost) (w : World) (b : Nat) (es : List (AV × AV)) : Prop :=
  (∃ μ ents clock, G.mp b = some μ ∧ w.heap[μ]? = some (.map ents clock) ∧ ents.size = es.length ∧
    (∀ (i : Nat) k x (e : MapEntry), es[i]? = some (k, x) → ents[i]? = some e → Rep G w k e.key ∧ Rep G w x e.val ∧ e.born < clock) ∧ (∀ (i j : Nat) (e e' : MapEntry), ents[i]? = some e → ents[j]? = some e' → e.born = e'.born → i = j)) ∨
  ∃ μ s pos, G.mp b = some μ ∧ w.heap[μ]? = some (.stringIter s pos) ∧ es = itE s pos
def SlOK (G : Ghost) (w : World) (b : Nat) (xs : List AV) : Prop :=
  (G.sl b = some none ∧ xs = []) ∨ ∃ β o s cap arr el, G.sl b = some (some (β, o, s, cap)) ∧ w.heap[β]? = some (.cells arr el (0, 0)) ∧ (0 < xs.length ∧ xs.length ≤ cap) ∧ o + cap * s ≤ arr.size ∧
    (∀ (i : Nat) x, xs[i]? = some x → x.cells.length = s) ∧ ∀ (i j : Nat) c v, rowCell xs i j = some c → arr[o + i * s + j]? = some v → Rep G w c v

/-- The block that a thing has. -/
inductive Owns (G : Ghost) (σ : ASt) : Nat → Nat × Nat → Prop where
  | bx (b β : Nat) (cs : List AV) (h : σ.bx b = some cs) (g : G.bx b = some β) : Owns G σ β (0, b)
  | mp (b β : Nat) (es : List (AV × AV)) (h : σ.mp b = some es) (g : G.mp b = some β) : Owns G σ β (1, b)
  | sl (b β : Nat) (r : Nat × Nat × Nat) (xs : List AV) (h : σ.sl b = some xs) (g : G.sl b = some (some (β, r))) : Owns G σ β (2, b)

/-- Behind the world in which all began. -/
structure Based (b : Nat) (w : World) : Prop where
  le : b ≤ w.heap.size
  ini : ∃ w0, Init w0 ∧ w0.heap.size ≤ b ∧ Below w0.heap.size w0 w
theorem Based.go {b : Nat} {w w' : World} (h : Based b w) (hb : Below b w w') : Based b w' :=
  ⟨Nat.le_trans h.le hb.size, let ⟨w0, h1, h2, h3⟩ := h.ini; ⟨w0, h1, h2, h3.trans (hb.mono h2)⟩⟩
structure SimW (G : Ghost) (σ : ASt) (w : World) : Prop where
  base : Based G.base w
  bx : ∀ b cs, σ.bx b = some cs → BxOK G w b cs
  mp : ∀ b es, σ.mp b = some es → MpOK G w b es
  sl : ∀ b xs, σ.sl b = some xs → SlOK G w b xs
  own : ∀ β k, Owns G σ β k → G.base ≤ β ∧ (∀ k', Owns G σ β k' → k' = k) ∧ ∀ o, ¬ G.st β o
  stIn : ∀ β o, G.st β o → β < w.heap.size
  fresh : ∀ b, σ.next ≤ b → G.bx b = none ∧ G.mp b = none ∧ G.sl b = none ∧ σ.bx b = none ∧ σ.mp b = none ∧ σ.sl b = none

theorem BxOK.lt {G w b cs β} (h : BxOK G w b cs) (g : G.bx b = some β) : β < w.heap.size := by
  obtain ⟨β', arr, el, h1, h2, _⟩ := h
  obtain rfl := Option.some.inj (g.symm.trans h1)
  exact (Array.getElem?_eq_some_iff.1 h2).1
theorem MpOK.lt {G w b cs β} (h : MpOK G w b cs) (g : G.mp b = some β) : β < w.heap.size := by
  rcases h with ⟨β', ents, clock, h1, h2, _⟩ | ⟨β', s, pos, h1, h2, _⟩
  · obtain rfl := Option.some.inj (g.symm.trans h1)
    exact (Array.getElem?_eq_some_iff.1 h2).1
  · obtain rfl := Option.some.inj (g.symm.trans h1)
    exact (Array.getElem?_eq_some_iff.1 h2).1
theorem SlOK.lt {G w b cs β r} (h : SlOK G w b cs) (g : G.sl b = some (some (β, r))) : β < w.heap.size := by
  rcases h with ⟨h1, _⟩ | ⟨β', o, s, cap, arr, el, h1, h2, _⟩
  · rw [g] at h1; cases h1
  · obtain ⟨rfl, rfl⟩ : β = β' ∧ r = (o, s, cap) := by rw [g] at h1; simpa using h1
    exact (Array.getElem?_eq_some_iff.1 h2).1
theorem SimW.own_lt {G σ w} (h : SimW G σ w) {β k} (ho : Owns G σ β k) : β < w.heap.size := by
  cases ho with
  | bx b β cs hb g => exact (h.bx b cs hb).lt g
  | mp b β cs hb g => exact (h.mp b cs hb).lt g
  | sl b β r cs hb g => exact (h.sl b cs hb).lt g
theorem BxOK.mono {G w G' w' b cs} (hl : Le G w G' w') (hh : ∀ β, G.bx b = some β → w'.heap[β]? = w.heap[β]?) (h : BxOK G w b cs) : BxOK G' w' b cs := by
  obtain ⟨β, arr, el, h1, h2, h3, h4⟩ := h
  exact ⟨β, arr, el, hl.bx _ _ h1, (hh β h1).trans h2, h3, fun i c v a b => (h4 i c v a b).mono hl⟩
theorem MpOK.mono {G w G' w' b es} (hl : Le G w G' w') (hh : ∀ β, G.mp b = some β → w'.heap[β]? = w.heap[β]?) (h : MpOK G w b es) : MpOK G' w' b es := by
  rcases h with ⟨μ, ents, clock, h1, h2, h3, h4, h5⟩ | ⟨μ, s, pos, h1, h2, h3⟩
  · exact .inl ⟨μ, ents, clock, hl.mp _ _ h1, (hh μ h1).trans h2, h3, fun i k x e a b => ⟨(h4 i k x e a b).1.mono hl, (h4 i k x e a b).2.1.mono hl, (h4 i k x e a b).2.2⟩, h5⟩
  · exact .inr ⟨μ, s, pos, hl.mp _ _ h1, (hh μ h1).trans h2, h3⟩
theorem SlOK.mono {G w G' w' b xs} (hl : Le G w G' w') (hh : ∀ β r, G.sl b = some (some (β, r)) → w'.heap[β]? = w.heap[β]?) (h : SlOK G w b xs) : SlOK G' w' b xs := by
  rcases h with ⟨h1, h2⟩ | ⟨β, o, s, cap, arr, el, h1, h2, h3, h4, h5, h6⟩
  · exact .inl ⟨hl.sl _ _ h1, h2⟩
  · exact .inr ⟨β, o, s, cap, arr, el, hl.sl _ _ h1, (hh β _ h1).trans h2, h3, h4, h5, fun i j c v a b => (h6 i j c v a b).mono hl⟩

/-- A frame. -/
structure Sim (G : Ghost) (fr : List AV) (σ : ASt) (D : List Deferred) (a : Act) (w : World) : Prop where
  tmps : RepL G w fr a.tmps.toList
  defers : a.defers = D
  w : SimW G σ w

/-! ### the world goes on -/
def upd {α : Type} (f : Nat → Option α) (b : Nat) (v : Option α) : Nat → Option α := fun x => if x = b then v else f x
@[simp] theorem upd_same {α : Type} (f : Nat → Option α) (b : Nat) (v : Option α) : upd f b v b = v := if_pos rfl
theorem upd_ne {α : Type} (f : Nat → Option α) {b x : Nat} (v : Option α) (h : x ≠ b) : upd f b v x = f x := if_neg h

/-- Nothing that is known of has turned, and the ghost is as it was. -/
theorem SimW.keep {G σ w w'} (h : SimW G σ w) (hl : Le G w G w') (hh : ∀ β k, Owns G σ β k → w'.heap[β]? = w.heap[β]?) : SimW G σ w' where
  base := h.base.go hl.below
  bx := fun b cs e => (h.bx b cs e).mono hl fun β g => hh β _ (.bx b β cs e g)
  mp := fun b es e => (h.mp b es e).mono hl fun β g => hh β _ (.mp b β es e g)
  sl := fun b xs e => (h.sl b xs e).mono hl fun β r g => hh β _ (.sl b β r xs e g)
  own := h.own
  stIn := fun β o e => Nat.lt_of_lt_of_le (h.stIn β o e) hl.below.size
  fresh := h.fresh
/-- New blocks alone. -/
theorem Le.grow {G σ w w'} (h : SimW G σ w) (hb : Below w.heap.size w w') : Le G w G w' where
  base := rfl
  bx := fun _ _ e => e
  mp := fun _ _ e => e
  sl := fun _ _ e => e
  st := fun _ _ e => e
  st2 := fun _ _ e => .inl e
  cell := fun β o e => hb.cell (p := ⟨β, o, none⟩) (h.stIn β o e)
  below := hb.mono h.base.le
theorem SimW.grow {G σ w w'} (h : SimW G σ w) (hb : Below w.heap.size w w') : SimW G σ w' :=
  h.keep (Le.grow h hb) fun β k ho => hb.block β (h.own_lt ho)
end Go.AL
/-! How memory goes on. -/
namespace Go.AL
open Go.RowKit (Below)
set_option linter.unusedVariables false

/-- One block alone may have turned. -/
structure Touch (w w' : World) (β : Nat) : Prop where
  os : w'.os = w.os
  tape : w'.tape = w.tape
  output : w'.output = w.output
  size : w'.heap.size = w.heap.size
  block : ∀ k, k ≠ β → w'.heap[k]? = w.heap[k]?
theorem Touch.refl (w : World) (β : Nat) : Touch w w β := ⟨rfl, rfl, rfl, rfl, fun _ _ => rfl⟩
theorem Touch.trans {w w' w'' : World} {β : Nat} (h : Touch w w' β) (k : Touch w' w'' β) : Touch w w'' β :=
  ⟨k.os.trans h.os, k.tape.trans h.tape, k.output.trans h.output, k.size.trans h.size, fun i hi => (k.block i hi).trans (h.block i hi)⟩
theorem touch_setCell (w : World) (a : Addr) (v : Value) : Touch w (w.setCell a v) a.block :=
  ⟨rfl, rfl, rfl, by simp [World.setCell], fun k hk => by simp only [World.setCell, Array.getElem?_modify]; rw [if_neg (fun e => hk e.symm)]⟩
theorem cell_block {w w' : World} {β o : Nat} (h : w'.heap[β]? = w.heap[β]?) : w'.cell? ⟨β, o, none⟩ = w.cell? ⟨β, o, none⟩ := by
  unfold World.cell?; simp only [h]

theorem Le.touch {G σ w w' β k} (h : SimW G σ w) (ho : Owns G σ β k) (ht : Touch w w' β) : Le G w G w' where
  base := rfl
  bx := fun _ _ e => e
  mp := fun _ _ e => e
  sl := fun _ _ e => e
  st := fun _ _ e => e
  st2 := fun _ _ e => .inl e
  cell := fun γ o e => cell_block (ht.block γ fun hh => (h.own β k ho).2.2 o (hh ▸ e))
  below := ⟨ht.os, ht.tape, ht.output, Nat.le_of_eq ht.size.symm, fun i hi => ht.block i fun hh => by have := (h.own β k ho).1; omega⟩

/-- What is known of the other things stays known. -/
theorem SimW.others {G σ w w' β k} (h : SimW G σ w) (ho : Owns G σ β k) (ht : Touch w w' β) :
    (∀ b cs, σ.bx b = some cs → k ≠ (0, b) → BxOK G w' b cs) ∧ (∀ b cs, σ.mp b = some cs → k ≠ (1, b) → MpOK G w' b cs) ∧ (∀ b cs, σ.sl b = some cs → k ≠ (2, b) → SlOK G w' b cs) := by
  have hl := Le.touch h ho ht
  refine ⟨fun b cs e hk => (h.bx b cs e).mono hl fun γ g => ht.block γ fun hh => ?_, fun b cs e hk => (h.mp b cs e).mono hl fun γ g => ht.block γ fun hh => ?_, fun b cs e hk => (h.sl b cs e).mono hl fun γ r g => ht.block γ fun hh => ?_⟩
  · subst hh; exact hk ((h.own γ k ho).2.1 _ (.bx b γ cs e g)).symm
  · subst hh; exact hk ((h.own γ k ho).2.1 _ (.mp b γ cs e g)).symm
  · subst hh; exact hk ((h.own γ k ho).2.1 _ (.sl b γ r cs e g)).symm

theorem SimW.touch_bx {G σ w w' b cs cs' β arr el} (h : SimW G σ w) (hb : σ.bx b = some cs) (g : G.bx b = some β) (ht : Touch w w' β) (hw : w'.heap[β]? = some (.cells arr el (0, 0)))
    (hs : arr.size = cs'.length) (hr : ∀ (i : Nat) c v, cs'[i]? = some c → arr[i]? = some v → Rep G w c v) : SimW G { σ with bx := upd σ.bx b (some cs') } w' := by
  have ho : Owns G σ β (0, b) := .bx b β cs hb g
  have hl := Le.touch h ho ht
  obtain ⟨o1, o2, o3⟩ := h.others ho ht
  have hown : ∀ γ k, Owns G { σ with bx := upd σ.bx b (some cs') } γ k → Owns G σ γ k := by
    intro γ k hk
    cases hk with
    | bx b' β' cs2 h2 g2 =>
      by_cases e : b' = b
      · subst e; exact .bx _ _ cs hb g2
      · exact .bx _ _ cs2 ((upd_ne _ _ e).symm.trans h2) g2
    | mp b' β' cs2 h2 g2 => exact .mp _ _ cs2 h2 g2
    | sl b' β' r cs2 h2 g2 => exact .sl _ _ r cs2 h2 g2
  refine ⟨h.base.go hl.below, fun b' cs2 e => ?_, fun b' cs2 e => o2 b' cs2 e (by simp), fun b' cs2 e => o3 b' cs2 e (by simp), ?_, fun γ o e => by rw [ht.size]; exact h.stIn γ o e, fun b' hb' => ?_⟩
  · by_cases eb : b' = b
    · subst eb
      obtain rfl := Option.some.inj ((upd_same σ.bx b' (some cs')).symm.trans e)
      exact ⟨β, arr, el, g, hw, hs, fun i c v a b => (hr i c v a b).mono hl⟩
    · exact o1 b' cs2 ((upd_ne _ _ eb).symm.trans e) (by simpa using fun hh => eb hh.symm)
  · intro γ k hk
    exact ⟨(h.own γ k (hown γ k hk)).1, fun k' hk' => (h.own γ k (hown γ k hk)).2.1 k' (hown γ k' hk'), (h.own γ k (hown γ k hk)).2.2⟩
  · obtain ⟨f1, f2, f3, f4, f5, f6⟩ := h.fresh b' hb'
    refine ⟨f1, f2, f3, ?_, f5, f6⟩
    have : b' ≠ b := fun e => by subst e; rw [f4] at hb; cases hb
    exact (upd_ne _ _ this).trans f4

theorem SimW.touch_mp {G σ w w' b cs cs' β} (h : SimW G σ w) (hb : σ.mp b = some cs) (g : G.mp b = some β) (ht : Touch w w' β) (hw : Le G w G w' → MpOK G w' b cs') : SimW G { σ with mp := upd σ.mp b (some cs') } w' := by
  have ho : Owns G σ β (1, b) := .mp b β cs hb g
  have hl := Le.touch h ho ht
  obtain ⟨o1, o2, o3⟩ := h.others ho ht
  have hown : ∀ γ k, Owns G { σ with mp := upd σ.mp b (some cs') } γ k → Owns G σ γ k := by
    intro γ k hk
    cases hk with
    | mp b' β' cs2 h2 g2 =>
      by_cases e : b' = b
      · subst e; exact .mp _ _ cs hb g2
      · exact .mp _ _ cs2 ((upd_ne _ _ e).symm.trans h2) g2
    | bx b' β' cs2 h2 g2 => exact .bx _ _ cs2 h2 g2
    | sl b' β' r cs2 h2 g2 => exact .sl _ _ r cs2 h2 g2
  refine ⟨h.base.go hl.below, fun b' cs2 e => o1 b' cs2 e (by simp), fun b' cs2 e => ?_, fun b' cs2 e => o3 b' cs2 e (by simp), ?_, fun γ o e => by rw [ht.size]; exact h.stIn γ o e, fun b' hb' => ?_⟩
  · by_cases eb : b' = b
    · subst eb
      obtain rfl := Option.some.inj ((upd_same σ.mp b' (some cs')).symm.trans e)
      exact hw hl
    · exact o2 b' cs2 ((upd_ne _ _ eb).symm.trans e) (by simpa using fun hh => eb hh.symm)
  · intro γ k hk
    exact ⟨(h.own γ k (hown γ k hk)).1, fun k' hk' => (h.own γ k (hown γ k hk)).2.1 k' (hown γ k' hk'), (h.own γ k (hown γ k hk)).2.2⟩
  · obtain ⟨f1, f2, f3, f4, f5, f6⟩ := h.fresh b' hb'
    refine ⟨f1, f2, f3, f4, ?_, f6⟩
    have : b' ≠ b := fun e => by subst e; rw [f5] at hb; cases hb
    exact (upd_ne _ _ this).trans f5

theorem SimW.touch_sl {G σ w w' b cs cs' β r} (h : SimW G σ w) (hb : σ.sl b = some cs) (g : G.sl b = some (some (β, r))) (ht : Touch w w' β) (hw : Le G w G w' → SlOK G w' b cs') : SimW G { σ with sl := upd σ.sl b (some cs') } w' := by
  have ho : Owns G σ β (2, b) := .sl b β r cs hb g
  have hl := Le.touch h ho ht
  obtain ⟨o1, o2, o3⟩ := h.others ho ht
  have hown : ∀ γ k, Owns G { σ with sl := upd σ.sl b (some cs') } γ k → Owns G σ γ k := by
    intro γ k hk
    cases hk with
    | sl b' β' r2 cs2 h2 g2 =>
      by_cases e : b' = b
      · subst e; exact .sl _ _ r2 cs hb g2
      · exact .sl _ _ r2 cs2 ((upd_ne _ _ e).symm.trans h2) g2
    | bx b' β' cs2 h2 g2 => exact .bx _ _ cs2 h2 g2
    | mp b' β' cs2 h2 g2 => exact .mp _ _ cs2 h2 g2
  refine ⟨h.base.go hl.below, fun b' cs2 e => o1 b' cs2 e (by simp), fun b' cs2 e => o2 b' cs2 e (by simp), fun b' cs2 e => ?_, ?_, fun γ o e => by rw [ht.size]; exact h.stIn γ o e, fun b' hb' => ?_⟩
  · by_cases eb : b' = b
    · subst eb
      obtain rfl := Option.some.inj ((upd_same σ.sl b' (some cs')).symm.trans e)
      exact hw hl
    · exact o3 b' cs2 ((upd_ne _ _ eb).symm.trans e) (by simpa using fun hh => eb hh.symm)
  · intro γ k hk
    exact ⟨(h.own γ k (hown γ k hk)).1, fun k' hk' => (h.own γ k (hown γ k hk)).2.1 k' (hown γ k' hk'), (h.own γ k (hown γ k hk)).2.2⟩
  · obtain ⟨f1, f2, f3, f4, f5, f6⟩ := h.fresh b' hb'
    refine ⟨f1, f2, f3, f4, f5, ?_⟩
    have : b' ≠ b := fun e => by subst e; rw [f6] at hb; cases hb
    exact (upd_ne _ _ this).trans f6

/-! ### new blocks -/
theorem heap_alloc_new (w : World) (o : Obj) : (w.alloc o).heap[w.heap.size]? = some o := by
  show (w.heap.push o)[w.heap.size]? = _
  simp
theorem below_alloc' (w : World) (o : Obj) : Below w.heap.size w (w.alloc o) := (Below.refl _ _).alloc (Nat.le_refl _) o

/-- The ghost with a new box. -/
def Ghost.addBx (G : Ghost) (n β : Nat) : Ghost := { G with bx := upd G.bx n (some β) }
def Ghost.addMp (G : Ghost) (n β : Nat) : Ghost := { G with mp := upd G.mp n (some β) }
def Ghost.addSl (G : Ghost) (n : Nat) (r : Option (Nat × Nat × Nat × Nat)) : Ghost := { G with sl := upd G.sl n (some r) }
def Ghost.addSt (G : Ghost) (q : Nat → Nat → Prop) : Ghost := { G with st := fun β o => G.st β o ∨ q β o }
def ASt.addBx (σ : ASt) (cs : List AV) : ASt := { σ with bx := upd σ.bx σ.next (some cs), next := σ.next + 1 }
def ASt.addMp (σ : ASt) (es : List (AV × AV)) : ASt := { σ with mp := upd σ.mp σ.next (some es), next := σ.next + 1 }
def ASt.addSl (σ : ASt) (xs : List AV) : ASt := { σ with sl := upd σ.sl σ.next (some xs), next := σ.next + 1 }

theorem Le.addBx {G σ w w'} (h : SimW G σ w) (hb : Below w.heap.size w w') (β : Nat) : Le G w (G.addBx σ.next β) w' where
  base := rfl
  bx := fun b γ e => (upd_ne G.bx (some β) (fun hh => by subst hh; rw [(h.fresh _ (Nat.le_refl _)).1] at e; cases e)).trans e
  mp := fun _ _ e => e
  sl := fun _ _ e => e
  st := fun _ _ e => e
  st2 := fun _ _ e => .inl e
  cell := (Le.grow h hb).cell
  below := hb.mono h.base.le
theorem Le.addMp {G σ w w'} (h : SimW G σ w) (hb : Below w.heap.size w w') (β : Nat) : Le G w (G.addMp σ.next β) w' where
  base := rfl
  mp := fun b γ e => (upd_ne G.mp (some β) (fun hh => by subst hh; rw [(h.fresh _ (Nat.le_refl _)).2.1] at e; cases e)).trans e
  bx := fun _ _ e => e
  sl := fun _ _ e => e
  st := fun _ _ e => e
  st2 := fun _ _ e => .inl e
  cell := (Le.grow h hb).cell
  below := hb.mono h.base.le
theorem Le.addSl {G σ w w'} (h : SimW G σ w) (hb : Below w.heap.size w w') (r : Option (Nat × Nat × Nat × Nat)) : Le G w (G.addSl σ.next r) w' where
  base := rfl
  sl := fun b γ e => (upd_ne G.sl (some r) (fun hh => by subst hh; rw [(h.fresh _ (Nat.le_refl _)).2.2.1] at e; cases e)).trans e
  bx := fun _ _ e => e
  mp := fun _ _ e => e
  st := fun _ _ e => e
  st2 := fun _ _ e => .inl e
  cell := (Le.grow h hb).cell
  below := hb.mono h.base.le
theorem Le.addSt {G σ w w'} (h : SimW G σ w) (hb : Below w.heap.size w w') (q : Nat → Nat → Prop) (hq : ∀ β o, q β o → w.heap.size ≤ β) : Le G w (G.addSt q) w' where
  base := rfl
  bx := fun _ _ e => e
  mp := fun _ _ e => e
  sl := fun _ _ e => e
  st := fun _ _ e => .inl e
  st2 := fun β o e => e.elim .inl fun e => .inr (Nat.le_trans h.base.le (hq β o e))
  cell := (Le.grow h hb).cell
  below := hb.mono h.base.le

theorem SimW.addBx {G σ w w' β cs arr el} (h : SimW G σ w) (hb : Below w.heap.size w w') (hn : w.heap.size ≤ β) (hw : w'.heap[β]? = some (.cells arr el (0, 0)))
    (hs : arr.size = cs.length) (hr : ∀ (i : Nat) c v, cs[i]? = some c → arr[i]? = some v → Rep G w c v) : SimW (G.addBx σ.next β) (σ.addBx cs) w' := by
  have hl := Le.addBx h hb β
  have f0 := h.fresh _ (Nat.le_refl σ.next)
  have hown : ∀ γ k, Owns (G.addBx σ.next β) (σ.addBx cs) γ k → (γ = β ∧ k = (0, σ.next)) ∨ Owns G σ γ k := by
    intro γ k hk
    cases hk with
    | bx b' β' cs2 h2 g2 =>
      by_cases e : b' = σ.next
      · subst e; exact .inl ⟨(Option.some.inj ((upd_same G.bx σ.next (some β)).symm.trans g2)).symm, rfl⟩
      · exact .inr (.bx _ _ cs2 ((upd_ne _ _ e).symm.trans h2) ((upd_ne _ _ e).symm.trans g2))
    | mp b' β' cs2 h2 g2 => exact .inr (.mp _ _ cs2 h2 g2)
    | sl b' β' r cs2 h2 g2 => exact .inr (.sl _ _ r cs2 h2 g2)
  refine ⟨h.base.go hl.below, fun b' cs2 e => ?_, fun b' cs2 e => (h.mp b' cs2 e).mono hl fun γ g => hb.block γ ((h.mp b' cs2 e).lt g), fun b' cs2 e => (h.sl b' cs2 e).mono hl fun γ r g => hb.block γ ((h.sl b' cs2 e).lt g), ?_,
    fun γ o e => Nat.lt_of_lt_of_le (h.stIn γ o e) hb.size, fun b' hb' => ?_⟩
  · by_cases eb : b' = σ.next
    · subst eb
      obtain rfl := Option.some.inj ((upd_same σ.bx σ.next (some cs)).symm.trans e)
      exact ⟨β, arr, el, upd_same _ _ _, hw, hs, fun i c v a b => (hr i c v a b).mono hl⟩
    · have e' : σ.bx b' = some cs2 := (upd_ne _ _ eb).symm.trans e
      exact (h.bx b' cs2 e').mono hl fun γ g => hb.block γ ((h.bx b' cs2 e').lt g)
  · intro γ k hk
    rcases hown γ k hk with ⟨rfl, rfl⟩ | hk
    · refine ⟨Nat.le_trans h.base.le hn, fun k' hk' => ?_, fun o e => ?_⟩
      · rcases hown _ k' hk' with ⟨_, rfl⟩ | hk'
        · rfl
        · have := h.own_lt hk'; omega
      · have := h.stIn _ o e; omega
    · have hlt := h.own_lt hk
      refine ⟨(h.own γ k hk).1, fun k' hk' => ?_, (h.own γ k hk).2.2⟩
      rcases hown _ k' hk' with ⟨rfl, _⟩ | hk'
      · omega
      · exact (h.own γ k hk).2.1 k' hk'
  · have hb2 : σ.next + 1 ≤ b' := hb'
    obtain ⟨f1, f2, f3, f4, f5, f6⟩ := h.fresh b' (by omega)
    have : b' ≠ σ.next := by omega
    exact ⟨(upd_ne _ _ this).trans f1, f2, f3, (upd_ne _ _ this).trans f4, f5, f6⟩
theorem SimW.addMp {G σ w w' β es} (h : SimW G σ w) (hb : Below w.heap.size w w') (hn : w.heap.size ≤ β) (hw : Le G w (G.addMp σ.next β) w' → MpOK (G.addMp σ.next β) w' σ.next es) : SimW (G.addMp σ.next β) (σ.addMp es) w' := by
  have hl := Le.addMp h hb β
  have hown : ∀ γ k, Owns (G.addMp σ.next β) (σ.addMp es) γ k → (γ = β ∧ k = (1, σ.next)) ∨ Owns G σ γ k := by
    intro γ k hk
    cases hk with
    | mp b' β' cs2 h2 g2 =>
      by_cases e : b' = σ.next
      · subst e; exact .inl ⟨(Option.some.inj ((upd_same G.mp σ.next (some β)).symm.trans g2)).symm, rfl⟩
      · exact .inr (.mp _ _ cs2 ((upd_ne _ _ e).symm.trans h2) ((upd_ne _ _ e).symm.trans g2))
    | bx b' β' cs2 h2 g2 => exact .inr (.bx _ _ cs2 h2 g2)
    | sl b' β' r cs2 h2 g2 => exact .inr (.sl _ _ r cs2 h2 g2)
  refine ⟨h.base.go hl.below, fun b' cs2 e => (h.bx b' cs2 e).mono hl fun γ g => hb.block γ ((h.bx b' cs2 e).lt g), fun b' cs2 e => ?_, fun b' cs2 e => (h.sl b' cs2 e).mono hl fun γ r g => hb.block γ ((h.sl b' cs2 e).lt g), ?_,
    fun γ o e => Nat.lt_of_lt_of_le (h.stIn γ o e) hb.size, fun b' hb' => ?_⟩
  · by_cases eb : b' = σ.next
    · subst eb
      obtain rfl := Option.some.inj ((upd_same σ.mp σ.next (some es)).symm.trans e)
      exact hw hl
    · have e' : σ.mp b' = some cs2 := (upd_ne _ _ eb).symm.trans e
      exact (h.mp b' cs2 e').mono hl fun γ g => hb.block γ ((h.mp b' cs2 e').lt g)
  · intro γ k hk
    rcases hown γ k hk with ⟨rfl, rfl⟩ | hk
    · refine ⟨Nat.le_trans h.base.le hn, fun k' hk' => ?_, fun o e => ?_⟩
      · rcases hown _ k' hk' with ⟨_, rfl⟩ | hk'
        · rfl
        · have := h.own_lt hk'; omega
      · have := h.stIn _ o e; omega
    · have hlt := h.own_lt hk
      refine ⟨(h.own γ k hk).1, fun k' hk' => ?_, (h.own γ k hk).2.2⟩
      rcases hown _ k' hk' with ⟨rfl, _⟩ | hk'
      · omega
      · exact (h.own γ k hk).2.1 k' hk'
  · have hb2 : σ.next + 1 ≤ b' := hb'
    obtain ⟨f1, f2, f3, f4, f5, f6⟩ := h.fresh b' (by omega)
    have : b' ≠ σ.next := by omega
    exact ⟨f1, (upd_ne _ _ this).trans f2, f3, f4, (upd_ne _ _ this).trans f5, f6⟩
theorem SimW.addSl {G σ w w' xs} (r : Option (Nat × Nat × Nat × Nat)) (h : SimW G σ w) (hb : Below w.heap.size w w') (hn : ∀ β q, r = some (β, q) → w.heap.size ≤ β)
    (hw : Le G w (G.addSl σ.next r) w' → SlOK (G.addSl σ.next r) w' σ.next xs) : SimW (G.addSl σ.next r) (σ.addSl xs) w' := by
  have hl := Le.addSl h hb r
  have hown : ∀ γ k, Owns (G.addSl σ.next r) (σ.addSl xs) γ k → (w.heap.size ≤ γ ∧ k = (2, σ.next)) ∨ Owns G σ γ k := by
    intro γ k hk
    cases hk with
    | sl b' β' q cs2 h2 g2 =>
      by_cases e : b' = σ.next
      · subst e; exact .inl ⟨hn _ _ (Option.some.inj ((upd_same G.sl σ.next (some r)).symm.trans g2)), rfl⟩
      · exact .inr (.sl _ _ q cs2 ((upd_ne _ _ e).symm.trans h2) ((upd_ne _ _ e).symm.trans g2))
    | bx b' β' cs2 h2 g2 => exact .inr (.bx _ _ cs2 h2 g2)
    | mp b' β' cs2 h2 g2 => exact .inr (.mp _ _ cs2 h2 g2)
  refine ⟨h.base.go hl.below, fun b' cs2 e => (h.bx b' cs2 e).mono hl fun γ g => hb.block γ ((h.bx b' cs2 e).lt g), fun b' cs2 e => (h.mp b' cs2 e).mono hl fun γ g => hb.block γ ((h.mp b' cs2 e).lt g), fun b' cs2 e => ?_, ?_,
    fun γ o e => Nat.lt_of_lt_of_le (h.stIn γ o e) hb.size, fun b' hb' => ?_⟩
  · by_cases eb : b' = σ.next
    · subst eb
      obtain rfl := Option.some.inj ((upd_same σ.sl σ.next (some xs)).symm.trans e)
      exact hw hl
    · have e' : σ.sl b' = some cs2 := (upd_ne _ _ eb).symm.trans e
      exact (h.sl b' cs2 e').mono hl fun γ q g => hb.block γ ((h.sl b' cs2 e').lt g)
  · intro γ k hk
    rcases hown γ k hk with ⟨hge, rfl⟩ | hk
    · refine ⟨Nat.le_trans h.base.le hge, fun k' hk' => ?_, fun o e => ?_⟩
      · rcases hown _ k' hk' with ⟨_, rfl⟩ | hk'
        · rfl
        · have := h.own_lt hk'; omega
      · have := h.stIn _ o e; omega
    · have hlt := h.own_lt hk
      refine ⟨(h.own γ k hk).1, fun k' hk' => ?_, (h.own γ k hk).2.2⟩
      rcases hown _ k' hk' with ⟨hge, _⟩ | hk'
      · omega
      · exact (h.own γ k hk).2.1 k' hk'
  · have hb2 : σ.next + 1 ≤ b' := hb'
    obtain ⟨f1, f2, f3, f4, f5, f6⟩ := h.fresh b' (by omega)
    have : b' ≠ σ.next := by omega
    exact ⟨f1, f2, (upd_ne _ _ this).trans f3, f4, f5, (upd_ne _ _ this).trans f6⟩
/-- New blocks, some of whose cells stay as they are. -/
theorem SimW.addSt {G σ w w'} (h : SimW G σ w) (hb : Below w.heap.size w w') (q : Nat → Nat → Prop) (hq : ∀ β o, q β o → w.heap.size ≤ β ∧ β < w'.heap.size) : SimW (G.addSt q) σ w' := by
  have hl := Le.addSt h hb q fun β o e => (hq β o e).1
  have hown : ∀ γ k, Owns (G.addSt q) σ γ k → Owns G σ γ k := by
    intro γ k hk
    cases hk with
    | bx b' β' cs2 h2 g2 => exact .bx _ _ cs2 h2 g2
    | mp b' β' cs2 h2 g2 => exact .mp _ _ cs2 h2 g2
    | sl b' β' r cs2 h2 g2 => exact .sl _ _ r cs2 h2 g2
  refine ⟨h.base.go hl.below, fun b cs e => (h.bx b cs e).mono hl fun γ g => hb.block γ ((h.bx b cs e).lt g), fun b cs e => (h.mp b cs e).mono hl fun γ g => hb.block γ ((h.mp b cs e).lt g),
    fun b cs e => (h.sl b cs e).mono hl fun γ r g => hb.block γ ((h.sl b cs e).lt g), fun γ k hk => ?_, fun γ o e => ?_, h.fresh⟩
  · have hk := hown γ k hk
    refine ⟨(h.own γ k hk).1, fun k' hk' => (h.own γ k hk).2.1 k' (hown _ _ hk'), fun o e => ?_⟩
    rcases e with e | e
    · exact (h.own γ k hk).2.2 o e
    · have := (hq _ _ e).1; have := h.own_lt hk; omega
  · rcases e with e | e
    · exact Nat.lt_of_lt_of_le (h.stIn γ o e) hb.size
    · exact (hq _ _ e).2

/-! ### forgetting -/
/-- Fewer things are known. -/
structure ASt.Le (τ σ : ASt) : Prop where
  bx : ∀ b cs, τ.bx b = some cs → σ.bx b = some cs
  mp : ∀ b cs, τ.mp b = some cs → σ.mp b = some cs
  sl : ∀ b cs, τ.sl b = some cs → σ.sl b = some cs
  next : σ.next ≤ τ.next
theorem SimW.less {G σ τ w} (h : SimW G σ w) (l : τ.Le σ) : SimW G τ w := by
  have hown : ∀ γ k, Owns G τ γ k → Owns G σ γ k := by
    intro γ k hk
    cases hk with
    | bx b' β' cs2 h2 g2 => exact .bx _ _ cs2 (l.bx _ _ h2) g2
    | mp b' β' cs2 h2 g2 => exact .mp _ _ cs2 (l.mp _ _ h2) g2
    | sl b' β' r cs2 h2 g2 => exact .sl _ _ r cs2 (l.sl _ _ h2) g2
  refine ⟨h.base, fun b cs e => h.bx b cs (l.bx b cs e), fun b cs e => h.mp b cs (l.mp b cs e), fun b cs e => h.sl b cs (l.sl b cs e), fun γ k hk => ?_, h.stIn, fun b hb => ?_⟩
  · exact ⟨(h.own γ k (hown _ _ hk)).1, fun k' hk' => (h.own γ k (hown _ _ hk)).2.1 k' (hown _ _ hk'), (h.own γ k (hown _ _ hk)).2.2⟩
  · obtain ⟨f1, f2, f3, f4, f5, f6⟩ := h.fresh b (Nat.le_trans l.next hb)
    refine ⟨f1, f2, f3, ?_, ?_, ?_⟩
    · cases e : τ.bx b with
      | none => rfl
      | some cs => rw [l.bx b cs e] at f4; cases f4
    · cases e : τ.mp b with
      | none => rfl
      | some cs => rw [l.mp b cs e] at f5; cases f5
    · cases e : τ.sl b with
      | none => rfl
      | some cs => rw [l.sl b cs e] at f6; cases f6
end Go.AL
/-! The judgements: code, regions, operations, calls. -/
namespace Go.AL
open Go.RowKit (Below)
set_option linter.unusedVariables false

variable {P : Program} {D : List Deferred}

def lift (G : Ghost) (w : World) (D : List Deferred) (Q : Exit → List AV → ASt → Prop) : Exit → Act → World → Prop :=
  fun e a' w' => ∃ G' fr σ, Le G w G' w' ∧ Sim G' fr σ D a' w' ∧ Q e fr σ
theorem lift_le {G w G' w' D Q e a w''} (hl : Le G w G' w') (h : lift G' w' D Q e a w'') : lift G w D Q e a w'' := by
  obtain ⟨G'', fr, σ, h1, h2, h3⟩ := h
  exact ⟨G'', fr, σ, hl.trans h1, h2, h3⟩
theorem lift_mono {G w D Q Q' e a w''} (hq : ∀ e fr σ, Q e fr σ → Q' e fr σ) (h : lift G w D Q e a w'') : lift G w D Q' e a w'' := by
  obtain ⟨G'', fr, σ, h1, h2, h3⟩ := h
  exact ⟨G'', fr, σ, h1, h2, hq _ _ _ h3⟩

theorem wpList_weaken {P : Program} {ops : Array Oper} {Q Q' : Exit → Act → World → Prop} (hq : ∀ e a w, Q e a w → Q' e a w) : ∀ (l : List Oper) (a : Act) (w : World), wpList P ops Q l a w → wpList P ops Q' l a w
  | [], a, w, h => hq _ _ _ h
  | o :: rest, a, w, h => by
    have up : ∀ r, o.upon P a (wpList P ops Q rest) Q r → o.upon P a (wpList P ops Q' rest) Q' r := by
      intro r hr
      have ih : ∀ a w, wpList P ops Q rest a w → wpList P ops Q' rest a w := fun a w => wpList_weaken hq rest a w
      cases r with
      | ok n w' =>
        cases n with
        | value v => exact ih _ _ hr
        | skip => exact ih _ _ hr
        | defer d => exact ih _ _ hr
        | enter f args =>
          refine Calls.mono hr fun e w'' he => ?_
          cases e with
          | returned v => exact ih _ _ he
          | panicked c => exact hq _ _ _ he
          | outgrown => exact let ⟨a, w, h⟩ := he; ⟨a, w, hq _ _ _ h⟩
        | row r args => exact Rows.mono hr fun v w'' he => ih _ _ he
        | _ => exact hr
      | halt x w' =>
        cases x with
        | panic v => exact hq _ _ _ hr
        | _ => exact hr
    unfold wpList at h ⊢
    split
    · rename_i hw
      rw [if_pos hw] at h
      rcases h with h | ⟨h, a', w', ho⟩
      · exact .inl (up _ h)
      · exact .inr ⟨h, a', w', hq _ _ _ ho⟩
    · rename_i hw
      rw [if_neg hw] at h
      exact wpList_weaken hq rest _ _ h

/-- Code. -/
def AW (P : Program) (D : List Deferred) (c : Code) (Q : Exit → List AV → ASt → Prop) (fr : List AV) (σ : ASt) : Prop :=
  ∀ G a w, Sim G fr σ D a w → c.wp P (lift G w D Q) a w
/-- Operations, one by one. -/
def AWL (P : Program) (D : List Deferred) (ops : Array Oper) (Q : Exit → List AV → ASt → Prop) (l : List Oper) (fr : List AV) (σ : ASt) : Prop :=
  ∀ G a w, Sim G fr σ D a w → wpList P ops (lift G w D Q) l a w

theorem Sim.less {G fr σ τ D a w} (h : Sim G fr σ D a w) (l : τ.Le σ) : Sim G fr τ D a w := ⟨h.tmps, h.defers, h.w.less l⟩
theorem Sim.refl_lift {G fr σ D a w Q e} (h : Sim G fr σ D a w) (hq : Q e fr σ) : lift G w D Q e a w := ⟨G, fr, σ, Le.refl _ _, h, hq⟩

def thenA (next : List AV → ASt → Prop) (Q : Exit → List AV → ASt → Prop) : Exit → List AV → ASt → Prop
  | .normal, fr, σ => next fr σ
  | e, fr, σ => Q e fr σ
def inBlockA (id : Nat) (Q : Exit → List AV → ASt → Prop) : Exit → List AV → ASt → Prop
  | .exit id', fr, σ => if id' = id then Q .normal fr σ else Q (.exit id') fr σ
  | e, fr, σ => Q e fr σ

variable {Q : Exit → List AV → ASt → Prop} {fr : List AV} {σ : ASt}

theorem AW.mono {c : Code} {Q' : Exit → List AV → ASt → Prop} (hq : ∀ e fr σ, Q e fr σ → Q' e fr σ) (h : AW P D c Q fr σ) : AW P D c Q' fr σ :=
  fun G a w hs => wp_mono (h G a w hs) fun e a w h => lift_mono hq h
theorem AW.less {c : Code} {τ : ASt} (l : τ.Le σ) (h : AW P D c Q fr τ) : AW P D c Q fr σ := fun G a w hs => h G a w (hs.less l)
theorem AWL.less {ops : Array Oper} {l : List Oper} {τ : ASt} (le : τ.Le σ) (h : AWL P D ops Q l fr τ) : AWL P D ops Q l fr σ := fun G a w hs => h G a w (hs.less le)

theorem aw_skip (h : Q .normal fr σ) : AW P D .skip Q fr σ := fun G a w hs => wp_skip (hs.refl_lift h)
theorem aw_label {l : Nat} (h : Q .normal fr σ) : AW P D (.label l) Q fr σ := fun G a w hs => wp_label (hs.refl_lift h)
theorem aw_exit {id : Nat} (h : Q (.exit id) fr σ) : AW P D (.exit id) Q fr σ := fun G a w hs => wp_exit (hs.refl_lift h)
theorem aw_goto {l : Nat} (h : Q (.goto l) fr σ) : AW P D (.goto l) Q fr σ := fun G a w hs => wp_goto (hs.refl_lift h)
theorem aw_ret (h : Q .ret fr σ) : AW P D .ret Q fr σ := fun G a w hs => wp_ret (hs.refl_lift h)
theorem aw_seq {x y : Code} (h : AW P D x (thenA (AW P D y Q) Q) fr σ) : AW P D (.seq x y) Q fr σ := by
  intro G a w hs
  refine wp_seq (wp_mono (h G a w hs) ?_)
  rintro e a' w' ⟨G', fr', σ', hl, hs', hq⟩
  cases e with
  | normal => exact wp_mono (hq G' a' w' hs') fun e a w h => lift_le hl h
  | _ => exact ⟨G', fr', σ', hl, hs', hq⟩
theorem aw_block {id : Nat} {c : Code} (h : AW P D c (inBlockA id Q) fr σ) : AW P D (.block id c) Q fr σ := by
  intro G a w hs
  refine wp_block (wp_mono (h G a w hs) ?_)
  rintro e a' w' ⟨G', fr', σ', hl, hs', hq⟩
  cases e with
  | exit id' =>
    simp only [inBlockA] at hq
    simp only [Exit.inBlock]
    split
    · rename_i e; rw [if_pos e] at hq; exact ⟨G', fr', σ', hl, hs', hq⟩
    · rename_i e; rw [if_neg e] at hq; exact ⟨G', fr', σ', hl, hs', hq⟩
  | _ => exact ⟨G', fr', σ', hl, hs', hq⟩

/-- A constant. -/
def ofV : Value → AV
  | .agg cs => .agg (cs.toList.map .p)
  | v => .p v
theorem rep_ofV (G : Ghost) (w : World) (v : Value) : Rep G w (ofV v) v := by
  cases v with
  | agg cs =>
    refine .agg _ _ (by simp) fun i c v hc hv => ?_
    rw [List.getElem?_map, Array.getElem?_toList, hv] at hc
    obtain rfl := Option.some.inj hc
    exact .p _
  | _ => exact .p _
/-- What a slot holds. -/
def fget : List AV → Nat → AV
  | [], _ => .p undef
  | a :: _, 0 => a
  | _ :: l, n + 1 => fget l n
def fset : List AV → Nat → AV → List AV
  | [], _, _ => []
  | _ :: l, 0, x => x :: l
  | a :: l, n + 1, x => a :: fset l n x
theorem fget_eq : ∀ (l : List AV) (n : Nat), fget l n = l.getD n (.p undef)
  | [], _ => rfl
  | _ :: _, 0 => rfl
  | _ :: l, n + 1 => by rw [fget, fget_eq l n]; rfl
theorem fset_eq : ∀ (l : List AV) (n : Nat) (x : AV), fset l n x = l.set n x
  | [], _, _ => rfl
  | _ :: _, 0, _ => rfl
  | _ :: l, n + 1, x => by rw [fset, fset_eq l n x]; rfl
/-- An operand's value. -/
def aev (fr : List AV) : Operand → AV
  | .tmp t => fget fr t
  | .const v => ofV v
  | .global g => .p (.pointer (some ⟨g, 0, none⟩))
  | .func f => .p (.func (.func f) #[] #[])
theorem RepL.getD {G w cs vs} (h : RepL G w cs vs) (t : Nat) : Rep G w (cs.getD t (.p undef)) (vs.getD t undef) := by
  rw [List.getD_eq_getElem?_getD, List.getD_eq_getElem?_getD]
  by_cases ht : t < cs.length
  · have ht' : t < vs.length := h.1 ▸ ht
    rw [List.getElem?_eq_getElem ht, List.getElem?_eq_getElem ht']
    exact h.2 t _ _ (List.getElem?_eq_getElem ht) (List.getElem?_eq_getElem ht')
  · rw [List.getElem?_eq_none (by omega), List.getElem?_eq_none (by have := h.1; omega)]
    exact .p _
theorem Sim.ev {G fr σ D a w} (h : Sim G fr σ D a w) (x : Operand) : Rep G w (aev fr x) (a.eval x) := by
  cases x with
  | tmp t =>
    have := h.tmps.getD t
    simp only [aev, Act.eval]
    rw [fget_eq]
    rw [List.getD_eq_getElem?_getD (l := a.tmps.toList), Array.getElem?_toList, ← Array.getD_eq_getD_getElem?] at this
    exact this
  | const v => exact rep_ofV G w v
  | global g => exact .p _
  | func f => exact .p _

def aput (fr : List AV) (dst : Option Tmp) (r : AV) : List AV := match dst with | some d => fset fr d r | none => fr
theorem Sim.put {G fr σ D a w} (h : Sim G fr σ D a w) (dst : Option Tmp) {r v} (hr : Rep G w r v) : Sim G (aput fr dst r) σ D (a.put dst v) w := by
  cases dst with
  | none => exact h
  | some d =>
    refine ⟨⟨by simp [aput, Act.put, fset_eq]; exact h.tmps.1, fun i c u hc hu => ?_⟩, h.defers, h.w⟩
    simp only [aput, Act.put, Array.toList_setIfInBounds, fset_eq] at hc hu
    rw [List.getElem?_set] at hc hu
    split at hc
    · rename_i e
      subst e
      rw [if_pos rfl] at hu
      split at hc
      · split at hu
        · obtain rfl := Option.some.inj hc
          obtain rfl := Option.some.inj hu
          exact hr
        · cases hu
      · cases hc
    · rename_i e
      rw [if_neg e] at hu
      exact h.tmps.2 i c u hc hu
theorem Sim.le {G fr σ D a w G' σ' w'} (h : Sim G fr σ D a w) (hl : Le G w G' w') (hw : SimW G' σ' w') : Sim G' fr σ' D a w' := ⟨h.tmps.mono hl, h.defers, hw⟩

theorem aw_cond {c : Operand} {x y : Code} {t : Bool} (hc : aev fr c = .p (.bool t)) (ht : t = true → AW P D x Q fr σ) (hf : t = false → AW P D y Q fr σ) : AW P D (.cond c x y) Q fr σ := by
  intro G a w hs
  have h := hs.ev c
  rw [hc] at h
  generalize ha : a.eval c = v at h
  cases h
  exact wp_cond_split ha (fun e => ht e G a w hs) (fun e => hf e G a w hs)

/-- A loop: what holds at each round's head, by a number that falls. -/
theorem aw_loop {c : Code} (I : Nat → List AV → ASt → Prop) (n : Nat) (h0 : I n fr σ)
    (round : ∀ n fr σ, I n fr σ → AW P D c (thenA (fun fr' σ' => ∃ m, m < n ∧ I m fr' σ') Q) fr σ) : AW P D (.loop c) Q fr σ := by
  intro G a w hs b k cs
  have key : ∀ n, ∀ G1 fr σ a w1, Le G w G1 w1 → Sim G1 fr σ D a w1 → I n fr σ →
      ∃ e a' w', lift G w D Q e a' w' ∧ Arrives P (lone (b.at a (.code c :: .inLoop c :: k)) cs w1) b k cs e a' w' := by
    intro n
    induction n using Nat.strongRecOn with
    | _ n ih =>
      intro G1 fr σ a w1 hl hs hI
      obtain ⟨e, a₁, w₁, ⟨G2, fr2, σ2, hl2, hs2, hq⟩, harr⟩ := round n fr σ hI G1 a w1 hs b (.inLoop c :: k) cs
      cases e with
      | normal =>
        obtain ⟨m, hlt, hI₁⟩ := hq
        obtain ⟨e₂, a₂, w₂, hq₂, harr₂⟩ := ih m hlt G2 fr2 σ2 a₁ w₁ (hl.trans hl2) hs2 hI₁
        exact ⟨e₂, a₂, w₂, hq₂, .of_steps (Steps.trans harr (.one step_inLoop)) harr₂⟩
      | exit id => exact ⟨_, a₁, w₁, ⟨G2, fr2, σ2, hl.trans hl2, hs2, hq⟩, .pass (x := .inLoop c) rfl (fun _ _ => .inl (by simp)) harr⟩
      | goto l => exact ⟨_, a₁, w₁, ⟨G2, fr2, σ2, hl.trans hl2, hs2, hq⟩, .pass (x := .inLoop c) rfl (fun _ _ => .inl (by simp)) harr⟩
      | ret => exact ⟨_, a₁, w₁, ⟨G2, fr2, σ2, hl.trans hl2, hs2, hq⟩, .pass (x := .inLoop c) rfl (fun _ _ => .inl (by simp)) harr⟩
      | panic ch => exact ⟨_, a₁, w₁, ⟨G2, fr2, σ2, hl.trans hl2, hs2, hq⟩, .pass (x := .inLoop c) rfl (fun _ _ => .inl (by simp)) harr⟩
      | outgrown => exact ⟨_, a₁, w₁, ⟨G2, fr2, σ2, hl.trans hl2, hs2, hq⟩, .pass (x := .inLoop c) rfl (fun _ _ => .inl (by simp)) harr⟩
  obtain ⟨e, a', w', hq, harr⟩ := key n G fr σ a w (Le.refl _ _) hs h0
  exact ⟨e, a', w', hq, .of_steps (.one step_loop) harr⟩

def noGotoA (Q : Exit → List AV → ASt → Prop) : Exit → List AV → ASt → Prop
  | .goto _, _, _ => False
  | e, fr, σ => Q e fr σ
theorem aw_scope {c : Code} (h : AW P D c (noGotoA Q) fr σ) : AW P D (.scope c) Q fr σ := by
  intro G a w hs
  refine wp_scope_straight (wp_mono (h G a w hs) ?_)
  rintro e a' w' ⟨G', fr', σ', hl, hs', hq⟩
  cases e with
  | goto l => exact hq.elim
  | _ => exact ⟨G', fr', σ', hl, hs', hq⟩
def jumpA (l : Nat) (J : List AV → ASt → Prop) (Q : Exit → List AV → ASt → Prop) : Exit → List AV → ASt → Prop
  | .goto l', fr, σ => l' = l ∧ J fr σ
  | e, fr, σ => Q e fr σ
theorem aw_scope_jumps {c rest : Code} (l : Nat) (J : Nat → List AV → ASt → Prop) (hf : findLabel c l = some rest)
    (first : AW P D c (jumpA l (fun fr σ => ∃ n, J n fr σ) Q) fr σ)
    (pass : ∀ n fr σ, J n fr σ → AW P D rest (jumpA l (fun fr σ => ∃ m, m < n ∧ J m fr σ) Q) fr σ) : AW P D (.scope c) Q fr σ := by
  intro G a w hs b k cs
  have hg : gotoIn l (.inScope c :: k) = some (.code rest :: .inScope c :: k) := by simp [gotoIn, hf]
  have key : ∀ n, ∀ G1 fr σ a w1, Le G w G1 w1 → Sim G1 fr σ D a w1 → J n fr σ → ∃ e a' w', lift G w D Q e a' w' ∧ Arrives P (lone (b.at a (.code rest :: .inScope c :: k)) cs w1) b k cs e a' w' := by
    intro n
    induction n using Nat.strongRecOn with
    | _ n ih =>
      intro G1 fr σ a w1 hl hs hJ
      obtain ⟨e, a₁, w₁, ⟨G2, fr2, σ2, hl2, hs2, hq⟩, harr⟩ := pass n fr σ hJ G1 a w1 hs b (.inScope c :: k) cs
      cases e with
      | normal => exact ⟨.normal, a₁, w₁, ⟨G2, fr2, σ2, hl.trans hl2, hs2, hq⟩, Steps.trans harr (.one step_inScope)⟩
      | exit id => exact ⟨.exit id, a₁, w₁, ⟨G2, fr2, σ2, hl.trans hl2, hs2, hq⟩, fun k' hk => harr k' (by simp [exitTo, hk])⟩
      | goto l' =>
        obtain ⟨rfl, m, hlt, hJ'⟩ := hq
        obtain ⟨e₂, a₂, w₂, hq₂, harr₂⟩ := ih m hlt G2 fr2 σ2 a₁ w₁ (hl.trans hl2) hs2 hJ'
        exact ⟨e₂, a₂, w₂, hq₂, .of_steps (harr _ hg) harr₂⟩
      | ret => exact ⟨_, a₁, w₁, ⟨G2, fr2, σ2, hl.trans hl2, hs2, hq⟩, harr⟩
      | panic ch => exact ⟨_, a₁, w₁, ⟨G2, fr2, σ2, hl.trans hl2, hs2, hq⟩, harr⟩
      | outgrown => exact ⟨_, a₁, w₁, ⟨G2, fr2, σ2, hl.trans hl2, hs2, hq⟩, harr⟩
  obtain ⟨e, a₁, w₁, ⟨G2, fr2, σ2, hl2, hs2, hq⟩, harr⟩ := first G a w hs b (.inScope c :: k) cs
  cases e with
  | normal => exact ⟨.normal, a₁, w₁, ⟨G2, fr2, σ2, hl2, hs2, hq⟩, .head step_scope (Steps.trans harr (.one step_inScope))⟩
  | exit id => exact ⟨.exit id, a₁, w₁, ⟨G2, fr2, σ2, hl2, hs2, hq⟩, fun k' hk => .head step_scope (harr k' (by simp [exitTo, hk]))⟩
  | goto l' =>
    obtain ⟨rfl, n, hJ'⟩ := hq
    obtain ⟨e₂, a₂, w₂, hq₂, harr₂⟩ := key n G2 fr2 σ2 a₁ w₁ hl2 hs2 hJ'
    exact ⟨e₂, a₂, w₂, hq₂, .of_steps (.head step_scope (harr _ hg)) harr₂⟩
  | ret => exact ⟨_, a₁, w₁, ⟨G2, fr2, σ2, hl2, hs2, hq⟩, .of_steps (.one step_scope) harr⟩
  | panic ch => exact ⟨_, a₁, w₁, ⟨G2, fr2, σ2, hl2, hs2, hq⟩, .of_steps (.one step_scope) harr⟩
  | outgrown => exact ⟨_, a₁, w₁, ⟨G2, fr2, σ2, hl2, hs2, hq⟩, .of_steps (.one step_scope) harr⟩

/-! ### operations -/
/-- What is left behind: a value, and memory. -/
def Outc (G : Ghost) (w : World) (R : AV → ASt → Prop) (v : Value) (w' : World) : Prop := ∃ r G' σ', Le G w G' w' ∧ SimW G' σ' w' ∧ Rep G' w' r v ∧ R r σ'
def retOf (R : Value → World → Prop) : Ending → World → Prop
  | .returned v, w => R v w
  | _, _ => False
def OutcN (P : Program) (G : Ghost) (w : World) (R : AV → ASt → Prop) : Result Next → Prop
  | .ok (.value v) w' => Outc G w R v w'
  | .ok .skip w' => Outc G w R undef w'
  | .ok (.enter f args) w' => Calls P f args w' (retOf (Outc G w R))
  | _ => False
/-- An operation, by its operands' values. -/
def OpQ (P : Program) (o : Oper) (ρ : Operand → AV) (σ : ASt) (R : AV → ASt → Prop) : Prop :=
  ∀ G (e : Operand → Value) w, (∀ x, Rep G w (ρ x) (e x)) → SimW G σ w → OutcN P G w R ((execOp e o).run P w)
theorem Outc.mono {G w R R' v w'} (h : Outc G w R v w') (hr : ∀ r σ, R r σ → R' r σ) : Outc G w R' v w' := by
  obtain ⟨r, G', σ', h1, h2, h3, h4⟩ := h
  exact ⟨r, G', σ', h1, h2, h3, hr _ _ h4⟩
theorem retOf_mono {R R' : Value → World → Prop} (hr : ∀ v w, R v w → R' v w) {e : Ending} {w : World} (h : retOf R e w) : retOf R' e w := by
  cases e with
  | returned v => exact hr _ _ h
  | panicked c => exact h
  | outgrown => exact h
theorem OutcN.mono {G w R R' n} (h : OutcN P G w R n) (hr : ∀ r σ, R r σ → R' r σ) : OutcN P G w R' n := by
  cases n with
  | halt => exact h
  | ok n w' =>
    cases n with
    | value v => exact Outc.mono h hr
    | skip => exact Outc.mono h hr
    | enter f args => exact Calls.mono h fun e w'' he => retOf_mono (fun v w' h => Outc.mono h hr) he
    | _ => exact h
theorem OpQ.mono {o ρ R R'} (h : OpQ P o ρ σ R) (hr : ∀ r σ, R r σ → R' r σ) : OpQ P o ρ σ R' := fun G e w h1 h2 => (h G e w h1 h2).mono hr
theorem OpQ.less {o ρ R} {τ : ASt} (l : τ.Le σ) (h : OpQ P o ρ τ R) : OpQ P o ρ σ R := fun G e w h1 h2 => h G e w h1 (h2.less l)

/-- Is it to be carried out? -/
def awanted (ops : Array Oper) (o : Oper) (fr : List AV) : Option Bool :=
  match o.guard with
  | none => some true
  | some (j, want) =>
    match (ops[j]?).bind (·.dst) with
    | none => some false
    | some d => match fget fr d with
      | .p (.bool b) => some (b == want)
      | .p (.tuple _) => some false
      | .opt false _ => some false
      | _ => none
theorem awanted_spec {ops : Array Oper} {o : Oper} {fr : List AV} {b : Bool} (h : awanted ops o fr = some b) {G w D a} {σ : ASt} (hs : Sim G fr σ D a w) : Region.wanted o (yielded ops a.tmps) = b := by
  unfold awanted at h
  unfold Region.wanted
  cases hg : o.guard with
  | none => rw [hg] at h; simpa using h
  | some jw =>
    obtain ⟨j, want⟩ := jw
    rw [hg] at h
    simp only at h ⊢
    unfold yielded
    cases hd : (ops[j]?).bind (·.dst) with
    | none => rw [hd] at h; simpa using h
    | some d =>
      rw [hd] at h
      simp only [Option.bind_some] at h ⊢
      have hr := hs.ev (.tmp d)
      simp only [aev, Act.eval] at hr
      have key : ∀ v, Rep G w (fget fr d) v → ((match v with | .bool b => some b | _ => none : Option Bool) == some want) = b := by
        intro v hr
        cases hc : fget fr d with
        | p x =>
          rw [hc] at hr h
          cases hr
          cases v with
          | bool t =>
            have h : some (t == want) = some b := h
            rw [← Option.some.inj h]
            cases t <;> cases want <;> rfl
          | tuple ts =>
            have h : some false = some b := h
            rw [← Option.some.inj h]
            rfl
          | _ => cases h
        | opt c' x =>
          rw [hc] at hr h
          cases c' with
          | true => cases h
          | false =>
            have h : some false = some b := h
            rw [← Option.some.inj h]
            cases hr with
            | opt _ _ _ h1 h0 => rw [h0 rfl]; rfl
        | _ => rw [hc] at h; cases h
      have h2 := key _ hr
      rw [Array.getD_eq_getD_getElem?] at h2
      cases hv : a.tmps[d]? with
      | none => rw [hv] at h2; exact h2
      | some v =>
        rw [hv] at h2
        simp only [Option.getD_some] at h2
        cases v <;> exact h2

theorem awl_nil {ops : Array Oper} (h : Q .normal fr σ) : AWL P D ops Q [] fr σ := fun G a w hs => wpList_nil (hs.refl_lift h)
theorem awl_cons {ops : Array Oper} {o : Oper} {rest : List Oper} (hw : awanted ops o fr = some true) (h : OpQ P o (aev fr) σ (fun r σ' => AWL P D ops Q rest (aput fr o.dst r) σ')) : AWL P D ops Q (o :: rest) fr σ := by
  intro G a w hs
  unfold wpList
  rw [if_pos (awanted_spec hw hs)]
  refine .inl ?_
  have hq := h G a.eval w (fun x => hs.ev x) hs.w
  unfold Oper.wp
  have key : ∀ v w', Outc G w (fun r σ' => AWL P D ops Q rest (aput fr o.dst r) σ') v w' → wpList P ops (lift G w D Q) rest (a.put o.dst v) w' := by
    rintro v w' ⟨r, G', σ', hl, hw', hr, hk⟩
    have := hk G' (a.put o.dst v) w' ((hs.le hl hw').put o.dst hr)
    exact wpList_weaken (fun e a w h => lift_le hl h) rest _ _ this
  generalize (execOp a.eval o).run P w = n at hq
  cases n with
  | halt => exact hq.elim
  | ok n w' =>
    cases n with
    | value v => exact key v w' hq
    | skip => exact key undef w' hq
    | enter f args =>
      refine Calls.mono hq fun e w'' he => ?_
      cases e with
      | returned v => exact key v w'' he
      | panicked c => exact he.elim
      | outgrown => exact he.elim
    | _ => exact hq.elim
theorem awl_skip {ops : Array Oper} {o : Oper} {rest : List Oper} (hw : awanted ops o fr = some false) (h : AWL P D ops Q rest (aput fr o.dst (.p undef)) σ) : AWL P D ops Q (o :: rest) fr σ := by
  intro G a w hs
  unfold wpList
  rw [if_neg (by rw [awanted_spec hw hs]; simp)]
  exact h G (a.put o.dst undef) w (hs.put o.dst (.p undef))
theorem aw_region {id : Nat} {l : List Oper} (h : AWL P D l.toArray Q l fr σ) : AW P D (.region id l.toArray false) Q fr σ :=
  fun G a w hs => wp_region_lit (h G a w hs)

/-! ### calls -/
def ACall (P : Program) (f : FuncId) (args : List AV) (σ : ASt) (R : AV → ASt → Prop) : Prop :=
  ∀ G w (vs : Array Value), RepL G w args vs.toList → SimW G σ w → Calls P f vs w (retOf (Outc G w R))
theorem ACall.mono {f args R R'} (h : ACall P f args σ R) (hr : ∀ r σ, R r σ → R' r σ) : ACall P f args σ R' := fun G w vs h1 h2 => Calls.mono (h G w vs h1 h2) fun e w' he => retOf_mono (fun v w' h => Outc.mono h hr) he
theorem ACall.less {f args R} {τ : ASt} (l : τ.Le σ) (h : ACall P f args τ R) : ACall P f args σ R := fun G w vs h1 h2 => h G w vs h1 (h2.less l)

/-- What the function's results are. -/
def AResults (P : Program) (fn : Func) (fr : List AV) (σ : ASt) (r : AV) : Prop :=
  ∀ G D a w, Sim G fr σ D a w → ∃ v, (results fn a.tmps).run P w = .ok v w ∧ Rep G w r v
/-- What it means for a value to be handed back. -/
def Fin (R : AV → ASt → Prop) (r : AV) (σ : ASt) : Prop := ∀ G w v, SimW G σ w → Rep G w r v → Outc G w R v w
theorem Fin.of {R : AV → ASt → Prop} {r : AV} {σ : ASt} (h : R r σ) : Fin R r σ := fun G w v hw hr => ⟨r, G, σ, Le.refl _ _, hw, hr, h⟩
def RetQ (P : Program) (fn : Func) (R : AV → ASt → Prop) : Exit → List AV → ASt → Prop
  | .normal, fr, σ | .ret, fr, σ => ∃ r, AResults P fn fr σ r ∧ Fin R r σ
  | _, _, _ => False
theorem acall_of_body {f : FuncId} {fn : Func} {c : Code} {args : List AV} {R : AV → ASt → Prop} (hf : P.funcs[f]? = some fn) (hb : fn.body = some c)
    (h : AW P [] c (RetQ P fn R) (args ++ List.replicate (fn.ntmps - args.length) (.p undef)) σ) : ACall P f args σ R := by
  intro G w vs hv hw
  refine calls_of_wp hf hb ?_
  have hlen : args.length = vs.size := by simpa using hv.1
  have hs : Sim G (args ++ List.replicate (fn.ntmps - args.length) (.p undef)) σ [] { tmps := vs ++ Array.replicate (fn.ntmps - vs.size) undef, defers := [] } w := by
    refine ⟨⟨by simp [hlen], fun i c v hc hv2 => ?_⟩, rfl, hw⟩
    simp only [Array.toList_append, Array.toList_replicate] at hv2
    rw [← hlen] at hv2
    by_cases hi : i < args.length
    · rw [List.getElem?_append_left hi] at hc
      rw [List.getElem?_append_left (by simpa [← hlen] using hi)] at hv2
      exact hv.2 i c v hc hv2
    · rw [List.getElem?_append_right (by omega)] at hc
      rw [List.getElem?_append_right (by simp; omega)] at hv2
      rw [List.getElem?_replicate] at hc hv2
      split at hc
      · split at hv2
        · obtain rfl := Option.some.inj hc
          obtain rfl := Option.some.inj hv2
          exact .p _
        · cases hv2
      · cases hc
  refine wp_mono (h G _ w hs) ?_
  rintro e a' w' ⟨G', fr', σ', hl, hs', hq⟩
  cases e with
  | normal =>
    obtain ⟨r, hr, hR⟩ := hq
    obtain ⟨v, h1, h2⟩ := hr G' [] a' w' hs'
    obtain ⟨r', G2, σ2, k1, k2, k3, k4⟩ := hR G' w' v hs'.w h2
    exact ⟨hs'.defers, v, h1, r', G2, σ2, hl.trans k1, k2, k3, k4⟩
  | ret =>
    obtain ⟨r, hr, hR⟩ := hq
    obtain ⟨v, h1, h2⟩ := hr G' [] a' w' hs'
    obtain ⟨r', G2, σ2, k1, k2, k3, k4⟩ := hR G' w' v hs'.w h2
    exact ⟨hs'.defers, v, h1, r', G2, σ2, hl.trans k1, k2, k3, k4⟩
  | _ => exact hq.elim

/-- Nothing is known beyond what comes next. -/
structure ASt.Ok (σ : ASt) : Prop where
  bx : ∀ b, σ.next ≤ b → σ.bx b = none
  mp : ∀ b, σ.next ≤ b → σ.mp b = none
  sl : ∀ b, σ.next ≤ b → σ.sl b = none
theorem acall_ok {f args R} (h : σ.Ok → ACall P f args σ R) : ACall P f args σ R := fun G w vs hv hw =>
  h ⟨fun b hb => (hw.fresh b hb).2.2.2.1, fun b hb => (hw.fresh b hb).2.2.2.2.1, fun b hb => (hw.fresh b hb).2.2.2.2.2⟩ G w vs hv hw
theorem aw_ok {c : Code} (h : σ.Ok → AW P D c Q fr σ) : AW P D c Q fr σ := fun G a w hs =>
  h ⟨fun b hb => (hs.w.fresh b hb).2.2.2.1, fun b hb => (hs.w.fresh b hb).2.2.2.2.1, fun b hb => (hs.w.fresh b hb).2.2.2.2.2⟩ G a w hs
end Go.AL
/-! Operations, first part: what needs no memory of its own. -/
namespace Go.AL
open Go.RowKit (Below)
set_option linter.unusedVariables false
set_option linter.unusedSimpArgs false

variable {P : Program}

/-! ### types -/
def isRowD : TypeDesc → Bool
  | .struct _ | .array _ _ => true
  | _ => false
/-- How many cells a type has, and whether it is a struct, or an array. -/
def tsize (P : Program) (t : TypeId) : Option (Nat × Bool) :=
  match P.info? t, P.underlying t with
  | some i, some d => some (i.size, isRowD d)
  | _, _ => none
/-- Where a field stands, how many cells it has. -/
def tfield (P : Program) (s : TypeId) (f : Nat) : Option (Nat × Nat × Bool) :=
  match P.underlying s with
  | some (.struct fs) => match fs[f]? with
    | some fd => match tsize P fd.type with
      | some (n, g) => if n = 0 then none else some (fd.offset, n, g)
      | none => none
    | none => none
  | _ => none
/-- What a slice's elements have: cells, a struct?, bytes. -/
def telem (P : Program) (t : TypeId) : Option (Nat × Bool × Nat) :=
  match P.underlying t with
  | some (.slice e) => match P.info? e, tsize P e with
    | some i, some (n, g) => some (n, g, i.bytes)
    | _, _ => none
  | _ => none
def tarr (P : Program) (t : TypeId) : Option (Nat × Nat × Bool) :=
  match P.underlying t with
  | some (.array len e) => match tsize P e with
    | some (n, g) => some (len, n, g)
    | none => none
  | _ => none
def tzero (P : Program) (t : TypeId) : Option AV := ((P.info? t).bind (·.zero)).map ofV
def isSlice (P : Program) (t : TypeId) : Bool := match P.underlying t with | some (.slice _) => true | _ => false
def isString (P : Program) (t : TypeId) : Bool := match P.underlying t with | some .string => true | _ => false
def isMapT (P : Program) (t : TypeId) : Bool := match P.underlying t with | some (.map _ _) => true | _ => false
def isIface (P : Program) (t : TypeId) : Bool := match P.underlying t with | some (.interface _) => true | none => true | _ => false
def isStruct (P : Program) (t : TypeId) : Bool := match P.underlying t with | some (.struct _) => true | _ => false
def intOfT (P : Program) (t : TypeId) : Option IntKind := match P.underlying t with | some (.int k) => some k | _ => none

theorem run_underlying' {t : TypeId} {d : TypeDesc} (h : P.underlying t = some d) (w : World) : (underlying t).run P w = .ok d w := by
  simp [underlying, h]
theorem run_typeInfo' {t : TypeId} {i : TypeInfo} (h : P.info? t = some i) (w : World) : (typeInfo t).run P w = .ok i w := by
  simp [typeInfo, h]
theorem tsize_spec {t n g} (h : tsize P t = some (n, g)) : ∃ i d, P.info? t = some i ∧ P.underlying t = some d ∧ i.size = n ∧ isRowD d = g := by
  unfold tsize at h
  split at h
  · rename_i i d hi hd
    simp only [Option.some.injEq, Prod.mk.injEq] at h
    exact ⟨i, d, hi, hd, h.1, h.2⟩
  · cases h
theorem run_sizeOf' {t n g} (h : tsize P t = some (n, g)) (w : World) : (sizeOf t).run P w = .ok n w := by
  obtain ⟨i, d, hi, hd, rfl, _⟩ := tsize_spec h
  simp [sizeOf, run_typeInfo' hi]
theorem run_isAgg' {t n g} (h : tsize P t = some (n, g)) (w : World) : (isAgg t).run P w = .ok g w := by
  obtain ⟨i, d, hi, hd, _, rfl⟩ := tsize_spec h
  simp only [isAgg, Sem.run_bind, run_underlying' hd, Result.andThen_ok]
  cases d <;> rfl
theorem tfield_spec {s f o n g} (h : tfield P s f = some (o, n, g)) : ∃ fs fd, P.underlying s = some (.struct fs) ∧ fs[f]? = some fd ∧ fd.offset = o ∧ tsize P fd.type = some (n, g) ∧ n ≠ 0 := by
  unfold tfield at h
  split at h
  · rename_i fs hfs
    split at h
    · rename_i fd hfd
      split at h
      · rename_i n' g' hn
        split at h
        · cases h
        · rename_i h0
          simp only [Option.some.injEq, Prod.mk.injEq] at h
          obtain ⟨rfl, rfl, rfl⟩ := h
          exact ⟨fs, fd, hfs, hfd, rfl, hn, h0⟩
      · cases h
    · cases h
  · cases h

theorem addr_add (β o j : Nat) : (⟨β, o, none⟩ : Addr).add j = ⟨β, o + j, none⟩ := by unfold Addr.add; split <;> simp_all

/-! ### one value, memory as it was -/
theorem opq_val {o : Oper} {ρ : Operand → AV} {σ : ASt} {R : AV → ASt → Prop} (r : AV) (hr : R r σ)
    (h : ∀ G (e : Operand → Value) w, (∀ x, Rep G w (ρ x) (e x)) → SimW G σ w → ∃ v, (execOp e o).run P w = .ok (.value v) w ∧ Rep G w r v) : OpQ P o ρ σ R := by
  intro G e w he hw
  obtain ⟨v, h1, h2⟩ := h G e w he hw
  rw [h1]
  exact ⟨r, G, σ, Le.refl _ _, hw, h2, hr⟩
/-- The same, by a step of the semantics that yields a value. -/
theorem opq_v {o : Oper} {ρ : Operand → AV} {σ : ASt} {R : AV → ASt → Prop} {s : (Operand → Value) → Sem Value} (hs : ∀ e, execOp e o = (do pure (.value (← s e)))) (r : AV) (hr : R r σ)
    (h : ∀ G (e : Operand → Value) w, (∀ x, Rep G w (ρ x) (e x)) → SimW G σ w → ∃ v, (s e).run P w = .ok v w ∧ Rep G w r v) : OpQ P o ρ σ R := by
  refine opq_val r hr fun G e w he hw => ?_
  obtain ⟨v, h1, h2⟩ := h G e w he hw
  exact ⟨v, by rw [hs]; simp [h1], h2⟩

/-! ### reading cells -/
def aloadC (cs : List AV) (off n : Nat) (g : Bool) : Option AV := if g = true then (if off + n ≤ cs.length then some (.agg ((cs.drop off).take n)) else none) else cs[off]?
/-- The value of a variable of so many cells, of which it is known what they hold. -/
theorem run_loadVar_of {t n g} (ht : tsize P t = some (n, g)) {G : Ghost} {w : World} {β o : Nat} {cs : List AV} {r : AV} {off : Nat} (hr : aloadC cs off n g = some r)
    (hc : ∀ j c, cs[j]? = some c → ∃ v, w.cell? ⟨β, o + j, none⟩ = some v ∧ Rep G w c v) : ∃ v, (loadVar t ⟨β, o + off, none⟩).run P w = .ok v w ∧ Rep G w r v := by
  unfold aloadC at hr
  unfold loadVar
  simp only [Sem.run_bind, run_isAgg' ht, Result.andThen_ok]
  cases g with
  | false =>
    simp only [Bool.false_eq_true, if_false] at hr ⊢
    obtain ⟨v, h1, h2⟩ := hc off r hr
    exact ⟨v, by simp [h1], h2⟩
  | true =>
    simp only [if_true] at hr ⊢
    split at hr
    · rename_i hle
      obtain rfl := Option.some.inj hr
      have hv : ∀ j, j < n → ∃ v, w.cell? ⟨β, o + off + j, none⟩ = some v ∧ ∃ c, cs[off + j]? = some c ∧ Rep G w c v := by
        intro j hj
        have hlt : off + j < cs.length := by omega
        obtain ⟨v, h1, h2⟩ := hc (off + j) _ (List.getElem?_eq_getElem hlt)
        exact ⟨v, by rw [Nat.add_assoc]; exact h1, _, List.getElem?_eq_getElem hlt, h2⟩
      let f : Nat → Value := fun j => (w.cell? ⟨β, o + off + j, none⟩).getD undef
      have hf : ∀ j, j < n → w.cell? ((⟨β, o + off, none⟩ : Addr).add j) = some (f j) := by
        intro j hj
        obtain ⟨v, h1, _⟩ := hv j hj
        rw [addr_add]
        simp only [f, h1, Option.getD_some]
      refine ⟨_, by simp only [Sem.run_bind, run_sizeOf' ht, Result.andThen_ok, run_loadCells w _ n f hf, Sem.run_pure]; rfl, .agg _ _ (by simp; omega) fun i c v hc1 hv1 => ?_⟩
      have hi : i < n := by
        have := (List.getElem?_eq_some_iff.1 hc1).1
        simp at this; omega
      obtain ⟨u, h1, c', h2, h3⟩ := hv i hi
      rw [List.getElem?_take, if_pos hi, List.getElem?_drop, h2] at hc1
      obtain rfl := Option.some.inj hc1
      simp [hi, f, h1] at hv1
      subst hv1
      exact h3
    · cases hr

/-- Where an address lies, what the cells are there. -/
def acells (σ : ASt) : AV → Option (List AV × Nat)
  | .ptr b off => (σ.bx b).map fun cs => (cs, off)
  | .vel xs i off => (xs[i]?).map fun x => (x.cells, off)
  | .hel b i off => (σ.sl b).bind fun xs => (xs[i]?).map fun x => (x.cells, off)
  | _ => none
theorem cell_of_heap {w : World} {β : Nat} {arr : Array Value} {el : TypeId} {fz : Nat × Nat} (h : w.heap[β]? = some (.cells arr el fz)) (o : Nat) : w.cell? ⟨β, o, none⟩ = arr[o]? := by
  unfold World.cell?; simp [h]
theorem acells_spec {σ : ASt} {x : AV} {cs : List AV} {off : Nat} (h : acells σ x = some (cs, off)) {G w v} (hw : SimW G σ w) (hx : Rep G w x v) :
    ∃ β o, v = .pointer (some ⟨β, o + off, none⟩) ∧ ∀ j c, cs[j]? = some c → ∃ v, w.cell? ⟨β, o + j, none⟩ = some v ∧ Rep G w c v := by
  cases hx with
  | ptr b off' β g =>
    simp only [acells, Option.map_eq_some_iff, Prod.mk.injEq] at h
    obtain ⟨cs', hb, rfl, rfl⟩ := h
    obtain ⟨β', arr, el, h1, h2, h3, h4⟩ := hw.bx b cs' hb
    obtain rfl := Option.some.inj (g.symm.trans h1)
    refine ⟨β, 0, by simp, fun j c hc => ?_⟩
    have hj : j < arr.size := by rw [h3]; exact (List.getElem?_eq_some_iff.1 hc).1
    exact ⟨arr[j], by rw [cell_of_heap h2, Nat.zero_add]; exact Array.getElem?_eq_getElem hj, h4 j c _ hc (Array.getElem?_eq_getElem hj)⟩
  | vel xs i off' β o s val hs h1 hr =>
    simp only [acells, Option.map_eq_some_iff, Prod.mk.injEq] at h
    obtain ⟨x, hx, rfl, rfl⟩ := h
    refine ⟨β, o + i * s, rfl, fun j c hc => ⟨val i j, (h1 i j c (by simp [rowCell, hx, hc])).2, hr i j c (by simp [rowCell, hx, hc])⟩⟩
  | hel b i off' β o s cap g =>
    simp only [acells, Option.bind_eq_some_iff, Option.map_eq_some_iff, Prod.mk.injEq] at h
    obtain ⟨xs, hb, x, hx, rfl, rfl⟩ := h
    rcases hw.sl b xs hb with ⟨h1, _⟩ | ⟨β', o', s', cap', arr, el, h1, h2, h3, h4, h5, h6⟩
    · rw [g] at h1; cases h1
    · obtain ⟨rfl, rfl, rfl, rfl⟩ : β = β' ∧ o = o' ∧ s = s' ∧ cap = cap' := by rw [g] at h1; simpa using h1
      refine ⟨β, o + i * s, rfl, fun j c hc => ?_⟩
      have hi := (List.getElem?_eq_some_iff.1 hx).1
      have hjs : j < s := by rw [← h5 i x hx]; exact (List.getElem?_eq_some_iff.1 hc).1
      have hlt : o + i * s + j < arr.size := by
        have : (i + 1) * s ≤ cap * s := Nat.mul_le_mul_right _ (by omega)
        rw [Nat.add_mul] at this; omega
      exact ⟨arr[o + i * s + j], by rw [cell_of_heap h2]; exact Array.getElem?_eq_getElem hlt, h6 i j c _ (by simp [rowCell, hx, hc]) (Array.getElem?_eq_getElem hlt)⟩
  | _ => simp [acells] at h

def aload (P : Program) (σ : ASt) (t : TypeId) (x : AV) : Option AV :=
  (tsize P t).bind fun ng => (acells σ x).bind fun co => aloadC co.1 co.2 ng.1 ng.2
theorem opq_load {o : Oper} {ρ : Operand → AV} {σ : ASt} {R : AV → ASt → Prop} {t : TypeId} {x : Operand} (ho : o.op = .load t x) {r : AV} (h : aload P σ t (ρ x) = some r) (hr : R r σ) : OpQ P o ρ σ R := by
  refine opq_v (s := fun e => Instr.loadAt t (e x)) (fun e => by simp only [execOp, ho]) r hr fun G e w he hw => ?_
  simp only [aload, Option.bind_eq_some_iff] at h
  obtain ⟨⟨n, g⟩, hn, ⟨cs, off⟩, hc, hl⟩ := h
  obtain ⟨β, o, hv, hcs⟩ := acells_spec hc hw (he x)
  obtain ⟨v, h1, h2⟩ := run_loadVar_of hn hl hcs
  refine ⟨v, ?_, h2⟩
  simp [hv, Instr.loadAt, Instr.sureAddr, h1]

/-! ### fields -/
def apart (cs : List AV) (o n : Nat) (g : Bool) : Option AV := aloadC cs o n g
theorem run_part_of {t n g} (ht : tsize P t = some (n, g)) {G : Ghost} {w : World} {cs : List AV} {vs : Array Value} {r : AV} {off : Nat} (hr : aloadC cs off n g = some r)
    (hs : cs.length = vs.size) (hc : ∀ (i : Nat) c v, cs[i]? = some c → vs[i]? = some v → Rep G w c v) : ∃ v, (part t vs off).run P w = .ok v w ∧ Rep G w r v := by
  unfold aloadC at hr
  unfold part
  simp only [Sem.run_bind, run_isAgg' ht, Result.andThen_ok]
  cases g with
  | false =>
    simp only [Bool.false_eq_true, if_false] at hr ⊢
    have hlt : off < vs.size := by rw [← hs]; exact (List.getElem?_eq_some_iff.1 hr).1
    exact ⟨vs[off], by simp [hlt], hc off r _ hr (Array.getElem?_eq_getElem hlt)⟩
  | true =>
    simp only [if_true] at hr ⊢
    split at hr
    · rename_i hle
      obtain rfl := Option.some.inj hr
      refine ⟨_, by simp only [Sem.run_bind, run_sizeOf' ht, Result.andThen_ok, Sem.run_pure]; rfl, .agg _ _ (by simp; omega) fun i c v hc1 hv1 => ?_⟩
      have hi : i < n := by
        have := (List.getElem?_eq_some_iff.1 hc1).1
        simp at this; omega
      rw [List.getElem?_take, if_pos hi, List.getElem?_drop] at hc1
      rw [Array.getElem?_extract] at hv1
      split at hv1
      · exact hc (off + i) c v hc1 hv1
      · cases hv1
    · cases hr
def afield (P : Program) (s : TypeId) (f : Nat) : AV → Option AV
  | .agg cs => (tfield P s f).bind fun q => aloadC cs q.1 q.2.1 q.2.2
  | _ => none
theorem opq_field {o : Oper} {ρ : Operand → AV} {σ : ASt} {R : AV → ASt → Prop} {s : TypeId} {x : Operand} {f : Nat} (ho : o.op = .field s x f) {r : AV} (h : afield P s f (ρ x) = some r) (hr : R r σ) : OpQ P o ρ σ R := by
  refine opq_v (s := fun e => Instr.field s (e x) f) (fun e => by simp only [execOp, ho]) r hr fun G e w he hw => ?_
  have hx := he x
  generalize ρ x = c at h hx
  generalize e x = v at hx
  cases hx with
  | agg cs vs hs hc =>
    simp only [afield, Option.bind_eq_some_iff] at h
    obtain ⟨⟨off, n, g⟩, hf, hl⟩ := h
    obtain ⟨fs, fd, h1, h2, rfl, h4, h5⟩ := tfield_spec hf
    obtain ⟨v, h6, h7⟩ := run_part_of h4 hl hs hc
    refine ⟨v, ?_, h7⟩
    simp [Instr.field, run_underlying' h1, h2, asAgg, h6]
  | _ => simp [afield] at h

def ashift (k : Nat) : AV → Option AV
  | .ptr b off => some (.ptr b (off + k))
  | .vel xs i off => some (.vel xs i (off + k))
  | .hel b i off => some (.hel b i (off + k))
  | _ => none
theorem ashift_spec {k : Nat} {x r : AV} (h : ashift k x = some r) {G w v} (hx : Rep G w x v) : ∃ β o, v = .pointer (some ⟨β, o, none⟩) ∧ Rep G w r (.pointer (some ⟨β, o + k, none⟩)) := by
  cases hx with
  | ptr b off β g =>
    obtain rfl := Option.some.inj h
    exact ⟨β, off, rfl, .ptr b (off + k) β g⟩
  | vel xs i off β o s val hs h1 hr =>
    obtain rfl := Option.some.inj h
    refine ⟨β, _, rfl, ?_⟩
    rw [Nat.add_assoc]
    exact .vel xs i (off + k) β o s val hs h1 hr
  | hel b i off β o s cap g =>
    obtain rfl := Option.some.inj h
    refine ⟨β, _, rfl, ?_⟩
    rw [Nat.add_assoc]
    exact .hel b i (off + k) β o s cap g
  | _ => simp [ashift] at h
def afieldAddr (P : Program) (s : TypeId) (f : Nat) (x : AV) : Option AV := (tfield P s f).bind fun q => ashift q.1 x
theorem opq_fieldAddr {o : Oper} {ρ : Operand → AV} {σ : ASt} {R : AV → ASt → Prop} {s : TypeId} {x : Operand} {f : Nat} (ho : o.op = .fieldAddr s x f) {r : AV} (h : afieldAddr P s f (ρ x) = some r) (hr : R r σ) : OpQ P o ρ σ R := by
  refine opq_v (s := fun e => Instr.fieldAt s (e x) f) (fun e => by simp only [execOp, ho]) r hr fun G e w he hw => ?_
  simp only [afieldAddr, Option.bind_eq_some_iff] at h
  obtain ⟨⟨off, n, g⟩, hf, hl⟩ := h
  obtain ⟨fs, fd, h1, h2, rfl, h4, h5⟩ := tfield_spec hf
  obtain ⟨β, o, hv, hrep⟩ := ashift_spec hl (he x)
  refine ⟨_, ?_, hrep⟩
  simp [Instr.fieldAt, run_underlying' h1, h2, hv, Instr.sureAddr, fieldPlace, run_sizeOf' h4, h5, addr_add]
end Go.AL
/-! Operations, second part: plain values. -/
namespace Go.AL
open Go.RowKit (Below)
set_option linter.unusedVariables false
set_option linter.unusedSimpArgs false

variable {P : Program} {o : Oper} {ρ : Operand → AV} {σ : ASt} {R : AV → ASt → Prop}

theorem opq_move {x : Operand} (ho : o.op = .move x ∨ o.op = .assign x) (hr : R (ρ x) σ) : OpQ P o ρ σ R :=
  opq_val (ρ x) hr fun G e w he hw => ⟨e x, by rcases ho with ho | ho <;> simp [execOp, ho], he x⟩

/-- Does one hold where the other does? (Kept shut, with rules of its own.) -/
def impB (c b : Bool) : Bool := !c || b
@[simp] theorem impB_self (c : Bool) : impB c c = true := by cases c <;> rfl
@[simp] theorem impB_true (b : Bool) : impB true b = b := rfl
@[simp] theorem impB_false (b : Bool) : impB false b = true := rfl
@[simp] theorem impB_to (c : Bool) : impB c true = true := by cases c <;> rfl
@[simp] theorem impB_and1 (a b : Bool) : impB (a && b) a = true := by cases a <;> cases b <;> rfl
@[simp] theorem impB_and2 (a b : Bool) : impB (a && b) b = true := by cases a <;> cases b <;> rfl
@[simp] theorem impB_and3 (a b c : Bool) : impB (a && b && c) a = true := by cases a <;> cases b <;> cases c <;> rfl
@[simp] theorem impB_and4 (a b c : Bool) : impB (a && b && c) b = true := by cases a <;> cases b <;> cases c <;> rfl
@[simp] theorem impB_imp (t c b : Bool) : impB t (impB c b) = impB (c && t) b := by cases t <;> cases c <;> cases b <;> rfl
/-- One of two. -/
def bpick (t a b : Bool) : Bool := if t = true then a else b
@[simp] theorem bpick_true (a b : Bool) : bpick true a b = a := rfl
@[simp] theorem bpick_false (a b : Bool) : bpick false a b = b := rfl
@[simp] theorem bpick_and (t a : Bool) : bpick t a false = (t && a) := by cases t <;> rfl
@[simp] theorem bpick_or (t b : Bool) : bpick t true b = (t || b) := by cases t <;> rfl
/-- A value that is known if so. -/
def sopt (b : Bool) (v : AV) : AV := cond b v (.opt b v)
def strip (c : Bool) : AV → AV
  | .opt b v => sopt (impB c b) v
  | v => v
@[simp] theorem strip_opt (c b : Bool) (v : AV) : strip c (.opt b v) = sopt (impB c b) v := rfl
@[simp] theorem strip_p (c : Bool) (x : Value) : strip c (.p x) = .p x := rfl
@[simp] theorem strip_agg (c : Bool) (x : List AV) : strip c (.agg x) = .agg x := rfl
@[simp] theorem strip_tup (c : Bool) (x : List AV) : strip c (.tup x) = .tup x := rfl
@[simp] theorem strip_ptr (c : Bool) (i o : Nat) : strip c (.ptr i o) = .ptr i o := rfl
@[simp] theorem strip_vsl (c : Bool) (x : List AV) : strip c (.vsl x) = .vsl x := rfl
@[simp] theorem strip_vel (c : Bool) (x : List AV) (i o : Nat) : strip c (.vel x i o) = .vel x i o := rfl
@[simp] theorem strip_hsl (c : Bool) (i o n : Nat) : strip c (.hsl i o n) = .hsl i o n := rfl
@[simp] theorem strip_hel (c : Bool) (i o n : Nat) : strip c (.hel i o n) = .hel i o n := rfl
@[simp] theorem strip_map (c : Bool) (m : Nat) : strip c (.map m) = .map m := rfl
@[simp] theorem strip_fn (c : Bool) (f : Fn) (x y : List AV) : strip c (.fn f x y) = .fn f x y := rfl
@[simp] theorem strip_ifc (c : Bool) (t : TypeId) (v : AV) : strip c (.ifc t v) = .ifc t v := rfl
@[simp] theorem strip_any (c : Bool) : strip c .any = .any := rfl
@[simp] theorem sopt_true (v : AV) : sopt true v = v := rfl
@[simp] theorem sopt_false (v : AV) : sopt false v = .opt false v := rfl
@[simp] theorem strip_sopt_p (t b : Bool) (x : Value) : strip t (sopt b (.p x)) = sopt (impB t b) (.p x) := by cases b <;> cases t <;> rfl
@[simp] theorem strip_sopt_agg (t b : Bool) (x : List AV) : strip t (sopt b (.agg x)) = sopt (impB t b) (.agg x) := by cases b <;> cases t <;> rfl
@[simp] theorem strip_sopt_tup (t b : Bool) (x : List AV) : strip t (sopt b (.tup x)) = sopt (impB t b) (.tup x) := by cases b <;> cases t <;> rfl
@[simp] theorem strip_sopt_vsl (t b : Bool) (x : List AV) : strip t (sopt b (.vsl x)) = sopt (impB t b) (.vsl x) := by cases b <;> cases t <;> rfl
@[simp] theorem strip_sopt_vel (t b : Bool) (x : List AV) (i o : Nat) : strip t (sopt b (.vel x i o)) = sopt (impB t b) (.vel x i o) := by cases b <;> cases t <;> rfl
@[simp] theorem strip_sopt_ptr (t b : Bool) (i o : Nat) : strip t (sopt b (.ptr i o)) = sopt (impB t b) (.ptr i o) := by cases b <;> cases t <;> rfl
@[simp] theorem strip_sopt_fn (t b : Bool) (f : Fn) (x y : List AV) : strip t (sopt b (.fn f x y)) = sopt (impB t b) (.fn f x y) := by cases b <;> cases t <;> rfl
theorem strip_rep {c : Bool} (hc : c = true) {x : AV} {G w u} (hx : Rep G w x u) : Rep G w (strip c x) u := by
  by_cases h : ∃ b v, x = .opt b v
  · obtain ⟨b, v, rfl⟩ := h
    subst hc
    simp only [strip, impB_true]
    cases b with
    | true =>
      cases hx with
      | opt _ _ _ h _ => exact h rfl
    | false => exact hx
  · have : strip c x = x := by cases x <;> first | rfl | exact absurd ⟨_, _, rfl⟩ h
    rw [this]; exact hx
def apick2 (t : Bool) : AV → AV → AV
  | .p (.bool a), .p (.bool b) => .p (.bool (bpick t a b))
  | x, y => if t = true then x else y
def apick (t : Bool) (x y : AV) : AV := apick2 t (strip t x) (strip (!t) y)
theorem apick_rep {t : Bool} {x y : AV} {G w u v} (hx : Rep G w x u) (hy : Rep G w y v) : Rep G w (apick t x y) (if t then u else v) := by
  unfold apick
  cases t with
  | true =>
    have h := strip_rep (c := true) rfl hx
    generalize strip true x = a at h
    generalize strip (!true) y = b
    unfold apick2
    split
    · cases h; exact .p _
    · exact h
  | false =>
    have h := strip_rep (c := !false) rfl hy
    generalize strip false x = a
    generalize strip (!false) y = b at h
    unfold apick2
    split
    · cases h; exact .p _
    · exact h
theorem opq_pick {c a b : Operand} (ho : o.op = .pick c a b) {t : Bool} (hc : ρ c = .p (.bool t)) (hr : R (apick t (ρ a) (ρ b)) σ) : OpQ P o ρ σ R := by
  refine opq_val _ hr fun G e w he hw => ⟨if t then e a else e b, ?_, apick_rep (he a) (he b)⟩
  have h := he c
  rw [hc] at h
  generalize ha : e c = v at h
  cases h
  simp [execOp, ho, ha, asBool]

theorem opq_extract {x : Operand} {i : Nat} (ho : o.op = .extract x i) {cs : List AV} (hx : ρ x = .tup cs) {r : AV} (hi : cs[i]? = some r) (hr : R r σ) : OpQ P o ρ σ R := by
  refine opq_val _ hr fun G e w he hw => ?_
  have h := he x
  rw [hx] at h
  generalize ha : e x = v at h
  cases h with
  | tup _ vs hs hc =>
    have hlt : i < vs.size := by rw [← hs]; exact (List.getElem?_eq_some_iff.1 hi).1
    exact ⟨vs[i], by simp [execOp, ho, ha, Instr.extract, hlt], hc i r _ hi (Array.getElem?_eq_getElem hlt)⟩

theorem opq_makeInterface {x : Operand} {t : TypeId} (ho : o.op = .makeInterface t x) (hi : isIface P t = false) (hr : R (.ifc t (ρ x)) σ) : OpQ P o ρ σ R := by
  refine opq_val _ hr fun G e w he hw => ⟨.iface t (e x), ?_, .ifc t _ _ (he x)⟩
  unfold isIface at hi
  cases hd : P.underlying t with
  | none => rw [hd] at hi; cases hi
  | some d =>
    rw [hd] at hi
    have hI : (Instr.makeInterface t (e x)).run P w = .ok (.iface t (e x)) w := by
      simp only [Instr.makeInterface, Sem.run_bind, run_underlying' hd, Result.andThen_ok]
      cases d <;> first | rfl | cases hi
    simp [execOp, ho, hI]

def anilCheck : AV → Bool
  | .ptr _ _ | .vel _ _ _ | .hel _ _ _ | .ifc _ _ => true
  | .fn (.func _) _ _ | .fn (.yield _) _ _ | .fn (.via _ _ _ _) _ _ => true
  | .p (.func (.func _) _ _) => true
  | .p (.pointer (some _)) => true
  | _ => false
theorem opq_nilCheck {x : Operand} (ho : o.op = .nilCheck x) (hx : anilCheck (ρ x) = true) (hr : R (ρ x) σ) : OpQ P o ρ σ R := by
  refine opq_val _ hr fun G e w he hw => ⟨e x, ?_, he x⟩
  have h := he x
  generalize ρ x = c at h hx
  generalize ha : e x = v at h
  cases h with
  | p =>
    cases v with
    | pointer a => cases a with
      | none => cases hx
      | some a => simp [execOp, ho, ha]
    | func f aa bs =>
      cases f with
      | func f => simp [execOp, ho, ha]
      | _ => cases hx
    | _ => cases hx
  | fn f aa bs us vs h1 h2 h3 h4 =>
    cases f with
    | func f => simp [execOp, ho, ha]
    | yield f => simp [execOp, ho, ha]
    | via _ _ _ _ => simp [execOp, ho, ha]
    | _ => cases hx
  | ptr => simp [execOp, ho, ha]
  | vel => simp [execOp, ho, ha]
  | hel => simp [execOp, ho, ha]
  | ifc => simp [execOp, ho, ha]
  | _ => cases hx

/-! ### numbers and texts -/
def aint (op : BinOp) (k : IntKind) (a b : Int) : Option Value :=
  match op with
  | .add => some (.int k (k.wrap (a + b)))
  | .sub => some (.int k (k.wrap (a - b)))
  | .mul => some (.int k (k.wrap (a * b)))
  | .quo => if b = 0 then none else some (.int k (k.wrap (a.tdiv b)))
  | .rem => if b = 0 then none else some (.int k (a.tmod b))
  | .and => some (.int k (k.wrap (BitVec.ofInt k.bits a &&& BitVec.ofInt k.bits b).toNat))
  | .or => some (.int k (k.wrap (BitVec.ofInt k.bits a ||| BitVec.ofInt k.bits b).toNat))
  | .xor => some (.int k (k.wrap (BitVec.ofInt k.bits a ^^^ BitVec.ofInt k.bits b).toNat))
  | .andNot => some (.int k (k.wrap (BitVec.ofInt k.bits a &&& ~~~BitVec.ofInt k.bits b).toNat))
  | .eql => some (.bool (decide (a = b)))
  | .neq => some (.bool (!decide (a = b)))
  | .lss => some (.bool (decide (a < b)))
  | .leq => some (.bool (decide (a ≤ b)))
  | .gtr => some (.bool (decide (b < a)))
  | .geq => some (.bool (decide (b ≤ a)))
  | .shl | .shr => none
def ashiftN (op : BinOp) (k : IntKind) (a b : Int) : Option Value :=
  if b < 0 then none else
  match op with
  | .shl => some (.int k (k.wrap (a * 2 ^ (min b.toNat k.bits))))
  | .shr => some (.int k (a.fdiv (2 ^ (min b.toNat k.bits))))
  | _ => none
def astr (op : BinOp) (a b : ByteArray) : Option Value :=
  match op with
  | .add => if a.size + b.size ≤ 9223372036854775807 then some (.string (a ++ b)) else none
  | .eql => some (.bool (decide (a = b)))
  | .neq => some (.bool (!decide (a = b)))
  | .lss => some (.bool (Op.bytesLess a.data.toList b.data.toList))
  | .leq => some (.bool (Op.bytesLess a.data.toList b.data.toList || decide (a = b)))
  | .gtr => some (.bool (!(Op.bytesLess a.data.toList b.data.toList || decide (a = b))))
  | .geq => some (.bool (!Op.bytesLess a.data.toList b.data.toList))
  | _ => none
theorem beq_toList (a b : ByteArray) : (a.toList == b.toList) = decide (a = b) := by
  rw [ByteArray.toList_eq, ByteArray.toList_eq]
  by_cases h : a = b
  · subst h; simp
  · simp only [h, decide_false]
    rw [beq_eq_false_iff_ne]
    intro e
    exact h (by cases a; cases b; simp_all [Array.toList_inj])

/-- What kind of type it is, for what is held against nil. -/
def tkind (P : Program) (t : TypeId) : Nat :=
  match P.underlying t with
  | some .bool => 1
  | some (.pointer _) => 2
  | some (.interface _) => 3
  | some (.slice _) => 4
  | some (.map _ _) => 5
  | some (.func _ _ _) => 6
  | _ => 0
/-- Is it nil? -/
def aisNil (k : Nat) : AV → Option Bool
  | .p (.pointer none) => if k = 2 then some true else none
  | .p (.pointer (some _)) | .ptr _ _ | .vel _ _ _ | .hel _ _ _ => if k = 2 then some false else none
  | .p .nilIface => if k = 3 then some true else none
  | .ifc _ _ | .p (.iface _ _) => if k = 3 then some false else none
  | .p (.slice none _ _) => if k = 4 then some true else none
  | .p (.slice (some _) _ _) => if k = 4 then some false else none
  | .vsl xs => if k = 4 then (if xs.isEmpty then none else some false) else none
  | .hsl _ _ n => if k = 4 then (if n = 0 then none else some false) else none
  | .p (.map none) => if k = 5 then some true else none
  | .map _ => if k = 5 then some false else none
  | .p .nilFunc => if k = 6 then some true else none
  | .fn _ _ _ | .p (.func _ _ _) => if k = 6 then some false else none
  | _ => none
def isNilC (k : Nat) : AV → Bool
  | .p (.pointer none) => k = 2
  | .p .nilIface => k = 3
  | .p (.slice none 0 0) => k = 4
  | .p (.map none) => k = 5
  | .p .nilFunc => k = 6
  | _ => false
def abin (P : Program) (op : BinOp) (t : TypeId) (x y : AV) : Option Value :=
  match x, y with
  | .p (.int k a), .p (.int k' b) =>
    match op with
    | .shl | .shr => ashiftN op k a b
    | _ => if k = k' then aint op k a b else none
  | .p (.string a), .p (.string b) => astr op a b
  | .p (.bool a), .p (.bool b) => if tkind P t = 1 then (match op with | .eql => some (.bool (a == b)) | .neq => some (.bool (a != b)) | _ => none) else none
  | x, y =>
    if isNilC (tkind P t) y = true then
      match op with
      | .eql => (aisNil (tkind P t) x).map .bool
      | .neq => (aisNil (tkind P t) x).map fun b => .bool !b
      | _ => none
    else none

theorem run_eqGuard {op : BinOp} {t : TypeId} {x y : Operand} {a b : Value} (h1 : ∀ cs ds, a = .agg cs → b = .agg ds → False) (h2 : a = .nilIface → b = .nilIface → (∃ v, x = .const v) ∨ ∃ v, y = .const v) (w : World) :
    (eqGuard op t x y a b).run P w = .ok () w := by
  unfold eqGuard
  cases op <;> first
    | rfl
    | (cases a <;> cases b <;> first
        | rfl
        | exact (h1 _ _ rfl rfl).elim
        | (rcases h2 rfl rfl with ⟨v, rfl⟩ | ⟨v, rfl⟩ <;> simp))

theorem run_binOp_int {op : BinOp} {k : IntKind} {a b : Int} {t : TypeId} {v : Value} (h : aint op k a b = some v) (w : World) : (binOp op t (.int k a) (.int k b)).run P w = .ok v w := by
  have hk : ∀ s, (if k ≠ k then (stuck "BinOp: operands of different kinds" : Sem Value) else s) = s := fun s => if_neg (by simp)
  cases op <;> simp only [aint] at h
  case quo =>
    split at h
    · cases h
    · rename_i h0
      obtain rfl := Option.some.inj h
      simp only [binOp, hk, Op.intDiv, if_neg h0]
      rfl
  case rem =>
    split at h
    · cases h
    · rename_i h0
      obtain rfl := Option.some.inj h
      simp only [binOp, hk, Op.intDiv, if_neg h0]
      rfl
  case shl => cases h
  case shr => cases h
  case eql => obtain rfl := Option.some.inj h; simp only [binOp, hk, Op.intCmp]; rfl
  case neq => obtain rfl := Option.some.inj h; simp only [binOp, hk, Op.intCmp]; rfl
  all_goals (obtain rfl := Option.some.inj h; simp only [binOp, hk]; rfl)
theorem run_binOp_shift {op : BinOp} {k k' : IntKind} {a b : Int} {t : TypeId} {v : Value} (hop : op = .shl ∨ op = .shr) (h : ashiftN op k a b = some v) (w : World) : (binOp op t (.int k a) (.int k' b)).run P w = .ok v w := by
  unfold ashiftN at h
  split at h
  · cases h
  · rename_i h0
    rcases hop with rfl | rfl <;> (simp only [Option.some.injEq] at h; subst h; simp [binOp, Op.shift, h0])
theorem run_binOp_str {op : BinOp} {a b : ByteArray} {t : TypeId} {v : Value} (h : astr op a b = some v) (w : World) : (binOp op t (.string a) (.string b)).run P w = .ok v w := by
  by_cases hop : op = .add
  · subst hop
    simp only [astr] at h
    split at h
    · rename_i h0
      obtain rfl := Option.some.inj h
      have : ¬ ((a.size + b.size : Nat) : Int) > IntKind.i64.max := by
        have : IntKind.i64.max = 9223372036854775807 := by decide
        omega
      simp only [binOp, Op.stringOp, if_neg this]
      rfl
    · cases h
  cases op <;> simp only [astr, Option.some.injEq, reduceCtorEq] at h <;> first
    | exact absurd rfl hop
    | (subst h; simp [binOp, Op.stringOp, beq_toList, ByteArray.toList_eq]; done)
    | (subst h
       have e := beq_toList a b
       rw [ByteArray.toList_eq, ByteArray.toList_eq] at e
       simp [binOp, Op.stringOp, ByteArray.toList_eq, e, bne]
       done)

theorem tkind_spec {t : TypeId} {k : Nat} (h : tkind P t = k) (hk : k ≠ 0) : ∃ d, P.underlying t = some d ∧ ((k = 1 ∧ d = .bool) ∨ (k = 2 ∧ ∃ e, d = .pointer e) ∨ (k = 3 ∧ ∃ e, d = .interface e) ∨ (k = 4 ∧ ∃ e, d = .slice e) ∨ (k = 5 ∧ ∃ e f, d = .map e f) ∨ (k = 6 ∧ ∃ a b c, d = .func a b c)) := by
  unfold tkind at h
  split at h <;> rename_i hd
  · exact ⟨_, hd, by simp [← h]⟩
  · exact ⟨_, hd, by simp [← h]⟩
  · exact ⟨_, hd, by simp [← h]⟩
  · exact ⟨_, hd, by simp [← h]⟩
  · exact ⟨_, hd, by simp [← h]⟩
  · exact ⟨_, hd, by simp [← h]⟩
  · exact absurd h.symm hk
theorem equal_step (t : TypeId) (x y : Value) : Op.equal t x y = Op.equalIn (9999 + 1) t x y := rfl
theorem run_equal_bool {t : TypeId} (h : tkind P t = 1) (a b : Bool) (w : World) : (Op.equal t (.bool a) (.bool b)).run P w = .ok (a == b) w := by
  obtain ⟨d, hd, hk⟩ := tkind_spec h (by simp)
  have : d = .bool := by simpa using hk
  subst this
  have key : ∀ n, (Op.equalIn (n + 1) t (.bool a) (.bool b)).run P w = .ok (a == b) w := fun n => by simp [Op.equalIn, run_underlying' hd]
  exact key 9999
/-- What it means to be nil, of a kind. -/
def NilAs : Nat → Value → Bool → Prop
  | 2, .pointer a, b => a.isNone = b
  | 3, .nilIface, b => b = true
  | 3, .iface _ _, b => b = false
  | 4, .slice a _ _, b => a.isNone = b
  | 5, .map a, b => a.isNone = b
  | 6, .nilFunc, b => b = true
  | 6, .func _ _ _, b => b = false
  | _, _, _ => False
theorem ite_some {c : Prop} [Decidable c] {b b' : Bool} (h : (if c then some b else none) = some b') : c ∧ b = b' := by
  split at h
  · rename_i hc; exact ⟨hc, Option.some.inj h⟩
  · cases h
theorem aisNil_spec {k : Nat} {x : AV} {b : Bool} (hx : aisNil k x = some b) {G w u} (hu : Rep G w x u) : NilAs k u b := by
  cases hu with
  | p =>
    cases u with
    | pointer a => cases a <;> (obtain ⟨rfl, rfl⟩ := ite_some hx; rfl)
    | nilIface => obtain ⟨rfl, rfl⟩ := ite_some hx; rfl
    | iface t z => obtain ⟨rfl, rfl⟩ := ite_some hx; rfl
    | slice a n c => cases a <;> (obtain ⟨rfl, rfl⟩ := ite_some hx; rfl)
    | map a => cases a with
      | none => obtain ⟨rfl, rfl⟩ := ite_some hx; rfl
      | some a => cases hx
    | nilFunc => obtain ⟨rfl, rfl⟩ := ite_some hx; rfl
    | func _ _ _ => obtain ⟨rfl, rfl⟩ := ite_some hx; rfl
    | _ => cases hx
  | ptr => obtain ⟨rfl, rfl⟩ := ite_some hx; rfl
  | vel => obtain ⟨rfl, rfl⟩ := ite_some hx; rfl
  | hel => obtain ⟨rfl, rfl⟩ := ite_some hx; rfl
  | ifc => obtain ⟨rfl, rfl⟩ := ite_some hx; rfl
  | map => obtain ⟨rfl, rfl⟩ := ite_some hx; rfl
  | fn => obtain ⟨rfl, rfl⟩ := ite_some hx; rfl
  | vnil => simp [aisNil] at hx
  | vsl xs => simp [aisNil] at hx; obtain ⟨rfl, _, rfl⟩ := hx; rfl
  | hsl b off len => simp [aisNil] at hx; obtain ⟨rfl, _, rfl⟩ := hx; rfl
  | hend => simp [aisNil] at hx
  | hnil => simp [aisNil] at hx
  | _ => cases hx
theorem isNilC_spec {k : Nat} {y : AV} (hy : isNilC k y = true) {G w v} (hv : Rep G w y v) : (k = 2 ∧ v = .pointer none) ∨ (k = 3 ∧ v = .nilIface) ∨ (k = 4 ∧ v = .slice none 0 0) ∨ (k = 5 ∧ v = .map none) ∨ (k = 6 ∧ v = .nilFunc) := by
  cases hv with
  | p =>
    cases v with
    | pointer a => cases a with
      | none => have := of_decide_eq_true hy; simp [this]
      | some a => cases hy
    | nilIface => have := of_decide_eq_true hy; simp [this]
    | slice a n c =>
      unfold isNilC at hy
      split at hy <;> simp_all
    | map a => cases a with
      | none => have := of_decide_eq_true hy; simp [this]
      | some a => cases hy
    | nilFunc => have := of_decide_eq_true hy; simp [this]
    | _ => cases hy
  | _ => cases hy
theorem run_equal_nil {t : TypeId} {x y : AV} {b : Bool} (hy : isNilC (tkind P t) y = true) (hx : aisNil (tkind P t) x = some b) {G w u v} (hu : Rep G w x u) (hv : Rep G w y v) (n : Nat) : (Op.equalIn (n + 1) t u v).run P w = .ok b w := by
  have hu' := aisNil_spec hx hu
  have hv' := isNilC_spec hy hv
  obtain ⟨d, hd, hd2⟩ := tkind_spec (t := t) (P := P) rfl (by rcases hv' with ⟨h, _⟩ | ⟨h, _⟩ | ⟨h, _⟩ | ⟨h, _⟩ | ⟨h, _⟩ <;> omega)
  generalize tkind P t = k at *
  rcases hv' with ⟨rfl, rfl⟩ | ⟨rfl, rfl⟩ | ⟨rfl, rfl⟩ | ⟨rfl, rfl⟩ | ⟨rfl, rfl⟩
  · obtain ⟨e, rfl⟩ : ∃ e, d = .pointer e := by simpa using hd2
    cases u with
    | pointer a => cases a <;> (simp only [NilAs] at hu'; subst hu'; simp only [Op.equalIn, Sem.run_bind, run_underlying' hd, Result.andThen_ok]; rfl)
    | _ => exact hu'.elim
  · obtain ⟨e, rfl⟩ : ∃ e, d = .interface e := by simpa using hd2
    cases u with
    | nilIface => simp only [NilAs] at hu'; subst hu'; simp only [Op.equalIn, Sem.run_bind, run_underlying' hd, Result.andThen_ok]; rfl
    | iface _ _ => simp only [NilAs] at hu'; subst hu'; simp only [Op.equalIn, Sem.run_bind, run_underlying' hd, Result.andThen_ok]; rfl
    | _ => exact hu'.elim
  · obtain ⟨e, rfl⟩ : ∃ e, d = .slice e := by simpa using hd2
    cases u with
    | slice a _ _ => cases a <;> (simp only [NilAs] at hu'; subst hu'; simp only [Op.equalIn, Sem.run_bind, run_underlying' hd, Result.andThen_ok]; rfl)
    | _ => exact hu'.elim
  · obtain ⟨e, f, rfl⟩ : ∃ e f, d = .map e f := by simpa using hd2
    cases u with
    | map a => cases a <;> (simp only [NilAs] at hu'; subst hu'; simp only [Op.equalIn, Sem.run_bind, run_underlying' hd, Result.andThen_ok]; rfl)
    | _ => exact hu'.elim
  · obtain ⟨e, f, g, rfl⟩ : ∃ e f g, d = .func e f g := by simpa using hd2
    cases u with
    | nilFunc => simp only [NilAs] at hu'; subst hu'; simp only [Op.equalIn, Sem.run_bind, run_underlying' hd, Result.andThen_ok]; rfl
    | func _ _ _ => simp only [NilAs] at hu'; subst hu'; simp only [Op.equalIn, Sem.run_bind, run_underlying' hd, Result.andThen_ok]; rfl
    | _ => exact hu'.elim
def isConstO : Operand → Bool
  | .const _ => true
  | _ => false
theorem opq_binOp {op : BinOp} {t t2 : TypeId} {x y : Operand} (ho : o.op = .binOp op t x y t2) {v : Value} (h : abin P op t (ρ x) (ρ y) = some v) (hc : tkind P t = 3 → isConstO y = true) (hr : R (.p v) σ) : OpQ P o ρ σ R := by
  refine opq_v (s := fun e => do eqGuard op t x y (e x) (e y); binOp op t (e x) (e y)) (fun e => by simp only [execOp, ho]) (.p v) hr fun G e w he hw => ⟨v, ?_, .p v⟩
  have hx := he x
  have hy := he y
  generalize ρ x = cx at h hx
  generalize ρ y = cy at h hy
  generalize e x = vx at hx
  generalize e y = vy at hy
  simp only [Sem.run_bind]
  unfold abin at h
  split at h
  · cases hx; cases hy
    rw [run_eqGuard (by intros; contradiction) (by intros; contradiction)]
    simp only [Result.andThen_ok]
    split at h
    · exact run_binOp_shift (.inl rfl) h w
    · exact run_binOp_shift (.inr rfl) h w
    · split at h
      · rename_i hk
        subst hk
        exact run_binOp_int h w
      · cases h
  · cases hx; cases hy
    rw [run_eqGuard (by intros; contradiction) (by intros; contradiction)]
    exact run_binOp_str h w
  · cases hx; cases hy
    rw [run_eqGuard (by intros; contradiction) (by intros; contradiction)]
    simp only [Result.andThen_ok]
    split at h
    · rename_i ht
      split at h
      · obtain rfl := Option.some.inj h
        simp [binOp, run_equal_bool ht]
      · obtain rfl := Option.some.inj h
        simp [binOp, run_equal_bool ht, bne]
      · cases h
    · cases h
  · rename_i hni hns hnb
    split at h
    · rename_i hyn
      have hg : (eqGuard op t x y vx vy).run P w = .ok () w := by
        refine run_eqGuard (fun cs ds e1 e2 => ?_) (fun e1 e2 => ?_) w
        · subst e2
          cases hy with
          | p => cases hyn
          | agg => cases hyn
          | any => cases hyn
          | opt => cases hyn
        · subst e1 e2
          have : tkind P t = 3 := by
            cases hy with
            | p => simpa [isNilC] using hyn
            | any => cases hyn
            | opt => cases hyn
          have hcy := hc this
          cases y with
          | const v => exact .inr ⟨_, rfl⟩
          | _ => cases hcy
      rw [hg]
      simp only [Result.andThen_ok]
      have hsplit : ∀ b, aisNil (tkind P t) cx = some b → (Op.equal t vx vy).run P w = .ok b w := fun b hb => run_equal_nil hyn hb hx hy 9999
      have hbin : ∀ (q : BinOp), (q = .eql ∨ q = .neq) → (binOp q t vx vy) = (if q = .eql then (do pure (.bool (← Op.equal t vx vy))) else (do pure (.bool (!(← Op.equal t vx vy))))) := by
        intro q hq
        cases hy with
        | any => cases hyn
        | opt => cases hyn
        | p =>
          have hy2 : (∃ a, vy = .pointer a) ∨ vy = .nilIface ∨ (∃ a b c, vy = .slice a b c) ∨ (∃ a, vy = .map a) ∨ vy = .nilFunc := by
            cases vy <;> first | cases hyn | simp
          rcases hq with rfl | rfl <;> rcases hy2 with ⟨a, rfl⟩ | rfl | ⟨a, b, c, rfl⟩ | ⟨a, rfl⟩ | rfl <;> cases vx <;> rfl
        | _ => cases hyn
      split at h
      · obtain ⟨b, hb, rfl⟩ := Option.map_eq_some_iff.1 h
        rw [hbin .eql (.inl rfl)]
        simp [hsplit b hb]
      · obtain ⟨b, hb, rfl⟩ := Option.map_eq_some_iff.1 h
        rw [hbin .neq (.inr rfl)]
        simp [hsplit b hb]
      · cases h
    · cases h
end Go.AL
/-! Operations, third part: lengths, indexes, cuts, boxes, stores, structs. -/
namespace Go.AL
open Go.RowKit (Below)
set_option linter.unusedVariables false
set_option linter.unusedSimpArgs false

variable {P : Program} {o : Oper} {ρ : Operand → AV} {σ : ASt} {R : AV → ASt → Prop}

theorem execOp_builtin (e : Operand → Value) {b : Builtin} {args : Array Operand} {ts : Array TypeId} (ho : o.op = .call { callee := .builtin b, args := args, argTypes := ts }) :
    execOp e o = builtin b ts o.type (args.map fun | .const _ => true | _ => false) (args.map e) := by
  simp only [execOp, ho, resolve]
  rfl

/-! ### len, min, max -/
def isIt : List (AV × AV) → Bool
  | [(.vsl [.agg [], .agg [.any]], _)] => true
  | _ => false
def alen (P : Program) (σ : ASt) (t : TypeId) : AV → Option Int
  | .p (.string s) => if isString P t = true then some s.size else none
  | .vsl xs => if isSlice P t = true then some xs.length else none
  | .hsl _ _ n => if isSlice P t = true then some n else none
  | .p (.slice _ n _) => if isSlice P t = true then some n else none
  | .map m => if isMapT P t = true then (σ.mp m).bind fun es => if isIt es = true then none else some (es.length : Int) else none
  | .p (.map none) => if isMapT P t = true then some 0 else none
  | _ => none
theorem isSlice_spec {t : TypeId} (h : isSlice P t = true) : ∃ e, P.underlying t = some (.slice e) := by
  unfold isSlice at h; split at h
  · exact ⟨_, by assumption⟩
  · cases h
theorem isString_spec {t : TypeId} (h : isString P t = true) : P.underlying t = some .string := by
  unfold isString at h; split at h
  · assumption
  · cases h
theorem isMapT_spec {t : TypeId} (h : isMapT P t = true) : ∃ k e, P.underlying t = some (.map k e) := by
  unfold isMapT at h; split at h
  · exact ⟨_, _, by assumption⟩
  · cases h
theorem ite_some' {α : Type} {c : Prop} [Decidable c] {b : Option α} {b' : α} (h : (if c then b else none) = some b') : c ∧ b = some b' := by
  split at h
  · rename_i hc; exact ⟨hc, h⟩
  · cases h
theorem run_getObj_map {w : World} {r : Nat} {es : Array MapEntry} {c : Nat} (h : w.heap[r]? = some (.map es c)) : (getObj r).run P w = .ok (.map es c) w := by
  simp [getObj, Sem.run, h]
theorem run_len_of {t ty : TypeId} {x : AV} {n : Int} (h : alen P σ t x = some n) {G w v} (hw : SimW G σ w) (hx : Rep G w x v) : (Builtin.len_ #[t] ty #[v]).run P w = .ok (.int .i64 n) w := by
  cases hx with
  | p =>
    cases v with
    | string s =>
      obtain ⟨ht, hn⟩ := ite_some' h
      obtain rfl := Option.some.inj hn
      simp [Builtin.len_, run_underlying' (isString_spec ht), goInt]
    | slice a l c =>
      obtain ⟨ht, hn⟩ := ite_some' h
      obtain rfl := Option.some.inj hn
      obtain ⟨e, he⟩ := isSlice_spec ht
      simp [Builtin.len_, run_underlying' he, goInt]
    | map r =>
      cases r with
      | some r => cases h
      | none =>
        obtain ⟨ht, hn⟩ := ite_some' h
        obtain rfl := Option.some.inj hn
        obtain ⟨k, e, he⟩ := isMapT_spec ht
        simp [Builtin.len_, run_underlying' he, goInt]
    | _ => cases h
  | vnil a cap =>
    obtain ⟨ht, hn⟩ := ite_some' h
    obtain rfl := Option.some.inj hn
    obtain ⟨e, he⟩ := isSlice_spec ht
    simp [Builtin.len_, run_underlying' he, goInt]
  | vsl xs =>
    obtain ⟨ht, hn⟩ := ite_some' h
    obtain rfl := Option.some.inj hn
    obtain ⟨e, he⟩ := isSlice_spec ht
    simp [Builtin.len_, run_underlying' he, goInt]
  | hsl =>
    obtain ⟨ht, hn⟩ := ite_some' h
    obtain rfl := Option.some.inj hn
    obtain ⟨e, he⟩ := isSlice_spec ht
    simp [Builtin.len_, run_underlying' he, goInt]
  | hend =>
    obtain ⟨ht, hn⟩ := ite_some' h
    obtain rfl := Option.some.inj hn
    obtain ⟨e, he⟩ := isSlice_spec ht
    simp [Builtin.len_, run_underlying' he, goInt]
  | hnil =>
    obtain ⟨ht, hn⟩ := ite_some' h
    obtain rfl := Option.some.inj hn
    obtain ⟨e, he⟩ := isSlice_spec ht
    simp [Builtin.len_, run_underlying' he, goInt]
  | map m μ g =>
    obtain ⟨ht, hn⟩ := ite_some' h
    obtain ⟨es, hm, hn⟩ := Option.bind_eq_some_iff.1 hn
    obtain ⟨hit, rfl⟩ : isIt es = false ∧ (es.length : Int) = n := by
      split at hn
      · cases hn
      · rename_i h; exact ⟨by simpa using h, Option.some.inj hn⟩
    obtain ⟨k, e, he⟩ := isMapT_spec ht
    obtain ⟨μ', ents, clock, h1, h2, h3, _⟩ : ∃ μ ents clock, G.mp m = some μ ∧ w.heap[μ]? = some (.map ents clock) ∧ ents.size = es.length ∧ True := by
      rcases hw.mp m es hm with ⟨μ, ents, clock, h1, h2, h3, _⟩ | ⟨μ, s, pos, _, _, rfl⟩
      · exact ⟨μ, ents, clock, h1, h2, h3, trivial⟩
      · cases hit
    obtain rfl := Option.some.inj (g.symm.trans h1)
    simp [Builtin.len_, run_underlying' he, goInt, run_getObj_map h2, h3]
  | _ => cases h
theorem opq_len {t : TypeId} {x : Operand} (ho : o.op = .call { callee := .builtin .len, args := #[x], argTypes := #[t] }) {n : Int} (h : alen P σ t (ρ x) = some n) (hr : R (.p (.int .i64 n)) σ) : OpQ P o ρ σ R := by
  refine opq_v (s := fun e => Builtin.len_ #[t] o.type #[e x]) (fun e => by rw [execOp_builtin e ho]; simp [builtin]) _ hr fun G e w he hw => ⟨_, run_len_of h hw (he x), .p _⟩

def amm (mx : Bool) : AV → AV → Option Value
  | .p (.int k a), .p (.int _ b) => some (.int k (if mx = true then (if b > a then b else a) else (if b < a then b else a)))
  | _, _ => none
theorem opq_mm {ts : Array TypeId} {x y : Operand} {mx : Bool} (ho : o.op = .call { callee := .builtin (if mx = true then .max else .min), args := #[x, y], argTypes := ts }) {v : Value} (h : amm mx (ρ x) (ρ y) = some v) (hr : R (.p v) σ) : OpQ P o ρ σ R := by
  refine opq_val (.p v) hr fun G e w he hw => ⟨v, ?_, .p v⟩
  rw [execOp_builtin e ho]
  have hx := he x
  have hy := he y
  generalize ρ x = cx at h hx
  generalize ρ y = cy at h hy
  simp only [Array.map, List.map_toArray]
  unfold amm at h
  split at h
  · generalize hvx : e x = vx at hx
    generalize hvy : e y = vy at hy
    cases hx; cases hy
    obtain rfl := Option.some.inj h
    cases mx
    · simp [builtin, Builtin.min_, Builtin.min2, hvx, hvy]
    · simp [builtin, Builtin.max_, Builtin.max2, hvx, hvy]
  · cases h

/-! ### one operand -/
def aun (op : UnOp) : AV → Option Value
  | .p (.int k n) => match op with
    | .neg => some (.int k (k.wrap (0 - n)))
    | _ => none
  | .p (.bool b) => match op with
    | .not => some (.bool !b)
    | _ => none
  | _ => none
theorem opq_unOp {op : UnOp} {t : TypeId} {x : Operand} (ho : o.op = .unOp op t x) {v : Value} (h : aun op (ρ x) = some v) (hr : R (.p v) σ) : OpQ P o ρ σ R := by
  refine opq_v (s := fun e => Op.unary op (e x)) (fun e => by simp only [execOp, ho]) (.p v) hr fun G e w he hw => ⟨v, ?_, .p v⟩
  have hx := he x
  generalize ρ x = cx at h hx
  generalize e x = vx at hx
  unfold aun at h
  split at h
  · cases hx
    split at h
    · obtain rfl := Option.some.inj h; rfl
    · cases h
  · cases hx
    split at h
    · obtain rfl := Option.some.inj h; rfl
    · cases h
  · cases h
def aconv (P : Program) (src dst : TypeId) : AV → Option Value
  | .p (.int _ n) => match P.underlying src, P.underlying dst with
    | some _, some (.int k) => some (.int k (k.wrap n))
    | _, _ => none
  | .p (.string s) => match P.underlying src, P.underlying dst with
    | some .string, some .string => some (.string s)
    | _, _ => none
  | _ => none
theorem opq_convert {src dst : TypeId} {x : Operand} (ho : o.op = .convert src dst x) {v : Value} (h : aconv P src dst (ρ x) = some v) (hr : R (.p v) σ) : OpQ P o ρ σ R := by
  refine opq_v (s := fun e => convert src dst (e x)) (fun e => by simp only [execOp, ho]) (.p v) hr fun G e w he hw => ⟨v, ?_, .p v⟩
  have hx := he x
  generalize ρ x = cx at h hx
  generalize e x = vx at hx
  unfold aconv at h
  split at h
  · cases hx
    split at h
    · rename_i d k h1 h2
      obtain rfl := Option.some.inj h
      simp only [convert, Sem.run_bind, run_underlying' h1, run_underlying' h2, Result.andThen_ok]
      cases d <;> rfl
    · cases h
  · cases hx
    split at h
    · rename_i h1 h2
      obtain rfl := Option.some.inj h
      simp only [convert, Sem.run_bind, run_underlying' h1, run_underlying' h2, Result.andThen_ok]
      rfl
    · cases h
  · cases h

/-! ### indexes -/
def aindexS (P : Program) (t : TypeId) : AV → AV → Option Value
  | .p (.string s), .p (.int _ i) => if isString P t = true then (if 0 ≤ i then (s.data.toList[i.toNat]?).map fun b => .int .u8 b.toNat else none) else none
  | _, _ => none
theorem opq_indexS {t : TypeId} {x i : Operand} (ho : o.op = .index t x i) {v : Value} (h : aindexS P t (ρ x) (ρ i) = some v) (hr : R (.p v) σ) : OpQ P o ρ σ R := by
  refine opq_v (s := fun e => Instr.index t (e x) (e i)) (fun e => by simp only [execOp, ho]) (.p v) hr fun G e w he hw => ⟨v, ?_, .p v⟩
  have hx := he x
  have hi := he i
  generalize ρ x = cx at h hx
  generalize e x = vx at hx
  generalize ρ i = ci at h hi
  generalize e i = vi at hi
  unfold aindexS at h
  split at h
  · rename_i s k n
    cases hx; cases hi
    obtain ⟨ht, h⟩ := ite_some' h
    obtain ⟨h0, h⟩ := ite_some' h
    obtain ⟨b, hb, rfl⟩ := Option.map_eq_some_iff.1 h
    have hb' : s[n.toNat]? = some b := by
      have h1 := (List.getElem?_eq_some_iff.1 hb)
      obtain ⟨hlt, he⟩ := h1
      have hlt' : n.toNat < s.size := by simpa using hlt
      rw [getElem?_pos s n.toNat hlt']
      exact congrArg some he
    simp only [Instr.index, asIntOf, Sem.run_bind, Sem.run_pure, Result.andThen_ok, run_underlying' (isString_spec ht), if_pos h0, hb']
  · cases h

def aindexI (P : Program) (σ : ASt) (t : TypeId) (x : AV) (k : Nat) : Option AV :=
  match x with
  | .vsl xs => (telem P t).bind fun q => (xs[k]?).bind fun y => if y.cells.length = q.1 then some (.vel xs k 0) else none
  | .hsl b off n => (telem P t).bind fun q => if k < n then (σ.sl b).bind fun xs => (xs[off + k]?).bind fun y => if y.cells.length = q.1 then some (.hel b (off + k) 0) else none else none
  | x => (tarr P t).bind fun q => if k < q.1 then ashift (k * q.2.1) x else none
def aindexAddr (P : Program) (σ : ASt) (t : TypeId) (x : AV) : AV → Option AV
  | .p (.int _ i) => if 0 ≤ i then aindexI P σ t x i.toNat else none
  | _ => none
theorem telem_spec {t n g by_} (h : telem P t = some (n, g, by_)) : ∃ e i, P.underlying t = some (.slice e) ∧ P.info? e = some i ∧ tsize P e = some (n, g) ∧ i.bytes = by_ := by
  unfold telem at h
  split at h
  · rename_i e he
    split at h
    · rename_i i n' g' hi hn
      simp only [Option.some.injEq, Prod.mk.injEq] at h
      obtain ⟨rfl, rfl, rfl⟩ := h
      exact ⟨e, i, he, hi, hn, rfl⟩
    · cases h
  · cases h
theorem tarr_spec {t l n g} (h : tarr P t = some (l, n, g)) : ∃ e, P.underlying t = some (.array l e) ∧ tsize P e = some (n, g) := by
  unfold tarr at h
  split at h
  · rename_i l' e he
    split at h
    · rename_i n' g' hn
      simp only [Option.some.injEq, Prod.mk.injEq] at h
      obtain ⟨rfl, rfl, rfl⟩ := h
      exact ⟨e, he, hn⟩
    · cases h
  · cases h
theorem aindexI_spec {t : TypeId} {x r : AV} {n : Int} (h : aindexI P σ t x n.toNat = some r) (h0 : 0 ≤ n) {G w v k} (hw : SimW G σ w) (hx : Rep G w x v) : ∃ u, (Instr.indexAt t v (.int k n)).run P w = .ok u w ∧ Rep G w r u := by
  unfold aindexI at h
  split at h
  · rename_i xs
    obtain ⟨⟨m, g, by_⟩, hq, h⟩ := Option.bind_eq_some_iff.1 h
    obtain ⟨y, hy, h⟩ := Option.bind_eq_some_iff.1 h
    obtain ⟨hl, h⟩ := ite_some' h
    obtain rfl := Option.some.inj h
    obtain ⟨e', i', h1, h2, h3, _⟩ := telem_spec hq
    have hlt := (List.getElem?_eq_some_iff.1 hy).1
    cases hx with
    | vnil => simp at hlt
    | vsl _ β o s cap val hcap hs hc hrr =>
      have hs' : s = m := (hs _ _ hy).symm.trans hl
      subst hs'
      refine ⟨.pointer (some ⟨β, o + n.toNat * s, none⟩), ?_, .vel xs n.toNat 0 β o s val hs hc hrr⟩
      have hc2 : 0 ≤ n ∧ n < (xs.length : Int) := ⟨h0, by omega⟩
      simp [Instr.indexAt, asIntOf, run_underlying' h1, hc2, run_sizeOf' h3, addr_add]
  · rename_i b off len
    obtain ⟨⟨m, g, by_⟩, hq, h⟩ := Option.bind_eq_some_iff.1 h
    obtain ⟨hlt, h⟩ := ite_some' h
    obtain ⟨xs, hxs, h⟩ := Option.bind_eq_some_iff.1 h
    obtain ⟨y, hy, h⟩ := Option.bind_eq_some_iff.1 h
    obtain ⟨hl, h⟩ := ite_some' h
    obtain rfl := Option.some.inj h
    obtain ⟨e', i', h1, h2, h3, _⟩ := telem_spec hq
    cases hx with
    | hsl _ _ _ β o s cap g hle =>
      rcases hw.sl b xs hxs with ⟨g1, _⟩ | ⟨β', o', s', cap', arr, el, g1, g2, g3, g4, g5, g6⟩
      · rw [g] at g1; cases g1
      · obtain ⟨rfl, rfl, rfl, rfl⟩ : β = β' ∧ o = o' ∧ s = s' ∧ cap = cap' := by rw [g] at g1; simpa using g1
        have hs' : s = m := (g5 _ _ hy).symm.trans hl
        subst hs'
        refine ⟨.pointer (some ⟨β, o + off * s + n.toNat * s, none⟩), ?_, ?_⟩
        · have hc2 : 0 ≤ n ∧ n < (len : Int) := ⟨h0, by omega⟩
          simp [Instr.indexAt, asIntOf, run_underlying' h1, hc2, run_sizeOf' h3, addr_add]
        · have : o + off * s + n.toNat * s = o + (off + n.toNat) * s + 0 := by rw [Nat.add_mul]; omega
          rw [this]
          exact .hel b (off + n.toNat) 0 β o s cap g
    | hend => omega
    | hnil => omega
  · obtain ⟨⟨l, m, g⟩, hq, h⟩ := Option.bind_eq_some_iff.1 h
    obtain ⟨hlt, h⟩ := ite_some' h
    obtain ⟨e', h1, h3⟩ := tarr_spec hq
    obtain ⟨β, o, rfl, hrep⟩ := ashift_spec h hx
    refine ⟨_, ?_, hrep⟩
    have hc2 : 0 ≤ n ∧ n < (l : Int) := ⟨h0, by have : n.toNat < l := hlt; omega⟩
    simp [Instr.indexAt, asIntOf, run_underlying' h1, Instr.sureAddr, hc2, run_sizeOf' h3, addr_add]
theorem opq_indexAddr {t : TypeId} {x i : Operand} (ho : o.op = .indexAddr t x i) {r : AV} (h : aindexAddr P σ t (ρ x) (ρ i) = some r) (hr : R r σ) : OpQ P o ρ σ R := by
  refine opq_v (s := fun e => Instr.indexAt t (e x) (e i)) (fun e => by simp only [execOp, ho]) r hr fun G e w he hw => ?_
  have hx := he x
  have hi := he i
  generalize ρ x = cx at h hx
  generalize e x = vx at hx
  generalize ρ i = ci at h hi
  generalize e i = vi at hi
  unfold aindexAddr at h
  split at h
  · cases hi
    obtain ⟨h0, h⟩ := ite_some' h
    exact aindexI_spec h h0 hw hx
  · cases h
end Go.AL
/-! Operations, fourth part: boxes, stores, structs. -/
namespace Go.AL
open Go.RowKit (Below)
set_option linter.unusedVariables false
set_option linter.unusedSimpArgs false

variable {P : Program} {o : Oper} {ρ : Operand → AV} {σ : ASt} {R : AV → ASt → Prop}

/-! ### one cell's values -/
def AV.one : AV → Bool
  | .p x => x.oneCell'
  | .agg _ | .tup _ | .any | .opt _ _ => false
  | _ => true
def AV.okv : AV → Bool
  | .agg cs => cs.all AV.one
  | v => v.one
theorem rep_one {G w c v} (h : AV.one c = true) (hr : Rep G w c v) : v.oneCell' = true := by
  cases hr <;> first | exact h | rfl | cases h
theorem rep_cells {G w x v} (hx : AV.okv x = true) (hr : Rep G w x v) : v.cells.size = x.cells.length ∧ (∀ (j : Nat) c u, x.cells[j]? = some c → v.cells[j]? = some u → Rep G w c u) ∧ (∀ u ∈ v.cells.toList, u.oneCell' = true) := by
  by_cases ha : ∃ cs, x = .agg cs
  · obtain ⟨cs, rfl⟩ := ha
    cases hr with
    | agg _ vs hs h =>
      refine ⟨hs.symm, fun j c u hc hu => h j c u hc hu, fun u hu => ?_⟩
      obtain ⟨j, hj, rfl⟩ := List.getElem_of_mem hu
      have hj' : j < cs.length := by rw [hs]; simpa [Value.cells] using hj
      have h1 := h j _ _ (List.getElem?_eq_getElem hj') (by rw [← Array.getElem?_toList]; exact List.getElem?_eq_getElem hj)
      exact rep_one (List.all_eq_true.1 hx _ (List.getElem_mem hj')) h1
  · have h1 : x.one = true := by cases x <;> first | exact hx | exact absurd ⟨_, rfl⟩ ha
    have hc : x.cells = [x] := by cases x <;> first | rfl | exact absurd ⟨_, rfl⟩ ha
    have hv := rep_one h1 hr
    have hvc : v.cells = #[v] := by cases v <;> first | rfl | cases hv
    rw [hc, hvc]
    refine ⟨rfl, fun j c u h2 h3 => ?_, fun u hu => ?_⟩
    · cases j with
      | zero =>
        obtain rfl := Option.some.inj h2
        have h3 : some v = some u := h3
        obtain rfl := Option.some.inj h3
        exact hr
      | succ j => simp at h2
    · simp at hu; subst hu; exact hv

/-! ### setting cells -/
def setCells : List AV → Nat → List AV → List AV
  | cs, _, [] => cs
  | cs, off, v :: vs => setCells (cs.set off v) (off + 1) vs
@[simp] theorem setCells_length : ∀ (cs : List AV) (off : Nat) (vs : List AV), (setCells cs off vs).length = cs.length
  | _, _, [] => rfl
  | cs, off, v :: vs => by rw [setCells, setCells_length]; simp
theorem setCells_get : ∀ (vs cs : List AV) (off k : Nat), off + vs.length ≤ cs.length → (setCells cs off vs)[k]? = if off ≤ k ∧ k < off + vs.length then vs[k - off]? else cs[k]?
  | [], cs, off, k, _ => by simp [setCells]; omega
  | v :: vs, cs, off, k, h => by
    simp only [List.length_cons] at h
    rw [setCells, setCells_get vs _ _ k (by simp; omega)]
    by_cases h1 : off + 1 ≤ k ∧ k < off + 1 + vs.length
    · rw [if_pos h1, if_pos (by simp; omega)]
      rw [show k - off = (k - (off + 1)) + 1 by omega, List.getElem?_cons_succ]
    · rw [if_neg h1]
      by_cases h2 : k = off
      · subst h2
        rw [if_pos (by simp), List.getElem?_set_self (by omega)]
        simp
      · rw [if_neg (by simp; omega), List.getElem?_set_ne (by omega)]

/-! ### new variables -/
theorem run_newVar (v : Value) (t : TypeId) (w : World) : (newVar t v).run P w = .ok ⟨w.heap.size, 0, none⟩ (w.alloc (.cells v.cells t)) := rfl
/-- A variable that nobody writes: its value goes with its address. -/
theorem new_ro {G σ w x v} (hw : SimW G σ w) (hx : AV.okv x = true) (hr : Rep G w x v) (t : TypeId) :
    ∃ G', Le G w G' (w.alloc (.cells v.cells t)) ∧ SimW G' σ (w.alloc (.cells v.cells t)) ∧ Rep G' (w.alloc (.cells v.cells t)) (.vel [x] 0 0) (.pointer (some ⟨w.heap.size, 0, none⟩)) := by
  have hb := below_alloc' w (.cells v.cells t)
  have hl := Le.addSt hw hb (fun β _ => β = w.heap.size) fun β o e => Nat.le_of_eq e.symm
  obtain ⟨h1, h2, _⟩ := rep_cells hx hr
  refine ⟨_, hl, hw.addSt hb _ (fun β o e => by subst e; exact ⟨Nat.le_refl _, by simp⟩), ?_⟩
  have key := Rep.vel (G := G.addSt fun β _ => β = w.heap.size) (w := w.alloc (.cells v.cells t)) [x] 0 0 w.heap.size 0 x.cells.length (fun _ j => v.cells.getD j undef)
    (fun i y hy => by cases i with | zero => simp at hy; rw [hy] | succ i => simp at hy)
    (fun i j c hc => by
      cases i with
      | succ i => simp [rowCell] at hc
      | zero =>
        have hc : x.cells[j]? = some c := by simpa [rowCell] using hc
        have hj : j < v.cells.size := by rw [h1]; exact (List.getElem?_eq_some_iff.1 hc).1
        refine ⟨.inr rfl, ?_⟩
        rw [cell_of_heap (heap_alloc_new w _)]
        simp [hj])
    (fun i j c hc => by
      cases i with
      | succ i => simp [rowCell] at hc
      | zero =>
        have hc : x.cells[j]? = some c := by simpa [rowCell] using hc
        have hj : j < v.cells.size := by rw [h1]; exact (List.getElem?_eq_some_iff.1 hc).1
        have := h2 j c _ hc (Array.getElem?_eq_getElem hj)
        simp only [Array.getD, hj, dif_pos]
        exact this.mono hl)
  simpa using key
theorem new_mut {G σ w x v} (hw : SimW G σ w) (hx : AV.okv x = true) (hr : Rep G w x v) (t : TypeId) :
    ∃ G', Le G w G' (w.alloc (.cells v.cells t)) ∧ SimW G' (σ.addBx x.cells) (w.alloc (.cells v.cells t)) ∧ Rep G' (w.alloc (.cells v.cells t)) (.ptr σ.next 0) (.pointer (some ⟨w.heap.size, 0, none⟩)) := by
  have hb := below_alloc' w (.cells v.cells t)
  obtain ⟨h1, h2, _⟩ := rep_cells hx hr
  exact ⟨_, Le.addBx hw hb w.heap.size, hw.addBx hb (Nat.le_refl _) (heap_alloc_new w _) h1 h2, .ptr _ _ _ (upd_same _ _ _)⟩

theorem opq_box_ro {t : TypeId} {x : Operand} (ho : o.op = .box t x) (hx : AV.okv (ρ x) = true) (hr : R (.vel [ρ x] 0 0) σ) : OpQ P o ρ σ R := by
  intro G e w he hw
  obtain ⟨G', h1, h2, h3⟩ := new_ro hw hx (he x) t
  simp only [execOp, ho, Instr.box, Sem.run_bind, run_newVar, Result.andThen_ok, Sem.run_pure]
  exact ⟨_, G', σ, h1, h2, h3, hr⟩
theorem opq_box_mut {t : TypeId} {x : Operand} (ho : o.op = .box t x) (hx : AV.okv (ρ x) = true) (hr : R (.ptr σ.next 0) (σ.addBx (ρ x).cells)) : OpQ P o ρ σ R := by
  intro G e w he hw
  obtain ⟨G', h1, h2, h3⟩ := new_mut hw hx (he x) t
  simp only [execOp, ho, Instr.box, Sem.run_bind, run_newVar, Result.andThen_ok, Sem.run_pure]
  exact ⟨_, G', _, h1, h2, h3, hr⟩
theorem tzero_spec {t : TypeId} {z : AV} (h : tzero P t = some z) : ∃ i v, P.info? t = some i ∧ i.zero = some v ∧ z = ofV v := by
  unfold tzero at h
  obtain ⟨v, hv, rfl⟩ := Option.map_eq_some_iff.1 h
  obtain ⟨i, hi, hz⟩ := Option.bind_eq_some_iff.1 hv
  exact ⟨i, v, hi, hz, rfl⟩
theorem run_zeroValue' {t : TypeId} {i : TypeInfo} {v : Value} (h : P.info? t = some i) (hz : i.zero = some v) (w : World) : (zeroValue t).run P w = .ok v w := by
  simp [zeroValue, run_typeInfo' h, hz]
theorem opq_alloc_ro {t : TypeId} (ho : o.op = .alloc t) {z : AV} (hz : tzero P t = some z) (hx : AV.okv z = true) (hr : R (.vel [z] 0 0) σ) : OpQ P o ρ σ R := by
  intro G e w he hw
  obtain ⟨i, v, hi, hv, rfl⟩ := tzero_spec hz
  obtain ⟨G', h1, h2, h3⟩ := new_ro hw hx (rep_ofV G w v) t
  simp only [execOp, ho, Instr.alloc, Sem.run_bind, run_zeroValue' hi hv, run_newVar, Result.andThen_ok, Sem.run_pure]
  exact ⟨_, G', σ, h1, h2, h3, hr⟩
theorem opq_alloc_mut {t : TypeId} (ho : o.op = .alloc t) {z : AV} (hz : tzero P t = some z) (hx : AV.okv z = true) (hr : R (.ptr σ.next 0) (σ.addBx z.cells)) : OpQ P o ρ σ R := by
  intro G e w he hw
  obtain ⟨i, v, hi, hv, rfl⟩ := tzero_spec hz
  obtain ⟨G', h1, h2, h3⟩ := new_mut hw hx (rep_ofV G w v) t
  simp only [execOp, ho, Instr.alloc, Sem.run_bind, run_zeroValue' hi hv, run_newVar, Result.andThen_ok, Sem.run_pure]
  exact ⟨_, G', _, h1, h2, h3, hr⟩

/-! ### stores -/
theorem touch_setRow (w : World) (g : Nat) (cs : Array Value) : Touch w (w.setRow g cs) g :=
  ⟨rfl, rfl, rfl, by simp [World.setRow], fun k hk => by simp only [World.setRow, Array.getElem?_modify]; rw [if_neg (fun e => hk e.symm)]⟩
theorem setRow_new {w : World} {g : Nat} {arr : Array Value} {el : TypeId} {fz : Nat × Nat} (h : w.heap[g]? = some (.cells arr el fz)) (cs : Array Value) : (w.setRow g cs).heap[g]? = some (.cells cs el fz) := by
  simp only [World.setRow, Array.getElem?_modify, if_true, h, Option.map_some]
theorem run_storeVar_of {t : TypeId} {n : Nat} {g : Bool} (ht : tsize P t = some (n, g)) {w : World} {β off : Nat} {arr : Array Value} {el : TypeId} {v : Value} (hg : w.heap[β]? = some (.cells arr el (0, 0)))
    (hn : v.cells.size = n) (hle : off + n ≤ arr.size) (h1 : ∀ u ∈ v.cells.toList, u.oneCell' = true) :
    (storeVar t ⟨β, off, none⟩ v).run P w = .ok () (w.setRow β (arr.toList.take off ++ v.cells.toList ++ arr.toList.drop (off + n)).toArray) := by
  have := run_storeCells_at (P := P) β off el v.cells.toList 0 arr w hg (by simp; omega) h1
  simp only [storeVar, Sem.run_bind, run_sizeOf' ht, Result.andThen_ok, hn, ne_eq, not_true, if_false, this]
  simp [hn]
theorem splice_get {α : Type} (arr : List α) (off n : Nat) (vs : List α) (hn : vs.length = n) (hle : off + n ≤ arr.length) (k : Nat) :
    (arr.take off ++ vs ++ arr.drop (off + n))[k]? = if off ≤ k ∧ k < off + n then vs[k - off]? else arr[k]? := by
  by_cases h1 : k < off
  · rw [if_neg (by omega), List.append_assoc, List.getElem?_append_left (by simp; omega), List.getElem?_take, if_pos h1]
  · by_cases h2 : k < off + n
    · rw [if_pos (by omega), List.append_assoc, List.getElem?_append_right (by simp; omega), List.getElem?_append_left (by simp; omega)]
      congr 1
      simp; omega
    · rw [if_neg (by omega), List.getElem?_append_right (by simp; omega), List.getElem?_drop]
      congr 1
      simp; omega

/-- What a store makes of memory. -/
def astoreC (cs : List AV) (off n : Nat) (x : AV) : Option (List AV) := if x.cells.length = n ∧ off + n ≤ cs.length ∧ x.okv = true then some (setCells cs off x.cells) else none
def putCells : AV → List AV → AV
  | .agg _, cs => .agg cs
  | x, [c] => c
  | x, _ => x
def astore (P : Program) (σ : ASt) (t : TypeId) (a x : AV) : Option ASt :=
  (tsize P t).bind fun q =>
  match a with
  | .ptr b off => (σ.bx b).bind fun cs => (astoreC cs off q.1 x).map fun cs' => { σ with bx := upd σ.bx b (some cs') }
  | .hel b i off => (σ.sl b).bind fun xs => (xs[i]?).bind fun y => (astoreC y.cells off q.1 x).bind fun cs' => if y.okv = true then some { σ with sl := upd σ.sl b (some (xs.set i (putCells y cs'))) } else none
  | _ => none
theorem astoreC_spec {cs cs' : List AV} {off n : Nat} {x : AV} (h : astoreC cs off n x = some cs') : x.cells.length = n ∧ off + n ≤ cs.length ∧ x.okv = true ∧ cs' = setCells cs off x.cells := by
  unfold astoreC at h
  split at h
  · rename_i hc
    exact ⟨hc.1, hc.2.1, hc.2.2, (Option.some.inj h).symm⟩
  · cases h
theorem putCells_cells {y : AV} {cs' : List AV} (hl : cs'.length = y.cells.length) (hc : ∀ c ∈ cs', c.one = true) : (putCells y cs').cells = cs' := by
  cases y with
  | agg cs => rfl
  | _ =>
    simp only [AV.cells, List.length_cons, List.length_nil, Nat.zero_add, List.length_eq_one_iff] at hl
    obtain ⟨c, rfl⟩ := hl
    have hc := hc c (by simp)
    cases c <;> first | rfl | cases hc
theorem okv_one {x : AV} (h : x.okv = true) : ∀ c ∈ x.cells, c.one = true := by
  intro c hc
  cases x with
  | agg cs => exact List.all_eq_true.1 h c hc
  | _ => simp only [AV.cells, List.mem_singleton] at hc; subst hc; exact h
theorem putCells_set {y x : AV} {off : Nat} (hy : y.okv = true) (hx : x.okv = true) (hle : off + x.cells.length ≤ y.cells.length) : (putCells y (setCells y.cells off x.cells)).cells = setCells y.cells off x.cells := by
  refine putCells_cells (by simp) fun c hc => ?_
  obtain ⟨k, hk, rfl⟩ := List.getElem_of_mem hc
  have h1 := setCells_get x.cells y.cells off k hle
  rw [List.getElem?_eq_getElem hk] at h1
  split at h1
  · exact okv_one hx _ (List.mem_of_getElem? h1.symm)
  · exact okv_one hy _ (List.mem_of_getElem? h1.symm)
theorem opq_store {t : TypeId} {x y : Operand} (ho : o.op = .store t x y) {σ' : ASt} (h : astore P σ t (ρ x) (ρ y) = some σ') (hr : R (.p undef) σ') : OpQ P o ρ σ R := by
  intro G e w he hw
  have hx := he x
  have hy := he y
  generalize ρ x = cx at h hx
  generalize hvx : e x = vx at hx
  generalize ρ y = cy at h hy
  generalize hvy : e y = vy at hy
  obtain ⟨⟨n, g⟩, hn, h⟩ := Option.bind_eq_some_iff.1 h
  have run : ∀ w', (Instr.storeAt t vx vy).run P w = .ok () w' → (execOp e o).run P w = .ok .skip w' := fun w' h => by
    simp [execOp, ho, hvx, hvy, h]
  cases hx with
  | ptr b off β gb =>
    obtain ⟨cs, hb, h⟩ := Option.bind_eq_some_iff.1 h
    obtain ⟨cs', hcs, rfl⟩ := Option.map_eq_some_iff.1 h
    obtain ⟨s1, s2, s3, rfl⟩ := astoreC_spec hcs
    obtain ⟨c1, c2, c3⟩ := rep_cells s3 hy
    obtain ⟨β', arr, el, h1, h2, h3, h4⟩ := hw.bx b cs hb
    obtain rfl := Option.some.inj (gb.symm.trans h1)
    have hcn : vy.cells.size = n := c1.trans s1
    have hst := run_storeVar_of hn h2 hcn (by rw [h3]; exact s2) c3
    have hst2 : (Instr.storeAt t (.pointer (some ⟨β, off, none⟩)) vy).run P w = .ok () (w.setRow β (arr.toList.take off ++ vy.cells.toList ++ arr.toList.drop (off + n)).toArray) := by
      simp only [Instr.storeAt, Instr.sureAddr, Sem.run_bind, Sem.run_pure, Result.andThen_ok, hst]
    rw [run _ hst2]
    have ht := touch_setRow w β (arr.toList.take off ++ vy.cells.toList ++ arr.toList.drop (off + n)).toArray
    refine ⟨.p undef, G, _, Le.touch hw (.bx b β cs hb gb) ht, hw.touch_bx hb gb ht (setRow_new h2 _) (by simp; omega) (fun i c u hc hu => ?_), .p _, hr⟩
    rw [setCells_get _ _ _ _ (by omega)] at hc
    have hu' : (arr.toList.take off ++ vy.cells.toList ++ arr.toList.drop (off + n))[i]? = some u := by simpa using hu
    rw [splice_get _ _ _ _ (by simpa using hcn) (by simpa [h3] using s2)] at hu'
    rw [s1] at hc
    split at hc
    · rename_i hi
      rw [if_pos hi] at hu'
      exact c2 (i - off) c u hc (by simpa using hu')
    · rename_i hi
      rw [if_neg hi] at hu'
      exact h4 i c u hc (by simpa using hu')
  | hel b i off β o' s cap gb =>
    obtain ⟨xs, hb, h⟩ := Option.bind_eq_some_iff.1 h
    obtain ⟨y', hy', h⟩ := Option.bind_eq_some_iff.1 h
    obtain ⟨cs', hcs, h⟩ := Option.bind_eq_some_iff.1 h
    obtain ⟨s1, s2, s3, rfl⟩ := astoreC_spec hcs
    obtain ⟨p2, h⟩ := ite_some' h
    have p1 : (putCells y' (setCells y'.cells off cy.cells)).cells = setCells y'.cells off cy.cells := putCells_set p2 s3 (by rw [s1]; exact s2)
    obtain rfl := Option.some.inj h
    obtain ⟨c1, c2, c3⟩ := rep_cells s3 hy
    rcases hw.sl b xs hb with ⟨g1, _⟩ | ⟨β', o'', s', cap', arr, el, g1, g2, g3, g4, g5, g6⟩
    · rw [gb] at g1; cases g1
    · obtain ⟨rfl, rfl, rfl, rfl⟩ : β = β' ∧ o' = o'' ∧ s = s' ∧ cap = cap' := by rw [gb] at g1; simpa using g1
      have hcn : vy.cells.size = n := c1.trans s1
      have hi := (List.getElem?_eq_some_iff.1 hy').1
      have hys : y'.cells.length = s := g5 i y' hy'
      have hrow : o' + i * s + s ≤ arr.size := by
        have : (i + 1) * s ≤ cap * s := Nat.mul_le_mul_right _ (by omega)
        rw [Nat.add_mul] at this; omega
      have hst := run_storeVar_of hn g2 (off := o' + i * s + off) hcn (by omega) c3
      have hst2 : (Instr.storeAt t (.pointer (some ⟨β, o' + i * s + off, none⟩)) vy).run P w = .ok () (w.setRow β (arr.toList.take (o' + i * s + off) ++ vy.cells.toList ++ arr.toList.drop (o' + i * s + off + n)).toArray) := by
        simp only [Instr.storeAt, Instr.sureAddr, Sem.run_bind, Sem.run_pure, Result.andThen_ok, hst]
      rw [run _ hst2]
      have ht := touch_setRow w β (arr.toList.take (o' + i * s + off) ++ vy.cells.toList ++ arr.toList.drop (o' + i * s + off + n)).toArray
      refine ⟨.p undef, G, _, Le.touch hw (.sl b β _ xs hb gb) ht, hw.touch_sl hb gb ht (fun hl => .inr ⟨β, o', s, cap, _, el, gb, setRow_new g2 _, by simpa using g3, ?_, ?_, ?_⟩), .p _, hr⟩
      · simp; omega
      · intro k z hz
        rw [List.getElem?_set] at hz
        split at hz
        · obtain rfl := Option.some.inj hz
          rw [p1]; simp [hys]
        · exact g5 k z hz
      · intro k j c u hc hu
        have hu' : (arr.toList.take (o' + i * s + off) ++ vy.cells.toList ++ arr.toList.drop (o' + i * s + off + n))[o' + k * s + j]? = some u := by simpa using hu
        rw [splice_get _ _ _ _ (by simpa using hcn) (by simp; omega)] at hu'
        unfold rowCell at hc
        rw [List.getElem?_set] at hc
        by_cases hki : i = k
        · subst hki
          rw [if_pos rfl, if_pos hi] at hc
          have hc : (putCells y' (setCells y'.cells off cy.cells)).cells[j]? = some c := hc
          rw [p1, setCells_get _ _ _ _ (by omega), s1] at hc
          split at hc
          · rename_i hj
            rw [if_pos (by omega)] at hu'
            have e : o' + i * s + j - (o' + i * s + off) = j - off := by omega
            rw [e] at hu'
            exact (c2 (j - off) c u hc (by simpa using hu')).mono hl
          · rename_i hj
            rw [if_neg (by omega)] at hu'
            exact (g6 i j c u (by simp [rowCell, hy', hc]) (by simpa using hu')).mono hl
        · rw [if_neg hki] at hc
          have hj : j < s := by
            cases hz : xs[k]? with
            | none => rw [hz] at hc; cases hc
            | some z =>
              rw [hz] at hc
              have hc : z.cells[j]? = some c := hc
              rw [← g5 k z hz]; exact (List.getElem?_eq_some_iff.1 hc).1
          have hne : ¬ (o' + i * s + off ≤ o' + k * s + j ∧ o' + k * s + j < o' + i * s + off + n) := by
            rcases Nat.lt_or_ge k i with hlt | hge
            · have : (k + 1) * s ≤ i * s := Nat.mul_le_mul_right _ hlt
              rw [Nat.add_mul] at this; omega
            · have : (i + 1) * s ≤ k * s := Nat.mul_le_mul_right _ (by omega)
              rw [Nat.add_mul] at this; omega
          rw [if_neg hne] at hu'
          exact (g6 k j c u hc (by simpa using hu')).mono hl
  | _ => cases h
end Go.AL
/-! Operations, fifth part: structs, slices made, cut, appended to. -/
namespace Go.AL
open Go.RowKit (Below)
set_option linter.unusedVariables false
set_option linter.unusedSimpArgs false

variable {P : Program} {o : Oper} {ρ : Operand → AV} {σ : ASt} {R : AV → ASt → Prop}

/-! ### structs made -/
def tplaces (P : Program) (t : TypeId) : Option (List (Nat × Nat)) :=
  match P.underlying t with
  | some (.struct fs) => fs.toList.mapM fun f => (P.info? f.type).map fun i => (f.offset, i.size)
  | _ => none
def afill (pl : List (Nat × Nat)) (cs : List AV) : List (Nat × AV) → Option (List AV)
  | [] => some cs
  | (i, x) :: r => match pl[i]? with
    | none => none
    | some (off, size) => if x.cells.length = size ∧ off + size ≤ cs.length ∧ x.okv = true then afill pl (setCells cs off x.cells) r else none
def abuild (P : Program) (t : TypeId) (ps : List (Nat × AV)) : Option AV :=
  match tzero P t, tplaces P t with
  | some (.agg zc), some pl => (afill pl zc ps).map .agg
  | _, _ => none
theorem fold_get (off : Nat) : ∀ (l : List Value) (s : Nat) (arr : Array Value) (k : Nat), off + s + l.length ≤ arr.size →
    ((l.zipIdx s).foldl (fun (cs : Array Value) (q : Value × Nat) => cs.setIfInBounds (off + q.2) q.1) arr)[k]? = if off + s ≤ k ∧ k < off + s + l.length then l[k - (off + s)]? else arr[k]?
  | [], s, arr, k, _ => by simp; omega
  | v :: l, s, arr, k, h => by
    simp only [List.length_cons] at h
    rw [List.zipIdx_cons, List.foldl_cons, fold_get off l (s + 1) _ k (by simp; omega)]
    by_cases h1 : off + (s + 1) ≤ k ∧ k < off + (s + 1) + l.length
    · rw [if_pos h1, if_pos (by simp; omega), show k - (off + s) = (k - (off + (s + 1))) + 1 by omega, List.getElem?_cons_succ]
    · rw [if_neg h1]
      by_cases h2 : k = off + s
      · subst h2
        rw [if_pos (by simp)]
        simp only [Nat.sub_self, List.getElem?_cons_zero]
        rw [Array.getElem?_setIfInBounds_self_of_lt (by omega)]
      · rw [if_neg (by simp; omega), Array.getElem?_setIfInBounds_ne (by omega)]
theorem fold_size (off : Nat) : ∀ (l : List Value) (s : Nat) (arr : Array Value), ((l.zipIdx s).foldl (fun (cs : Array Value) (q : Value × Nat) => cs.setIfInBounds (off + q.2) q.1) arr).size = arr.size
  | [], s, arr => rfl
  | v :: l, s, arr => by rw [List.zipIdx_cons, List.foldl_cons, fold_size off l (s + 1)]; simp
/-- A list of cells, and what they are. -/
def CellsAs (G : Ghost) (w : World) (cs : List AV) (arr : Array Value) : Prop := cs.length = arr.size ∧ ∀ (i : Nat) c v, cs[i]? = some c → arr[i]? = some v → Rep G w c v
theorem afill_spec {G w} (place : Nat → Option (Nat × Nat)) (pl : List (Nat × Nat)) (hpl : ∀ i q, pl[i]? = some q → place i = some q) : ∀ (ps : List (Nat × AV)) (qs : List (Nat × Value)) (cs cs' : List AV) (arr : Array Value),
    ps.length = qs.length → (∀ (i : Nat) p q, ps[i]? = some p → qs[i]? = some q → p.1 = q.1 ∧ Rep G w p.2 q.2) → CellsAs G w cs arr → afill pl cs ps = some cs' → ∃ arr', Instr.fill place arr qs = some arr' ∧ CellsAs G w cs' arr'
  | [], [], cs, cs', arr, _, _, hc, h => by obtain rfl := Option.some.inj h; exact ⟨arr, rfl, hc⟩
  | [], _ :: _, _, _, _, hl, _, _, _ => by cases hl
  | _ :: _, [], _, _, _, hl, _, _, _ => by cases hl
  | (i, x) :: ps, (j, v) :: qs, cs, cs', arr, hl, hr, hc, h => by
    obtain ⟨h1, h2⟩ := hr 0 (i, x) (j, v) rfl rfl
    have h1 : i = j := h1
    have h2 : Rep G w x v := h2
    subst h1
    unfold afill at h
    split at h
    · cases h
    · rename_i off size hp
      split at h
      · rename_i hcond
        obtain ⟨c1, c2, c3⟩ := hcond
        obtain ⟨e1, e2, e3⟩ := rep_cells c3 h2
        have e1 : v.cells.size = x.cells.length := e1
        have hsz := hc.1
        unfold Instr.fill
        rw [hpl i _ hp]
        have hcond2 : ¬ ((decide (v.cells.size ≠ size) || decide (off + v.cells.size > arr.size)) = true) := by simp; omega
        simp only [hcond2]
        have hfold : (Array.foldl (fun (cs : Array Value) (x : Value × Nat) => cs.setIfInBounds (off + x.2) x.1) arr v.cells.zipIdx) = (v.cells.toList.zipIdx 0).foldl (fun (cs : Array Value) (q : Value × Nat) => cs.setIfInBounds (off + q.2) q.1) arr := by
          rw [← Array.foldl_toList, Array.toList_zipIdx]
        refine afill_spec place pl hpl ps qs _ cs' _ (by simpa using hl) (fun k p q hp hq => hr (k + 1) p q (by simpa using hp) (by simpa using hq)) ?_ h
        rw [hfold]
        refine ⟨by rw [setCells_length, fold_size]; exact hsz, fun k c u hcc huu => ?_⟩
        rw [setCells_get _ _ _ _ (by omega)] at hcc
        rw [fold_get off _ 0 _ _ (by simp; omega)] at huu
        simp only [Nat.add_zero, Array.length_toList, e1] at huu
        split at hcc
        · rename_i hk
          rw [if_pos hk] at huu
          exact e2 _ c u hcc (by simpa using huu)
        · rename_i hk
          rw [if_neg hk] at huu
          exact hc.2 k c u hcc huu
      · cases h
theorem opq_build {t : TypeId} {parts : Array (Nat × Operand)} (ho : o.op = .build t parts) {r : AV} (h : abuild P t (parts.toList.map fun q => (q.1, ρ q.2)) = some r) (hr : R r σ) : OpQ P o ρ σ R := by
  refine opq_v (s := fun e => Instr.build t (parts.map fun (i, x) => (i, e x))) (fun e => by simp only [execOp, ho]) r hr fun G e w he hw => ?_
  unfold abuild at h
  split at h
  · rename_i zc pl hz hp
    obtain ⟨cs', hf, rfl⟩ := Option.map_eq_some_iff.1 h
    obtain ⟨it, z, hi, hzv, hze⟩ := tzero_spec hz
    unfold tplaces at hp
    split at hp
    · rename_i fs hu
      have hza : ∃ zs, z = .agg zs ∧ zc = zs.toList.map .p := by
        cases z with
        | agg zs => exact ⟨zs, rfl, by simpa [ofV] using hze⟩
        | _ => cases hze
      obtain ⟨zs, rfl, rfl⟩ := hza
      obtain ⟨arr', hfill, hca⟩ := afill_spec (G := G) (w := w) (pl.toArray[·]?) pl (fun i q hq => by simpa using hq) (parts.toList.map fun q => (q.1, ρ q.2)) (parts.toList.map fun q => (q.1, e q.2)) _ cs' zs (by simp)
        (fun i p q hp hq => by
          simp only [List.getElem?_map, Option.map_eq_some_iff] at hp hq
          obtain ⟨a, ha, rfl⟩ := hp
          obtain ⟨b, hb, rfl⟩ := hq
          obtain rfl := Option.some.inj (ha.symm.trans hb)
          exact ⟨rfl, he _⟩)
        ⟨by simp, fun i c v hc hv => by
          rw [List.getElem?_map, Array.getElem?_toList, hv] at hc
          obtain rfl := Option.some.inj hc
          exact .p _⟩ hf
      have hb : P.built t (parts.map fun (i, x) => (i, e x)).toList = some arr' := by
        unfold Program.built
        simp only [hi, hu, hzv, hp, Value.cells]
        simpa using hfill
      exact ⟨.agg arr', run_build w t _ arr' hb, .agg _ _ hca.1 hca.2⟩
    · cases hp
  · cases h

/-! ### slices made -/
/-- Rows of elements. -/
def RowsAs (G : Ghost) (w : World) (n : Nat) (es : List AV) (arr : Array Value) : Prop :=
  arr.size = es.length * n ∧ (∀ (i : Nat) x, es[i]? = some x → x.cells.length = n) ∧ ∀ (i j : Nat) c v, rowCell es i j = some c → arr[i * n + j]? = some v → Rep G w c v
theorem rowCell_lt {es : List AV} {i j n : Nat} {c : AV} (h : rowCell es i j = some c) (hn : ∀ (i : Nat) x, es[i]? = some x → x.cells.length = n) : i < es.length ∧ j < n ∧ i * n + j < es.length * n := by
  unfold rowCell at h
  obtain ⟨x, hx, hj⟩ := Option.bind_eq_some_iff.1 h
  have h1 := (List.getElem?_eq_some_iff.1 hx).1
  have h2 := (List.getElem?_eq_some_iff.1 hj).1
  rw [hn i x hx] at h2
  have : (i + 1) * n ≤ es.length * n := Nat.mul_le_mul_right _ h1
  rw [Nat.add_mul] at this
  exact ⟨h1, h2, by omega⟩
/-- A new row, that stays as it is. -/
theorem new_vsl {G σ w n es arr} (hw : SimW G σ w) (hr : RowsAs G w n es arr) (t : TypeId) {cap : Nat} (hcap : es.length ≤ cap) (w1 : World) (hb1 : Below w.heap.size w w1) :
    ∃ G', Le G w G' (w1.alloc (.cells arr t)) ∧ SimW G' σ (w1.alloc (.cells arr t)) ∧ Rep G' (w1.alloc (.cells arr t)) (.vsl es) (.slice (some ⟨w1.heap.size, 0, none⟩) es.length cap) := by
  have hb := hb1.trans ((below_alloc' w1 (.cells arr t)).mono hb1.size)
  have hl := Le.addSt hw hb (fun β _ => β = w1.heap.size) fun β o e => by subst e; exact hb1.size
  refine ⟨_, hl, hw.addSt hb _ (fun β o e => by subst e; exact ⟨hb1.size, by simp⟩), ?_⟩
  refine Rep.vsl es w1.heap.size 0 n cap (fun i j => arr.getD (i * n + j) undef) hcap hr.2.1 (fun i j c hc => ⟨.inr rfl, ?_⟩) (fun i j c hc => ?_)
  · obtain ⟨_, _, hlt⟩ := rowCell_lt hc hr.2.1
    rw [← hr.1] at hlt
    rw [cell_of_heap (heap_alloc_new w1 _)]
    simp [hlt]
  · obtain ⟨_, _, hlt⟩ := rowCell_lt hc hr.2.1
    rw [← hr.1] at hlt
    have := hr.2.2 i j c _ hc (Array.getElem?_eq_getElem hlt)
    simp only [Array.getD, hlt, dif_pos]
    exact this.mono hl
/-- A new row of the function's own; there may be room behind it. -/
theorem new_hsl {G σ w n es} {arr : Array Value} (hw : SimW G σ w) {cap : Nat} (hn : ∀ (i : Nat) x, es[i]? = some x → x.cells.length = n) (hcell : ∀ (i j : Nat) c v, rowCell es i j = some c → arr[i * n + j]? = some v → Rep G w c v)
    (hpos : 0 < es.length) (hcap : es.length ≤ cap) (hsz : cap * n ≤ arr.size) (t : TypeId) (w1 : World) (hb1 : Below w.heap.size w w1) :
    ∃ G', Le G w G' (w1.alloc (.cells arr t)) ∧ SimW G' (σ.addSl es) (w1.alloc (.cells arr t)) ∧ Rep G' (w1.alloc (.cells arr t)) (.hsl σ.next 0 es.length) (.slice (some ⟨w1.heap.size, 0, none⟩) es.length cap) := by
  have hb := hb1.trans ((below_alloc' w1 (.cells arr t)).mono hb1.size)
  have hl := Le.addSl hw hb (some (w1.heap.size, 0, n, cap))
  refine ⟨_, hl, hw.addSl (some (w1.heap.size, 0, n, cap)) hb (fun β q e => ?_) (fun _ => .inr ⟨w1.heap.size, 0, n, cap, arr, t, upd_same _ _ _, heap_alloc_new w1 _, ⟨hpos, hcap⟩, by omega, hn, fun i j c v hc hv => ?_⟩), ?_⟩
  · have := (Option.some.inj e); simp only [Prod.mk.injEq] at this; rw [← this.1]; exact hb1.size
  · exact (hcell i j c v hc (by simpa using hv)).mono hl
  · have := Rep.hsl (G := G.addSl σ.next (some (w1.heap.size, 0, n, cap))) (w := w1.alloc (.cells arr t)) σ.next 0 es.length w1.heap.size 0 n cap (upd_same _ _ _) (by omega)
    simpa using this
/-- No slice at all, as one of the function's own. -/
theorem new_nil {G σ w} (hw : SimW G σ w) (w1 : World) (hb1 : Below w.heap.size w w1) (a : Option Addr) :
    ∃ G', Le G w G' w1 ∧ SimW G' (σ.addSl []) w1 ∧ Rep G' w1 (.hsl σ.next 0 0) (.slice a 0 0) := by
  have hl := Le.addSl hw hb1 none
  exact ⟨_, hl, hw.addSl none hb1 (fun β q e => by cases e) (fun _ => .inl ⟨upd_same _ _ _, rfl⟩), .hnil _ _ (upd_same _ _ _)⟩

def afillR (n len : Nat) (es : List AV) : List (Nat × AV) → Option (List AV)
  | [] => some es
  | (i, x) :: r => if x.cells.length = n ∧ i < len ∧ x.okv = true then afillR n len (es.set i x) r else none
theorem afillR_length {n len : Nat} : ∀ {ps : List (Nat × AV)} {es es' : List AV}, afillR n len es ps = some es' → es'.length = es.length
  | [], es, es', h => by obtain rfl := Option.some.inj h; rfl
  | (i, x) :: ps, es, es', h => by
    unfold afillR at h
    obtain ⟨_, h⟩ := ite_some' h
    rw [afillR_length h]; simp
theorem afillR_spec {G w} {n len : Nat} : ∀ (ps : List (Nat × AV)) (qs : List (Nat × Value)) (es es' : List AV) (arr : Array Value), es.length = len →
    ps.length = qs.length → (∀ (i : Nat) p q, ps[i]? = some p → qs[i]? = some q → p.1 = q.1 ∧ Rep G w p.2 q.2) → RowsAs G w n es arr → afillR n len es ps = some es' → ∃ arr', Instr.fill (fun i => some (i * n, n)) arr qs = some arr' ∧ RowsAs G w n es' arr'
  | [], [], es, es', arr, _, _, _, hc, h => by obtain rfl := Option.some.inj h; exact ⟨arr, rfl, hc⟩
  | [], _ :: _, _, _, _, _, hl, _, _, _ => by cases hl
  | _ :: _, [], _, _, _, _, hl, _, _, _ => by cases hl
  | (i, x) :: ps, (j, v) :: qs, es, es', arr, hlen, hl, hr, hc, h => by
    obtain ⟨h1, h2⟩ := hr 0 (i, x) (j, v) rfl rfl
    have h1 : i = j := h1
    have h2 : Rep G w x v := h2
    subst h1
    unfold afillR at h
    obtain ⟨⟨c1, c2, c3⟩, h⟩ := ite_some' h
    obtain ⟨e1, e2, e3⟩ := rep_cells c3 h2
    have e1 : v.cells.size = x.cells.length := e1
    have hv0 : (i, v).2.cells = v.cells := rfl
    obtain ⟨r1, r2, r3⟩ := hc
    have hin : i * n + n ≤ arr.size := by
      have : (i + 1) * n ≤ es.length * n := Nat.mul_le_mul_right _ (by omega)
      rw [Nat.add_mul] at this; omega
    unfold Instr.fill
    have hcond2 : ¬ ((decide (v.cells.size ≠ n) || decide (i * n + v.cells.size > arr.size)) = true) := by simp; omega
    simp only [hcond2]
    have hfold : (Array.foldl (fun (cs : Array Value) (x : Value × Nat) => cs.setIfInBounds (i * n + x.2) x.1) arr v.cells.zipIdx) = (v.cells.toList.zipIdx 0).foldl (fun (cs : Array Value) (q : Value × Nat) => cs.setIfInBounds (i * n + q.2) q.1) arr := by
      rw [← Array.foldl_toList, Array.toList_zipIdx]
    refine afillR_spec ps qs (es.set i x) es' _ (by simpa using hlen) (by simpa using hl) (fun k p q hp hq => hr (k + 1) p q (by simpa using hp) (by simpa using hq)) ?_ h
    rw [hfold]
    refine ⟨by rw [fold_size]; simpa using r1, fun k z hz => ?_, fun k j c u hcc huu => ?_⟩
    · rw [List.getElem?_set] at hz
      split at hz
      · split at hz
        · obtain rfl := Option.some.inj hz; exact c1
        · cases hz
      · exact r2 k z hz
    · rw [fold_get (i * n) _ 0 _ _ (by simp; omega)] at huu
      simp only [Nat.add_zero, Array.length_toList, e1, c1] at huu
      unfold rowCell at hcc
      rw [List.getElem?_set] at hcc
      by_cases hki : i = k
      · subst hki
        rw [if_pos rfl, if_pos (by omega)] at hcc
        have hcc : x.cells[j]? = some c := hcc
        have hj := (List.getElem?_eq_some_iff.1 hcc).1
        rw [if_pos (by omega), show i * n + j - i * n = j by omega] at huu
        exact e2 j c u hcc (by simpa using huu)
      · rw [if_neg hki] at hcc
        have hj : j < n := by
          cases hz : es[k]? with
          | none => rw [hz] at hcc; cases hcc
          | some z =>
            rw [hz] at hcc
            have hcc : z.cells[j]? = some c := hcc
            rw [← r2 k z hz]; exact (List.getElem?_eq_some_iff.1 hcc).1
        have hne : ¬ (i * n ≤ k * n + j ∧ k * n + j < i * n + n) := by
          rcases Nat.lt_or_ge k i with hlt | hge
          · have : (k + 1) * n ≤ i * n := Nat.mul_le_mul_right _ hlt
            rw [Nat.add_mul] at this; omega
          · have : (i + 1) * n ≤ k * n := Nat.mul_le_mul_right _ (by omega)
            rw [Nat.add_mul] at this; omega
        rw [if_neg hne] at huu
        exact r3 k j c u hcc huu
def telemT (P : Program) (t : TypeId) : Option TypeId := match P.underlying t with | some (.slice e) => some e | _ => none
/-- The elements of a slice that is written out. -/
def abuildS (P : Program) (t : TypeId) (len : Nat) (ps : List (Nat × AV)) : Option (List AV) :=
  (telem P t).bind fun q => (telemT P t).bind fun e => (tzero P e).bind fun z => if z.cells.length = q.1 ∧ len * q.1 ≤ 16777216 ∧ 0 < q.1 ∧ z.okv = true then afillR q.1 len (List.replicate len z) ps else none
theorem ofV_cells (v : Value) : (ofV v).cells.length = v.cells.size := by cases v <;> simp [ofV, AV.cells, Value.cells]
theorem run_buildS {t : TypeId} {len : Nat} {ps : Array (Nat × Operand)} {es : List AV} (h : abuildS P t len (ps.toList.map fun q => (q.1, ρ q.2)) = some es) {G} {e : Operand → Value} {w} (he : ∀ x, Rep G w (ρ x) (e x)) :
    ∃ arr el n, (Instr.buildSlice t len (ps.map fun (i, x) => (i, e x))).run P w = .ok (.slice (some ⟨w.heap.size, 0, none⟩) es.length es.length) (w.alloc (.cells arr el)) ∧ RowsAs G w n es arr := by
  obtain ⟨⟨n, g, by_⟩, hq, h⟩ := Option.bind_eq_some_iff.1 h
  obtain ⟨el, hel, h⟩ := Option.bind_eq_some_iff.1 h
  obtain ⟨z, hz, h⟩ := Option.bind_eq_some_iff.1 h
  obtain ⟨⟨hzn, hsm, hpos, hzok⟩, h⟩ := ite_some' h
  have hzn : z.cells.length = n := hzn
  have hsm : len * n ≤ 16777216 := hsm
  have hpos : 0 < n := hpos
  have h : afillR n len (List.replicate len z) (ps.toList.map fun q => (q.1, ρ q.2)) = some es := h
  obtain ⟨e', i', h1, h2, h3, _⟩ := telem_spec hq
  have hee : e' = el := by simpa [telemT, h1] using hel
  subst hee
  obtain ⟨it, zv, hi, hzv, rfl⟩ := tzero_spec hz
  obtain rfl := Option.some.inj (h2.symm.trans hi)
  obtain ⟨i2, d2, t1, t2, t3, _⟩ := tsize_spec h3
  obtain rfl := Option.some.inj (h2.symm.trans t1)
  have hzs : zv.cells.size = n := by rw [← ofV_cells]; exact hzn
  have h0 : RowsAs G w n (List.replicate len (ofV zv)) ((Array.range (len * n)).map (zv.cells[· % zv.cells.size]!)) := by
    refine ⟨by simp, fun i x hx => ?_, fun i j c v hc hv => ?_⟩
    · rw [List.getElem?_replicate] at hx
      split at hx
      · obtain rfl := Option.some.inj hx; exact hzn
      · cases hx
    · obtain ⟨_, hj, hlt⟩ := rowCell_lt (n := n) hc (fun i x hx => by
        rw [List.getElem?_replicate] at hx
        split at hx
        · obtain rfl := Option.some.inj hx; exact hzn
        · cases hx)
      simp only [List.length_replicate] at hlt
      have hc' : (ofV zv).cells[j]? = some c := by
        unfold rowCell at hc
        obtain ⟨x, hx, hc⟩ := Option.bind_eq_some_iff.1 hc
        rw [List.getElem?_replicate] at hx
        split at hx
        · obtain rfl := Option.some.inj hx; exact hc
        · cases hx
      have hmod : (i * n + j) % n = j := by rw [Nat.mul_comm, Nat.mul_add_mod]; exact Nat.mod_eq_of_lt hj
      have hv' : v = zv.cells[j]! := by
        rw [Array.getElem?_map, Array.getElem?_range, if_pos hlt] at hv
        simp only [Option.map_some, Option.some.injEq, hzs, hmod] at hv
        exact hv.symm
      have hj' : j < zv.cells.size := by omega
      rw [getElem!_pos zv.cells j hj'] at hv'
      exact (rep_cells hzok (rep_ofV G w zv)).2.1 j c v hc' (by rw [hv']; exact Array.getElem?_eq_getElem hj')
  obtain ⟨arr', hfill, hrows⟩ := afillR_spec (G := G) (w := w) (n := n) (len := len) (ps.toList.map fun q => (q.1, ρ q.2)) (ps.toList.map fun q => (q.1, e q.2)) _ es _ (by simp) (by simp)
    (fun i p q hp hq => by
      simp only [List.getElem?_map, Option.map_eq_some_iff] at hp hq
      obtain ⟨a, ha, rfl⟩ := hp
      obtain ⟨b, hb, rfl⟩ := hq
      obtain rfl := Option.some.inj (ha.symm.trans hb)
      exact ⟨rfl, he _⟩) h0 h
  have hlen : es.length = len := by have := afillR_length h; simpa using this
  refine ⟨arr', e', n, ?_, hrows⟩
  rw [hlen]
  have hfill2 : Instr.fill (fun i => some (i * i'.size, i'.size)) ((Array.range (len * i'.size)).map (zv.cells[· % zv.cells.size]!)) (ps.map fun (i, x) => (i, e x)).toList = some arr' := by
    rw [t3]; simpa using hfill
  by_cases hl0 : len = 0
  · subst hl0
    have hp : ps = #[] := by
      cases hps : ps.toList with
      | nil => simpa using hps
      | cons q r => rw [hps] at h; simp [afillR] at h
    subst hp
    have : arr' = #[] := Array.eq_empty_of_size_eq_zero (by rw [hrows.1, hlen]; simp)
    subst this
    simp only [Instr.buildSlice, Sem.run_bind, run_underlying' h1, Result.andThen_ok, run_sizeOf' h3, Nat.zero_mul, if_neg (show ¬ (0 : Nat) > 2 ^ 24 by decide), if_true, Sem.run_pure]
    rw [show ((Array.range 0).map (fun x => (#[] : Array Value)[x % (#[] : Array Value).size]!)) = #[] from Array.eq_empty_of_size_eq_zero (by simp)]
    simp [Instr.fill, newRow]
  · have hnz : ¬ len * i'.size = 0 := by rw [t3]; exact Nat.mul_ne_zero hl0 (by omega)
    exact run_buildSlice w t e' len _ arr' i' zv h1 h2 hzv (by rw [t3]; omega) hnz hfill2
theorem opq_buildSlice_ro {t : TypeId} {len : Nat} {ps : Array (Nat × Operand)} (ho : o.op = .buildSlice t len ps) {es : List AV} (h : abuildS P t len (ps.toList.map fun q => (q.1, ρ q.2)) = some es) (hr : R (.vsl es) σ) : OpQ P o ρ σ R := by
  intro G e w he hw
  obtain ⟨arr, el, n, hrun, hrows⟩ := run_buildS h he
  obtain ⟨G', h1, h2, h3⟩ := new_vsl hw hrows el (Nat.le_refl _) w (Below.refl _ _)
  simp only [execOp, ho, Sem.run_bind, hrun, Result.andThen_ok, Sem.run_pure]
  exact ⟨_, G', σ, h1, h2, h3, hr⟩
theorem opq_buildSlice_mut {t : TypeId} {len : Nat} {ps : Array (Nat × Operand)} (ho : o.op = .buildSlice t len ps) {es : List AV} (h : abuildS P t len (ps.toList.map fun q => (q.1, ρ q.2)) = some es) (hr : R (.hsl σ.next 0 es.length) (σ.addSl es)) : OpQ P o ρ σ R := by
  intro G e w he hw
  obtain ⟨arr, el, n, hrun, hrows⟩ := run_buildS h he
  simp only [execOp, ho, Sem.run_bind, hrun, Result.andThen_ok, Sem.run_pure]
  by_cases hes : es = []
  · subst hes
    obtain ⟨G', h1, h2, h3⟩ := new_nil hw (w.alloc (.cells arr el)) (below_alloc' w _) (some ⟨w.heap.size, 0, none⟩)
    exact ⟨_, G', _, h1, h2, h3, hr⟩
  · obtain ⟨G', h1, h2, h3⟩ := new_hsl hw hrows.2.1 hrows.2.2 (List.length_pos_iff.2 hes) (Nat.le_refl _) (Nat.le_of_eq hrows.1.symm) el w (Below.refl _ _)
    exact ⟨_, G', _, h1, h2, h3, hr⟩
end Go.AL
/-! Operations, sixth part: cuts, append. -/
namespace Go.AL
open Go.RowKit (Below)
set_option linter.unusedVariables false
set_option linter.unusedSimpArgs false

variable {P : Program} {o : Oper} {ρ : Operand → AV} {σ : ASt} {R : AV → ASt → Prop}

/-! ### cuts -/
def abound (d : Nat) : Option AV → Option Nat
  | none => some d
  | some (.p (.int _ i)) => if 0 ≤ i then some i.toNat else none
  | some _ => none
def BoundAs (G : Ghost) (w : World) : Option AV → Option Value → Prop
  | none, none => True
  | some a, some v => Rep G w a v
  | _, _ => False
theorem run_sliceBound {G w} {a : Option AV} {v : Option Value} (h : BoundAs G w a v) {d k y : Nat} (hk : abound d a = some k) (hle : k ≤ y) (c : BoundsCode) :
    (v = none ∧ d = k) ∨ ∃ u, v = some u ∧ (Instr.sliceBound u y c).run P w = .ok k w := by
  cases a with
  | none =>
    cases v with
    | none => exact .inl ⟨rfl, Option.some.inj hk⟩
    | some v => exact h.elim
  | some a =>
    cases v with
    | none => exact h.elim
    | some v =>
      refine .inr ⟨v, rfl, ?_⟩
      cases a with
      | p x =>
        cases x with
        | int q i =>
          obtain ⟨h0, hk⟩ := ite_some' hk
          obtain rfl := Option.some.inj hk
          cases h
          have hc : 0 ≤ i ∧ i ≤ (y : Int) := ⟨h0, by omega⟩
          simp [Instr.sliceBound, asIntOf, hc]
        | _ => cases hk
      | _ => cases hk
theorem run_sliceBounds {G w} {lo hi : Option AV} {vlo vhi : Option Value} (h1 : BoundAs G w lo vlo) (h2 : BoundAs G w hi vhi) {len cap l h : Nat} (hl : abound 0 lo = some l) (hh : abound len hi = some h) (hle : l ≤ h) (hcap : h ≤ cap) (s : Bool) :
    (Instr.sliceBounds s len cap vlo vhi none).run P w = .ok (l, h, cap) w := by
  rcases run_sliceBound (P := P) h2 hh hcap (if s then .sliceAcap else .sliceAlen) with ⟨rfl, rfl⟩ | ⟨u, rfl, hr⟩ <;> rcases run_sliceBound (P := P) h1 hl hle .sliceB with ⟨rfl, rfl⟩ | ⟨u', rfl, hr'⟩
  · simp [Instr.sliceBounds]
  · simp [Instr.sliceBounds, hr']
  · simp [Instr.sliceBounds, hr]
  · simp [Instr.sliceBounds, hr, hr']

def aslice (P : Program) (σ : ASt) (t : TypeId) (x : AV) (lo hi : Option AV) : Option AV :=
  match x with
  | .p (.string s) => if isString P t = true then (abound 0 lo).bind fun l => (abound s.size hi).bind fun h => if l ≤ h ∧ h ≤ s.size then some (.p (.string (s.extract l h))) else none else none
  | .vsl xs => (telem P t).bind fun q => (abound 0 lo).bind fun l => (abound xs.length hi).bind fun h =>
      if l ≤ h ∧ h ≤ xs.length ∧ (∀ y ∈ xs[l]?, y.cells.length = q.1) then some (.vsl ((xs.take h).drop l)) else none
  | .hsl b off n => (telem P t).bind fun q => (abound 0 lo).bind fun l => (abound n hi).bind fun h =>
      if l ≤ h ∧ h ≤ n then (if l = 0 then some (.hsl b off h) else (σ.sl b).bind fun xs => (xs[off]?).bind fun y => if y.cells.length = q.1 then some (.hsl b (off + l) (h - l)) else none) else none
  | _ => none
theorem rowCell_cut (xs : List AV) (l h i j : Nat) (c : AV) (hc : rowCell ((xs.take h).drop l) i j = some c) : rowCell xs (l + i) j = some c ∧ l + i < h := by
  unfold rowCell at *
  obtain ⟨x, hx, hj⟩ := Option.bind_eq_some_iff.1 hc
  rw [List.getElem?_drop, List.getElem?_take] at hx
  split at hx
  · rename_i hlt
    exact ⟨by rw [hx]; exact hj, hlt⟩
  · cases hx
theorem opq_slice {t : TypeId} {x : Operand} {lo hi : Option Operand} (ho : o.op = .slice t x lo hi none) {r : AV} (h : aslice P σ t (ρ x) (lo.map ρ) (hi.map ρ) = some r) (hr : R r σ) : OpQ P o ρ σ R := by
  refine opq_v (s := fun e => Instr.sliceAt t (e x) (lo.map e) (hi.map e) none) (fun e => by simp only [execOp, ho]; rfl) r hr fun G e w he hw => ?_
  have hx := he x
  have b1 : BoundAs G w (lo.map ρ) (lo.map e) := by cases lo with | none => trivial | some l => exact he l
  have b2 : BoundAs G w (hi.map ρ) (hi.map e) := by cases hi with | none => trivial | some l => exact he l
  generalize ρ x = cx at h hx
  generalize e x = vx at hx
  generalize lo.map ρ = al at h b1
  generalize hi.map ρ = ah at h b2
  generalize lo.map e = vl at b1
  generalize hi.map e = vh at b2
  unfold aslice at h
  split at h
  · rename_i s
    obtain ⟨ht, h⟩ := ite_some' h
    obtain ⟨l, hl, h⟩ := Option.bind_eq_some_iff.1 h
    obtain ⟨k, hk, h⟩ := Option.bind_eq_some_iff.1 h
    obtain ⟨⟨h1, h2⟩, h⟩ := ite_some' h
    obtain rfl := Option.some.inj h
    cases hx
    refine ⟨.string (s.extract l k), ?_, .p _⟩
    have := run_sliceBounds (P := P) b1 b2 hl hk h1 h2 false
    simp [Instr.sliceAt, Instr.slice, run_underlying' (isString_spec ht), this]
  · rename_i xs
    obtain ⟨⟨n, g, by_⟩, hq, h⟩ := Option.bind_eq_some_iff.1 h
    obtain ⟨l, hl, h⟩ := Option.bind_eq_some_iff.1 h
    obtain ⟨k, hk, h⟩ := Option.bind_eq_some_iff.1 h
    obtain ⟨⟨h1, h2, h3⟩, h⟩ := ite_some' h
    obtain rfl := Option.some.inj h
    obtain ⟨e', i', t1, t2, t3, _⟩ := telem_spec hq
    cases hx with
    | vnil a cap =>
      simp only [List.length_nil, Nat.le_zero] at h2 hk
      subst h2
      obtain rfl : l = 0 := by omega
      have := run_sliceBounds (P := P) b1 b2 hl hk (Nat.le_refl _) (Nat.zero_le cap) true
      simp only [Instr.sliceAt, Instr.slice, Sem.run_bind, run_underlying' t1, Result.andThen_ok, this, run_sizeOf' t3, Sem.run_pure]
      exact ⟨_, rfl, .vnil _ _⟩
    | vsl _ β o s cap val hcap hs hc hrr =>
      have := run_sliceBounds (P := P) b1 b2 hl hk h1 (Nat.le_trans h2 hcap) true
      simp only [Instr.sliceAt, Instr.slice, Sem.run_bind, run_underlying' t1, Result.andThen_ok, this, run_sizeOf' t3, Sem.run_pure]
      refine ⟨_, rfl, ?_⟩
      by_cases hlk : l = k
      · subst hlk
        have : (xs.take l).drop l = [] := by simp [List.drop_eq_nil_iff]
        rw [this, Nat.sub_self]
        exact .vnil _ _
      · have hne : ¬ cap = l := by omega
        rw [if_neg hne]
        have hlt : l < xs.length := by omega
        have hs' : s = n := (hs l _ (List.getElem?_eq_getElem hlt)).symm.trans (h3 _ (by rw [List.getElem?_eq_getElem hlt]; rfl))
        subst hs'
        have hlen : ((xs.take k).drop l).length = k - l := by simp; omega
        have hcap2 : ((xs.take k).drop l).length ≤ cap - l := by rw [hlen]; exact Nat.sub_le_sub_right (Nat.le_trans h2 hcap) l
        simp only [Option.map_some, addr_add]
        rw [← hlen]
        refine Rep.vsl _ β (o + l * s) s (cap - l) (fun i j => val (l + i) j) hcap2 (fun i x hx => ?_) (fun i j c hcc => ?_) (fun i j c hcc => hrr _ _ _ (rowCell_cut _ _ _ _ _ _ hcc).1)
        · rw [List.getElem?_drop, List.getElem?_take] at hx
          split at hx
          · exact hs _ _ hx
          · cases hx
        · have := hc _ _ _ (rowCell_cut _ _ _ _ _ _ hcc).1
          rw [show o + l * s + i * s + j = o + (l + i) * s + j by rw [Nat.add_mul]; omega]
          exact this
  · rename_i b off m
    obtain ⟨⟨n, g, by_⟩, hq, h⟩ := Option.bind_eq_some_iff.1 h
    obtain ⟨l, hl, h⟩ := Option.bind_eq_some_iff.1 h
    obtain ⟨k, hk, h⟩ := Option.bind_eq_some_iff.1 h
    obtain ⟨⟨h1, h2⟩, h⟩ := ite_some' h
    obtain ⟨e', i', t1, t2, t3, _⟩ := telem_spec hq
    cases hx with
    | hsl _ _ _ β o s cap gb hle =>
      have := run_sliceBounds (P := P) b1 b2 hl hk h1 (show k ≤ cap - off by omega) true
      simp only [Instr.sliceAt, Instr.slice, Sem.run_bind, run_underlying' t1, Result.andThen_ok, this, run_sizeOf' t3, Sem.run_pure]
      refine ⟨_, rfl, ?_⟩
      by_cases hl0 : l = 0
      · subst hl0
        rw [if_pos rfl] at h
        obtain rfl := Option.some.inj h
        by_cases hcz : cap - off = 0
        · rw [if_pos hcz, hcz, show k - 0 = 0 by omega, show k = 0 by omega]
          exact .hend b off _ β o s cap gb (by omega)
        · rw [if_neg hcz]
          simp only [Option.map_some, addr_add, Nat.zero_mul, Nat.add_zero, Nat.sub_zero]
          exact .hsl b off k β o s cap gb (by omega)
      · rw [if_neg hl0] at h
        obtain ⟨xs, hxs, h⟩ := Option.bind_eq_some_iff.1 h
        obtain ⟨y, hy, h⟩ := Option.bind_eq_some_iff.1 h
        obtain ⟨hyl, h⟩ := ite_some' h
        obtain rfl := Option.some.inj h
        rcases hw.sl b xs hxs with ⟨g1, _⟩ | ⟨β', o', s', cap', arr, el, g1, g2, g3, g4, g5, g6⟩
        · rw [gb] at g1; cases g1
        · obtain ⟨rfl, rfl, rfl, rfl⟩ : β = β' ∧ o = o' ∧ s = s' ∧ cap = cap' := by rw [gb] at g1; simpa using g1
          have hs' : s = n := (g5 _ _ hy).symm.trans hyl
          subst hs'
          by_cases hcl : cap - off = l
          · rw [if_pos hcl, show k - l = 0 by omega, show cap - off - l = 0 by omega]
            exact .hend b (off + l) _ β o s cap gb (by omega)
          · rw [if_neg hcl]
            simp only [Option.map_some, addr_add]
            have e1 : o + off * s + l * s = o + (off + l) * s := by rw [Nat.add_mul]; omega
            have e2 : cap - off - l = cap - (off + l) := by omega
            rw [e1, e2]
            exact .hsl b (off + l) (k - l) β o s cap gb (by omega)
    | hend _ _ a β o s cap gb hle =>
      obtain rfl : k = 0 := by omega
      obtain rfl : l = 0 := by omega
      have := run_sliceBounds (P := P) b1 b2 hl hk (Nat.le_refl _) (Nat.le_refl 0) true
      simp only [Instr.sliceAt, Instr.slice, Sem.run_bind, run_underlying' t1, Result.andThen_ok, this, run_sizeOf' t3, Sem.run_pure]
      rw [if_pos rfl] at h
      obtain rfl := Option.some.inj h
      refine ⟨_, rfl, ?_⟩
      first | rw [if_pos rfl] | rw [if_pos trivial]
      exact .hend b off a β o s cap gb hle
    | hnil _ a gb =>
      obtain rfl : k = 0 := by omega
      obtain rfl : l = 0 := by omega
      have := run_sliceBounds (P := P) b1 b2 hl hk (Nat.le_refl _) (Nat.le_refl 0) true
      simp only [Instr.sliceAt, Instr.slice, Sem.run_bind, run_underlying' t1, Result.andThen_ok, this, run_sizeOf' t3, Sem.run_pure]
      rw [if_pos rfl] at h
      obtain rfl := Option.some.inj h
      refine ⟨_, rfl, ?_⟩
      first | rw [if_pos rfl] | rw [if_pos trivial]
      exact .hnil b a gb
  · cases h
end Go.AL
/-! append. -/
namespace Go.AL
open Go.RowKit (Below)
set_option linter.unusedVariables false
set_option linter.unusedSimpArgs false

variable {P : Program} {o : Oper} {ρ : Operand → AV} {σ : ASt} {R : AV → ASt → Prop}

def ASt.dropSl (σ : ASt) (b : Nat) : ASt := { σ with sl := upd σ.sl b none }
@[simp] theorem dropSl_next (σ : ASt) (b : Nat) : (σ.dropSl b).next = σ.next := rfl
theorem dropSl_le (σ : ASt) (b : Nat) : (σ.dropSl b).Le σ :=
  ⟨fun _ _ h => h, fun _ _ h => h, fun x cs h => by
    by_cases e : x = b
    · subst e; simp [ASt.dropSl] at h
    · exact (upd_ne σ.sl none e).symm.trans h, Nat.le_refl _⟩

theorem SimW.rewriteSl {G σ w w' b xs β r0 r1 xs'} (h : SimW G σ w) (hb : σ.sl b = some xs) (g : G.sl b = some (some (β, r0))) (ht : Touch w w' β)
    (hw : Le G w (G.addSl σ.next (some (β, r1))) w' → SlOK (G.addSl σ.next (some (β, r1))) w' σ.next xs') :
    Le G w (G.addSl σ.next (some (β, r1))) w' ∧ SimW (G.addSl σ.next (some (β, r1))) ((σ.dropSl b).addSl xs') w' := by
  have ho : Owns G σ β (2, b) := .sl b β r0 xs hb g
  have hl0 := Le.touch h ho ht
  have hf := h.fresh σ.next (Nat.le_refl _)
  have hbn : b ≠ σ.next := fun e => by subst e; rw [hf.2.2.1] at g; cases g
  have hl : Le G w (G.addSl σ.next (some (β, r1))) w' := ⟨rfl, fun _ _ e => e, fun _ _ e => e, fun c γ e => (upd_ne G.sl _ (fun hh => by subst hh; rw [hf.2.2.1] at e; cases e)).trans e, fun _ _ e => e, fun _ _ e => .inl e, hl0.cell, hl0.below⟩
  refine ⟨hl, ?_⟩
  have hown : ∀ γ k, Owns (G.addSl σ.next (some (β, r1))) ((σ.dropSl b).addSl xs') γ k → (γ = β ∧ k = (2, σ.next)) ∨ (Owns G σ γ k ∧ γ ≠ β) := by
    intro γ k hk
    cases hk with
    | sl b' β' q cs2 h2 g2 =>
      by_cases e : b' = σ.next
      · subst e
        have := Option.some.inj ((upd_same G.sl σ.next _).symm.trans g2)
        simp only [Option.some.injEq, Prod.mk.injEq] at this
        exact .inl ⟨this.1.symm, rfl⟩
      · have h2' : upd σ.sl b none b' = some cs2 := (upd_ne _ _ e).symm.trans h2
        by_cases e2 : b' = b
        · subst e2; simp at h2'
        · have o2 : Owns G σ γ (2, b') := .sl _ _ q cs2 ((upd_ne _ _ e2).symm.trans h2') ((upd_ne _ _ e).symm.trans g2)
          refine .inr ⟨o2, fun e3 => ?_⟩
          subst e3
          have := (h.own _ _ ho).2.1 _ o2
          simp at this; exact e2 this
    | bx b' β' cs2 h2 g2 =>
      have o2 : Owns G σ γ (0, b') := .bx _ _ cs2 h2 g2
      refine .inr ⟨o2, fun e3 => ?_⟩
      subst e3
      have := (h.own _ _ ho).2.1 _ o2
      simp at this
    | mp b' β' cs2 h2 g2 =>
      have o2 : Owns G σ γ (1, b') := .mp _ _ cs2 h2 g2
      refine .inr ⟨o2, fun e3 => ?_⟩
      subst e3
      have := (h.own _ _ ho).2.1 _ o2
      simp at this
  refine ⟨h.base.go hl.below, fun b' cs2 e => (h.bx b' cs2 e).mono hl fun γ gg => ht.block γ fun hh => ?_, fun b' cs2 e => (h.mp b' cs2 e).mono hl fun γ gg => ht.block γ fun hh => ?_, fun b' cs2 e => ?_, ?_,
    fun γ o e => by rw [ht.size]; exact h.stIn γ o e, fun b' hb' => ?_⟩
  · subst hh
    have := (h.own _ _ ho).2.1 _ (.bx b' γ cs2 e gg)
    simp at this
  · subst hh
    have := (h.own _ _ ho).2.1 _ (.mp b' γ cs2 e gg)
    simp at this
  · by_cases eb : b' = σ.next
    · subst eb
      obtain rfl := Option.some.inj ((upd_same _ σ.next (some xs')).symm.trans e)
      exact hw hl
    · have e' : upd σ.sl b none b' = some cs2 := (upd_ne _ _ eb).symm.trans e
      by_cases e2 : b' = b
      · subst e2; simp at e'
      · have e3 : σ.sl b' = some cs2 := (upd_ne _ _ e2).symm.trans e'
        refine (h.sl b' cs2 e3).mono hl fun γ q gg => ht.block γ fun hh => ?_
        subst hh
        have := (h.own _ _ ho).2.1 _ (.sl b' γ q cs2 e3 gg)
        simp at this; exact e2 this
  · intro γ k hk
    rcases hown γ k hk with ⟨rfl, rfl⟩ | ⟨hk, hne⟩
    · refine ⟨(h.own _ _ ho).1, fun k' hk' => ?_, (h.own _ _ ho).2.2⟩
      rcases hown _ k' hk' with ⟨_, rfl⟩ | ⟨_, hne⟩
      · rfl
      · exact absurd rfl hne
    · refine ⟨(h.own γ k hk).1, fun k' hk' => ?_, (h.own γ k hk).2.2⟩
      rcases hown _ k' hk' with ⟨rfl, _⟩ | ⟨hk', _⟩
      · exact absurd rfl hne
      · exact (h.own γ k hk).2.1 k' hk'
  · have hb2 : σ.next + 1 ≤ b' := hb'
    obtain ⟨f1, f2, f3, f4, f5, f6⟩ := h.fresh b' (by omega)
    have n1 : b' ≠ σ.next := by omega
    refine ⟨f1, f2, (upd_ne _ _ n1).trans f3, f4, f5, (upd_ne _ _ n1).trans ?_⟩
    show upd σ.sl b none b' = none
    by_cases e2 : b' = b
    · subst e2; simp
    · exact (upd_ne _ _ e2).trans f6

/-- So many cells, from an address on, are these elements'. -/
def SegAs (G : Ghost) (w : World) (n : Nat) (ys : List AV) (a : Addr) (news : List Value) : Prop :=
  news.length = ys.length * n ∧ (∀ (k : Nat) u, news[k]? = some u → w.cell? (a.add k) = some u) ∧ ∀ (i j : Nat) c u, rowCell ys i j = some c → news[i * n + j]? = some u → Rep G w c u
theorem seg_of {G w n} {ys : List AV} {β o : Nat} (hn : ∀ (i : Nat) x, ys[i]? = some x → x.cells.length = n)
    (hc : ∀ (i j : Nat) c, rowCell ys i j = some c → ∃ v, w.cell? ⟨β, o + i * n + j, none⟩ = some v ∧ Rep G w c v) : ∃ news, SegAs G w n ys ⟨β, o, none⟩ news := by
  have row : ∀ k, k < ys.length * n → ∃ c, rowCell ys (k / n) (k % n) = some c := by
    intro k hk
    have hn0 : 0 < n := Nat.pos_of_ne_zero fun e => by subst e; simp at hk
    have hi : k / n < ys.length := Nat.div_lt_of_lt_mul (by rwa [Nat.mul_comm])
    have hj : k % n < n := Nat.mod_lt _ hn0
    have := hn _ _ (List.getElem?_eq_getElem hi)
    refine ⟨(ys[k / n].cells)[k % n]'(by omega), ?_⟩
    unfold rowCell
    rw [List.getElem?_eq_getElem hi]
    simp only [Option.bind_some]
    exact List.getElem?_eq_getElem (by omega)
  refine ⟨(List.range (ys.length * n)).map fun k => (w.cell? ⟨β, o + k, none⟩).getD undef, by simp, fun k u hu => ?_, fun i j c u hcc hu => ?_⟩
  · have hk : k < ys.length * n := by simpa using (List.getElem?_eq_some_iff.1 hu).1
    rw [List.getElem?_map, List.getElem?_range hk] at hu
    simp only [Option.map_some, Option.some.injEq] at hu
    obtain ⟨c, hcc⟩ := row k hk
    obtain ⟨v, h1, _⟩ := hc _ _ c hcc
    have e : o + k / n * n + k % n = o + k := by have := Nat.div_add_mod k n; rw [Nat.mul_comm] at this; omega
    rw [e] at h1
    rw [addr_add, h1]
    rw [h1] at hu
    simpa using hu
  · obtain ⟨v, h1, h2⟩ := hc i j c hcc
    obtain ⟨_, _, hlt⟩ := rowCell_lt hcc hn
    rw [List.getElem?_map, List.getElem?_range hlt] at hu
    simp only [Option.map_some, Option.some.injEq] at hu
    rw [← Nat.add_assoc, h1] at hu
    simp only [Option.getD_some] at hu
    subst hu
    exact h2
theorem seg_one {G w n ys a news} (h : SegAs G w n ys a news) (hn : ∀ (i : Nat) x, ys[i]? = some x → x.cells.length = n) (hok : ∀ y ∈ ys, AV.okv y = true) : ∀ u ∈ news, u.oneCell' = true := by
  intro u hu
  obtain ⟨k, hk, rfl⟩ := List.getElem_of_mem hu
  have hk' : k < ys.length * n := by rw [← h.1]; exact hk
  have hn0 : 0 < n := Nat.pos_of_ne_zero fun e => by subst e; simp at hk'
  have hi : k / n < ys.length := Nat.div_lt_of_lt_mul (by rwa [Nat.mul_comm])
  have hj : k % n < n := Nat.mod_lt _ hn0
  have hl := hn _ _ (List.getElem?_eq_getElem hi)
  have hj' : k % n < ys[k / n].cells.length := by omega
  have hr := h.2.2 (k / n) (k % n) ys[k / n].cells[k % n] news[k] (by unfold rowCell; rw [List.getElem?_eq_getElem hi]; exact List.getElem?_eq_getElem hj') (by
    have := Nat.div_add_mod k n; rw [Nat.mul_comm] at this; rw [this]; exact List.getElem?_eq_getElem hk)
  exact rep_one (okv_one (hok _ (List.getElem_mem hi)) _ (List.getElem_mem hj')) hr
theorem rowCell_append (es ys : List AV) (i j : Nat) : rowCell (es ++ ys) i j = if i < es.length then rowCell es i j else rowCell ys (i - es.length) j := by
  unfold rowCell
  split
  · rename_i h; rw [List.getElem?_append_left h]
  · rename_i h; rw [List.getElem?_append_right (by omega)]

/-- What is appended. -/
def asrc (σ : ASt) : AV → Option (List AV)
  | .vsl ys => some ys
  | .hsl b off n => (σ.sl b).bind fun xs => if off + n ≤ xs.length then some ((xs.drop off).take n) else none
  | _ => none
theorem rowCell_seg (xs : List AV) (off n i j : Nat) (c : AV) (hc : rowCell ((xs.drop off).take n) i j = some c) : rowCell xs (off + i) j = some c ∧ i < n := by
  unfold rowCell at *
  obtain ⟨x, hx, hj⟩ := Option.bind_eq_some_iff.1 hc
  rw [List.getElem?_take] at hx
  split at hx
  · rename_i hlt
    rw [List.getElem?_drop] at hx
    exact ⟨by rw [hx]; exact hj, hlt⟩
  · cases hx
theorem asrc_spec {x : AV} {ys : List AV} (h : asrc σ x = some ys) (hne : ys ≠ []) {n : Nat} (hn : ∀ y ∈ ys, y.cells.length = n) {G w v} (hw : SimW G σ w) (hx : Rep G w x v) :
    ∃ a c news, v = .slice (some a) ys.length c ∧ SegAs G w n ys a news := by
  have hn' : ∀ (i : Nat) x, ys[i]? = some x → x.cells.length = n := fun i x hx => hn x (List.mem_of_getElem? hx)
  cases hx with
  | vnil => obtain rfl := Option.some.inj h; exact absurd rfl hne
  | vsl _ β o s cap val hcap hs hc hrr =>
    obtain rfl := Option.some.inj h
    rename_i xs
    obtain ⟨y, hy⟩ := List.exists_mem_of_ne_nil _ hne
    obtain ⟨i, hi, hyi⟩ := List.getElem_of_mem hy
    have hs' : s = n := (hs i _ (List.getElem?_eq_getElem hi)).symm.trans (hn _ (List.getElem_mem hi))
    subst hs'
    obtain ⟨news, hseg⟩ := seg_of (G := G) (w := w) (β := β) (o := o) hn' (fun i j c hcc => ⟨val i j, (hc i j c hcc).2, hrr i j c hcc⟩)
    exact ⟨_, cap, news, rfl, hseg⟩
  | hsl b off m β o s cap gb hle =>
    obtain ⟨xs, hxs, h⟩ := Option.bind_eq_some_iff.1 h
    obtain ⟨hin, h⟩ := ite_some' h
    obtain rfl := Option.some.inj h
    have hlen : ((xs.drop off).take m).length = m := by simp; omega
    have hm : 0 < m := by rw [← hlen]; exact List.length_pos_iff.2 hne
    rcases hw.sl b xs hxs with ⟨g1, _⟩ | ⟨β', o', s', cap', arr, el, g1, g2, g3, g4, g5, g6⟩
    · rw [gb] at g1; cases g1
    · obtain ⟨rfl, rfl, rfl, rfl⟩ : β = β' ∧ o = o' ∧ s = s' ∧ cap = cap' := by rw [gb] at g1; simpa using g1
      have h0 : off < xs.length := by omega
      have hs' : s = n := (g5 off _ (List.getElem?_eq_getElem h0)).symm.trans (hn _ (by
        refine List.mem_of_getElem? (i := 0) ?_
        rw [List.getElem?_take, if_pos hm, List.getElem?_drop, Nat.add_zero]
        exact List.getElem?_eq_getElem h0))
      subst hs'
      obtain ⟨news, hseg⟩ := seg_of (G := G) (w := w) (n := s) (ys := (xs.drop off).take m) (β := β) (o := o + off * s) hn' (fun i j c hcc => by
        obtain ⟨hc2, hi⟩ := rowCell_seg _ _ _ _ _ _ hcc
        obtain ⟨h1, h2, h3⟩ := rowCell_lt hc2 g5
        have hlt : o + (off + i) * s + j < arr.size := by
          have : xs.length * s ≤ cap * s := Nat.mul_le_mul_right _ g3.2
          omega
        refine ⟨arr[o + (off + i) * s + j], ?_, g6 _ j c _ hc2 (Array.getElem?_eq_getElem hlt)⟩
        have e : o + off * s + i * s + j = o + (off + i) * s + j := by rw [Nat.add_mul]; omega
        rw [cell_of_heap g2, e]
        exact Array.getElem?_eq_getElem hlt)
      exact ⟨_, cap - off, news, by rw [hlen], hseg⟩
  | hend => 
    obtain ⟨xs, hxs, h⟩ := Option.bind_eq_some_iff.1 h
    obtain ⟨hin, h⟩ := ite_some' h
    obtain rfl := Option.some.inj h
    simp at hne
  | hnil =>
    obtain ⟨xs, hxs, h⟩ := Option.bind_eq_some_iff.1 h
    obtain ⟨hin, h⟩ := ite_some' h
    obtain rfl := Option.some.inj h
    simp at hne
  | _ => cases h
theorem execOp_append (e : Operand → Value) {s x : Operand} {t : TypeId} (ho : o.op = .call { callee := .builtin .append, args := #[s, x], argTypes := #[t, t] }) :
    execOp e o = (do pure (.value (← Builtin.append_ #[t, t] o.type #[e s, e x]))) := by
  rw [execOp_builtin e ho]; simp [builtin]
/-- What grows gets a new place. -/
theorem append_grow {t el : TypeId} {n : Nat} {i : TypeInfo} {z : Value} (ht : P.underlying t = some (.slice el)) (hi : P.info? el = some i) (hz : i.zero = some z) (hin : i.size = n) (hzn : z.cells.size = n)
    {G w} (hw : SimW G σ w) {es ys : List AV} {b : Addr} {sCap : Nat} {olds news : List Value} {a : Addr} {c : Nat} (ho : SegAs G w n es b olds) (hs : SegAs G w n ys a news) (hne : ys ≠ [])
    (hes : ∀ (i : Nat) x, es[i]? = some x → x.cells.length = n) (hys : ∀ (i : Nat) x, ys[i]? = some x → x.cells.length = n) (hg : sCap < es.length + ys.length) (hb : (es.length + ys.length) * i.bytes ≤ 140737488355328) (hsm : es.length + ys.length ≤ 9223372036854775807) (ty : TypeId) :
    ∃ v w', (Builtin.append_ #[t, t] ty #[.slice (some b) es.length sCap, .slice (some a) ys.length c]).run P w = .ok v w' ∧ ∃ G', Le G w G' w' ∧ SimW G' (σ.addSl (es ++ ys)) w' ∧ Rep G' w' (.hsl σ.next 0 (es ++ ys).length) v := by
  subst hin
  have hrun := run_append_grow (P := P) w t ty el i z ht hi hz b es.length sCap olds ho.1 ho.2.1 a ys.length c news hs.1 hs.2.1 hg (by omega) (growslice_fits hg hb)
  have hcap := grownCap_ge w (es.length + ys.length) sCap el
  refine ⟨_, _, hrun, ?_⟩
  rw [← List.length_append]
  have hbel : Below w.heap.size w w.drew := (Below.refl _ _).drew
  refine new_hsl (n := i.size) hw (fun k x hx => ?_) (fun k j cc v hc hv => ?_) (by simp; have := List.length_pos_iff.2 hne; omega) (by simpa using hcap) ?_ el w.drew hbel
  · rw [List.getElem?_append] at hx
    split at hx
    · exact hes _ _ hx
    · exact hys _ _ hx
  · rw [rowCell_append] at hc
    have hv' : (olds ++ news ++ (Builtin.zeroCells z.cells (grownCap w (es.length + ys.length) sCap el - (es.length + ys.length))).toList)[k * i.size + j]? = some v := by
      rw [← Array.getElem?_toList] at hv; simpa using hv
    split at hc
    · rename_i hk
      obtain ⟨_, _, hlt⟩ := rowCell_lt hc hes
      rw [List.append_assoc, List.getElem?_append_left (by rw [ho.1]; exact hlt)] at hv'
      exact ho.2.2 k j cc v hc hv'
    · rename_i hk
      obtain ⟨_, _, hlt⟩ := rowCell_lt hc hys
      have e : k * i.size = es.length * i.size + (k - es.length) * i.size := by rw [← Nat.add_mul]; congr 1; omega
      rw [List.append_assoc, List.getElem?_append_right (by rw [ho.1]; omega), List.getElem?_append_left (by rw [ho.1, hs.1]; omega)] at hv'
      rw [ho.1, show k * i.size + j - es.length * i.size = (k - es.length) * i.size + j by omega] at hv'
      exact hs.2.2 _ j cc v hc hv'
  · simp only [Array.size_append, List.size_toArray, size_zeroCells, hzn, ho.1, hs.1, ← Nat.add_mul, List.length_append]
    exact Nat.mul_le_mul_right _ (by omega)
/-- append onto a slice of the function's own. -/
theorem opq_append {s x : Operand} {t el : TypeId} (ho : o.op = .call { callee := .builtin .append, args := #[s, x], argTypes := #[t, t] }) {b off k : Nat} {xs ys : List AV} {n by_ : Nat} {g : Bool} {z : AV}
    (hs : ρ s = .hsl b off k) (hb : σ.sl b = some xs) (hk : off + k ≤ xs.length) (hx : asrc σ (ρ x) = some ys) (hne : ys ≠ []) (ht : telem P t = some (n, g, by_)) (hel : telemT P t = some el) (hz : tzero P el = some z) (hzn : z.cells.length = n)
    (hxs : ∀ y ∈ xs, y.cells.length = n) (hys : ∀ y ∈ ys, y.cells.length = n ∧ y.okv = true) (hB : (k + ys.length) * by_ ≤ 140737488355328) (hS : k + ys.length ≤ 9223372036854775807)
    (hr : R (.hsl σ.next 0 (k + ys.length)) ((σ.dropSl b).addSl ((xs.drop off).take k ++ ys))) : OpQ P o ρ σ R := by
  intro G e w he hw
  have hrs := he s
  rw [hs] at hrs
  obtain ⟨e', i', t1, t2, t3, rfl⟩ := telem_spec ht
  have hee : e' = el := by simpa [telemT, t1] using hel
  subst hee
  obtain ⟨it, zv, hi, hzv, rfl⟩ := tzero_spec hz
  obtain rfl := Option.some.inj (t2.symm.trans hi)
  obtain ⟨i2, d2, q1, q2, q3, _⟩ := tsize_spec t3
  obtain rfl := Option.some.inj (t2.symm.trans q1)
  rw [ofV_cells] at hzn
  obtain ⟨a, c, news, hv, hseg⟩ := asrc_spec hx hne (fun y hy => (hys y hy).1) hw (he x)
  have hys' : ∀ (i : Nat) x, ys[i]? = some x → x.cells.length = n := fun i x hx => (hys x (List.mem_of_getElem? hx)).1
  have hlen : ((xs.drop off).take k).length = k := by simp; omega
  have hes' : ∀ (i : Nat) x, ((xs.drop off).take k)[i]? = some x → x.cells.length = n := fun i x hx => by
    have := List.mem_of_getElem? hx
    exact hxs x (List.mem_of_mem_drop (List.mem_of_mem_take this))
  have hpos := List.length_pos_iff.2 hne
  rw [execOp_append e ho]
  have finish : ∀ v w', (Builtin.append_ #[t, t] o.type #[e s, e x]).run P w = .ok v w' → (∃ G', Le G w G' w' ∧ SimW G' ((σ.dropSl b).addSl ((xs.drop off).take k ++ ys)) w' ∧ Rep G' w' (.hsl σ.next 0 (k + ys.length)) v) →
      OutcN P G w R ((do pure (Next.value (← Builtin.append_ #[t, t] o.type #[e s, e x])) : Sem Next).run P w) := by
    rintro v w' h1 ⟨G', h2, h3, h4⟩
    simp only [Sem.run_bind, h1, Result.andThen_ok, Sem.run_pure]
    exact ⟨_, G', _, h2, h3, h4, hr⟩
  have hwd := hw.less (dropSl_le σ b)
  suffices hm : ∃ v w', (Builtin.append_ #[t, t] o.type #[e s, e x]).run P w = .ok v w' ∧ ∃ G', Le G w G' w' ∧ SimW G' ((σ.dropSl b).addSl ((xs.drop off).take k ++ ys)) w' ∧ Rep G' w' (.hsl σ.next 0 (k + ys.length)) v by
    obtain ⟨v, w', h1, h2⟩ := hm
    exact finish v w' h1 h2
  clear finish
  generalize e s = vs at hrs ⊢
  have grow0 : ∀ (a0 : Option Addr), vs = .slice a0 0 0 → k = 0 → ∃ v w', (Builtin.append_ #[t, t] o.type #[vs, e x]).run P w = .ok v w' ∧ ∃ G', Le G w G' w' ∧ SimW G' ((σ.dropSl b).addSl ((xs.drop off).take k ++ ys)) w' ∧ Rep G' w' (.hsl σ.next 0 (k + ys.length)) v := by
    intro a0 hv0 hk0
    subst hk0
    rw [hv0, hv]
    have hB0 : ys.length * i'.bytes ≤ 140737488355328 := by simpa using hB
    have hseg0 : SegAs G w n [] ⟨0, 0, none⟩ [] := ⟨by simp, fun k u hu => by simp at hu, fun i j c u hc => by simp [rowCell] at hc⟩
    cases a0 with
    | some a0 =>
      have hseg0 : SegAs G w n [] a0 [] := ⟨by simp, fun k u hu => by simp at hu, fun i j c u hc => by simp [rowCell] at hc⟩
      have := append_grow (σ := σ.dropSl b) t1 t2 hzv q3 hzn hwd (es := []) (sCap := 0) hseg0 hseg hne (fun i x hx => by simp at hx) hys' (by simpa using hpos) (by simpa using hB) (by simpa using hS) o.type (c := c)
      simpa using this
    | none =>
      have hrun := run_append_nil (P := P) w t o.type e' i' zv t1 t2 hzv a ys.length c news (by rw [q3]; exact hseg.1) hseg.2.1 hpos (by omega) (by omega)
      have hcap := grownCap_ge w ys.length 0 e'
      refine ⟨_, _, hrun, ?_⟩
      have hbel : Below w.heap.size w w.drew := (Below.refl _ _).drew
      have := new_hsl (σ := σ.dropSl b) (n := n) (es := ys) hwd (arr := news.toArray ++ Builtin.zeroCells zv.cells (grownCap w ys.length 0 e' - ys.length)) hys' (fun i j cc v hc hvv => by
        obtain ⟨_, _, hlt⟩ := rowCell_lt hc hys'
        rw [Array.getElem?_append_left (by rw [List.size_toArray, hseg.1]; exact hlt)] at hvv
        exact hseg.2.2 i j cc v hc (by simpa using hvv)) hpos hcap (by
          simp only [Array.size_append, List.size_toArray, size_zeroCells, hzn, hseg.1, ← Nat.add_mul]
          exact Nat.mul_le_mul_right _ (by omega)) e' w.drew hbel
      simpa using this
  cases hrs with
  | hsl _ _ _ β o' s' cap gb hle =>
    rcases hw.sl b xs hb with ⟨g1, _⟩ | ⟨β', o'', s'', cap', arr, elt, g1, g2, g3, g4, g5, g6⟩
    · rw [gb] at g1; cases g1
    · obtain ⟨rfl, rfl, rfl, rfl⟩ : β = β' ∧ o' = o'' ∧ s' = s'' ∧ cap = cap' := by rw [gb] at g1; simpa using g1
      have hs' : s' = n := (g5 0 _ (List.getElem?_eq_getElem g3.1)).symm.trans (hxs _ (List.getElem_mem g3.1))
      subst hs'
      by_cases hroom : k + ys.length ≤ cap - off
      · -- in place
        have hfit : o' + off * s' + k * s' + ys.length * s' ≤ arr.size := by
          have : (off + k + ys.length) * s' ≤ cap * s' := Nat.mul_le_mul_right _ (by omega)
          rw [Nat.add_mul, Nat.add_mul] at this; omega
        have hf := run_firstCells_some (P := P) w s' ys.length a ys.length c news hseg.1 hseg.2.1
        have hst := run_storeCells_at (P := P) β (o' + off * s' + k * s') elt news 0 arr w g2 (by rw [hseg.1]; omega) (seg_one hseg hys' fun y hy => (hys y hy).2)
        simp only [Nat.add_zero] at hst
        refine ⟨(.slice (some ⟨β, o' + off * s', none⟩) (k + ys.length) (cap - off)), (w.setRow β (arr.toList.take (o' + off * s' + k * s') ++ news ++ arr.toList.drop (o' + off * s' + k * s' + news.length)).toArray), ?_, ?_⟩
        · rw [hv]
          simp [Builtin.append_, run_underlying' t1, sizeOf, run_typeInfo' t2, Builtin.lenOf, hroom, q3, hf, addr_add, hst]
        · have ht := touch_setRow w β (arr.toList.take (o' + off * s' + k * s') ++ news ++ arr.toList.drop (o' + off * s' + k * s' + news.length)).toArray
          have hsl : Le G w (G.addSl σ.next (some (β, (o' + off * s', s', cap - off)))) (w.setRow β (arr.toList.take (o' + off * s' + k * s') ++ news ++ arr.toList.drop (o' + off * s' + k * s' + news.length)).toArray) →
              SlOK (G.addSl σ.next (some (β, (o' + off * s', s', cap - off)))) (w.setRow β (arr.toList.take (o' + off * s' + k * s') ++ news ++ arr.toList.drop (o' + off * s' + k * s' + news.length)).toArray) σ.next ((xs.drop off).take k ++ ys) := by
            intro hl
            refine .inr ⟨β, o' + off * s', s', cap - off, _, elt, upd_same _ _ _, setRow_new g2 _, ⟨by simp; omega, by simp; omega⟩, ?_, ?_, ?_⟩
            · have hcs : off * s' + (cap - off) * s' = cap * s' := by rw [← Nat.add_mul]; congr 1; omega
              simp [hseg.1]; omega
            · intro i y hy
              rw [List.getElem?_append] at hy
              split at hy
              · exact hes' _ _ hy
              · exact hys' _ _ hy
            · intro i j cc u hc hu
              have hu' : (arr.toList.take (o' + off * s' + k * s') ++ news ++ arr.toList.drop (o' + off * s' + k * s' + ys.length * s'))[o' + off * s' + i * s' + j]? = some u := by rw [← hseg.1]; simpa using hu
              rw [splice_get _ _ _ _ hseg.1 (by simp; omega)] at hu'
              rw [rowCell_append, hlen] at hc
              split at hc
              · rename_i hik
                obtain ⟨hc2, hi⟩ := rowCell_seg _ _ _ _ _ _ hc
                obtain ⟨p1, p2, p3⟩ := rowCell_lt hc2 g5
                have : (i + 1) * s' ≤ k * s' := Nat.mul_le_mul_right _ hi
                rw [Nat.add_mul] at this
                rw [if_neg (by omega), show o' + off * s' + i * s' + j = o' + (off + i) * s' + j by rw [Nat.add_mul]; omega] at hu'
                exact (g6 _ j cc u hc2 (by simpa using hu')).mono hl
              · rename_i hik
                obtain ⟨p1, p2, p3⟩ := rowCell_lt hc hys'
                have e1 : i * s' = k * s' + (i - k) * s' := by rw [← Nat.add_mul]; congr 1; omega
                rw [if_pos (by omega), show o' + off * s' + i * s' + j - (o' + off * s' + k * s') = (i - k) * s' + j by omega] at hu'
                exact (hseg.2.2 _ j cc u hc hu').mono hl
          obtain ⟨h1, h2⟩ := hw.rewriteSl hb gb ht hsl
          refine ⟨_, h1, h2, ?_⟩
          have := Rep.hsl (G := G.addSl σ.next (some (β, o' + off * s', s', cap - off))) (w := w.setRow β (arr.toList.take (o' + off * s' + k * s') ++ news ++ arr.toList.drop (o' + off * s' + k * s' + news.length)).toArray) σ.next 0 (k + ys.length) β (o' + off * s') s' (cap - off) (upd_same _ _ _) (by omega)
          simpa using this
      · -- elsewhere
        obtain ⟨olds, hold⟩ := seg_of (G := G) (w := w) (n := s') (ys := (xs.drop off).take k) (β := β) (o := o' + off * s') hes' (fun i j cc hcc => by
          obtain ⟨hc2, hi⟩ := rowCell_seg _ _ _ _ _ _ hcc
          obtain ⟨h1, h2, h3⟩ := rowCell_lt hc2 g5
          have hlt : o' + (off + i) * s' + j < arr.size := by
            have : xs.length * s' ≤ cap * s' := Nat.mul_le_mul_right _ g3.2
            omega
          refine ⟨arr[o' + (off + i) * s' + j], ?_, g6 _ j cc _ hc2 (Array.getElem?_eq_getElem hlt)⟩
          have e1 : o' + off * s' + i * s' + j = o' + (off + i) * s' + j := by rw [Nat.add_mul]; omega
          rw [cell_of_heap g2, e1]
          exact Array.getElem?_eq_getElem hlt)
        obtain ⟨v, w', h1, h2⟩ := append_grow (σ := σ.dropSl b) t1 t2 hzv q3 hzn hwd hold hseg hne hes' hys' (sCap := cap - off) (by rw [hlen]; omega) (by rw [hlen]; exact hB) (by rw [hlen]; exact hS) o.type (c := c)
        rw [hlen] at h1
        rw [List.length_append, hlen] at h2
        exact ⟨v, w', by rw [hv]; exact h1, h2⟩
  | hend _ _ a0 β o' s' cap gb hle =>
    exact grow0 a0 rfl rfl
  | hnil _ a0 gb =>
    exact grow0 a0 rfl rfl
end Go.AL
/-! What is closed; freezing; pure functions; calls; results. -/
namespace Go.AL
open Go.RowKit (Below)
set_option linter.unusedVariables false
set_option linter.unusedSimpArgs false

variable {P : Program} {o : Oper} {ρ : Operand → AV} {σ : ASt} {R : AV → ASt → Prop} {D : List Deferred} {Q : Exit → List AV → ASt → Prop} {fr : List AV}

/-! ### closed values -/
inductive Cl : AV → Prop where
  | p (x : Value) : Cl (.p x)
  | agg (cs : List AV) (h : ∀ c ∈ cs, Cl c) : Cl (.agg cs)
  | tup (cs : List AV) (h : ∀ c ∈ cs, Cl c) : Cl (.tup cs)
  | vsl (xs : List AV) (h : ∀ c ∈ xs, Cl c) : Cl (.vsl xs)
  | vel (xs : List AV) (i off : Nat) (h : ∀ c ∈ xs, Cl c) : Cl (.vel xs i off)
  | fn (f : Fn) (aa bs : List AV) (h1 : ∀ c ∈ aa, Cl c) (h2 : ∀ c ∈ bs, Cl c) : Cl (.fn f aa bs)
  | ifc (t : TypeId) (v : AV) (h : Cl v) : Cl (.ifc t v)
  | opt (b : Bool) (v : AV) (h : Cl v) : Cl (.opt b v)
  | any : Cl .any
theorem Cl.cells {x : AV} (h : Cl x) : ∀ c ∈ x.cells, Cl c := by
  cases h with
  | agg cs h => exact h
  | _ => intro c hc; simp only [AV.cells, List.mem_singleton] at hc; subst hc; first | exact .p _ | (apply Cl.tup; assumption) | (apply Cl.vsl; assumption) | (apply Cl.vel; assumption) | (apply Cl.fn <;> assumption) | (apply Cl.ifc; assumption) | (apply Cl.opt; assumption) | exact .any
theorem Cl.rowCell {xs : List AV} (h : ∀ c ∈ xs, Cl c) {i j : Nat} {c : AV} (hc : rowCell xs i j = some c) : Cl c := by
  unfold AL.rowCell at hc
  obtain ⟨x, hx, hj⟩ := Option.bind_eq_some_iff.1 hc
  exact (h x (List.mem_of_getElem? hx)).cells c (List.mem_of_getElem? hj)
/-- What is closed hangs on the cells that stay alone. -/
theorem Rep.closed {G G' w c v} (hst : ∀ β o, G.st β o → G'.st β o) (h : Rep G w c v) : Cl c → Rep G' w c v := by
  induction h with
  | p x => exact fun _ => .p x
  | agg cs vs hs _ ih => exact fun hc => by cases hc with | agg _ hc => exact .agg cs vs hs fun i c v a b => ih i c v a b (hc c (List.mem_of_getElem? a))
  | tup cs vs hs _ ih => exact fun hc => by cases hc with | tup _ hc => exact .tup cs vs hs fun i c v a b => ih i c v a b (hc c (List.mem_of_getElem? a))
  | vnil a cap => exact fun _ => .vnil a cap
  | vsl xs β o s cap val hcap hs h _ ih => exact fun hc => by cases hc with | vsl _ hc => exact .vsl xs β o s cap val hcap hs (fun i j c e => ⟨hst _ _ (h i j c e).1, (h i j c e).2⟩) fun i j c e => ih i j c e (Cl.rowCell hc e)
  | vel xs i off β o s val hs h _ ih => exact fun hc => by cases hc with | vel _ _ _ hc => exact .vel xs i off β o s val hs (fun i j c e => ⟨hst _ _ (h i j c e).1, (h i j c e).2⟩) fun i j c e => ih i j c e (Cl.rowCell hc e)
  | fn f aa bs us vs h1 h2 _ _ ih3 ih4 => exact fun hc => by cases hc with | fn _ _ _ c1 c2 => exact .fn f aa bs us vs h1 h2 (fun i c v a b => ih3 i c v a b (c1 c (List.mem_of_getElem? a))) (fun i c v a b => ih4 i c v a b (c2 c (List.mem_of_getElem? a)))
  | ifc t c v _ ih => exact fun hc => by cases hc with | ifc _ _ hc => exact .ifc t c v (ih hc)
  | opt b c v _ h0 ih => exact fun hc => by cases hc with | opt _ _ hc => exact .opt b c v (fun e => ih e hc) h0
  | any v => exact fun _ => .any v
  | _ => exact fun hc => by cases hc

/-! ### pure functions -/
/-- Nothing is known. -/
def σ0 : ASt := ⟨fun _ => none, fun _ => none, fun _ => none, 0⟩
theorem σ0_ok : σ0.Ok := ⟨fun _ _ => rfl, fun _ _ => rfl, fun _ _ => rfl⟩
def APure (P : Program) (f : FuncId) (args : List AV) (r : AV) : Prop := ACall P f args σ0 fun r' _ => r' = r
theorem simW_σ0 {G σ w} (h : SimW G σ w) : SimW { base := w.heap.size, st := G.st, bx := fun _ => none, mp := fun _ => none, sl := fun _ => none } σ0 w where
  base := ⟨Nat.le_refl _, let ⟨w0, h1, h2, h3⟩ := h.base.ini; ⟨w0, h1, Nat.le_trans h2 h.base.le, h3⟩⟩
  bx := fun _ _ e => by cases e
  mp := fun _ _ e => by cases e
  sl := fun _ _ e => by cases e
  own := fun β k ho => by cases ho <;> rename_i e _ <;> cases e
  stIn := h.stIn
  fresh := fun _ _ => ⟨rfl, rfl, rfl, rfl, rfl, rfl⟩
theorem APure.call {f : FuncId} {args : List AV} {r : AV} (h : APure P f args r) (ha : ∀ a ∈ args, Cl a) (hr : Cl r) (σ : ASt) : ACall P f args σ fun r' σ' => r' = r ∧ σ' = σ := by
  intro G w vs hv hw
  have hs := simW_σ0 hw
  have h1 := h { base := w.heap.size, st := G.st, bx := fun _ => none, mp := fun _ => none, sl := fun _ => none } w vs ⟨hv.1, fun i c v a b => Rep.closed (G := G) (fun _ _ e => e) (hv.2 i c v a b) (ha c (List.mem_of_getElem? a))⟩ hs
  refine Calls.mono h1 fun e w' he => retOf_mono (fun v w1 ho => ?_) he
  obtain ⟨r', G1, σ1, hl, hw1, hr1, rfl⟩ := ho
  have hb : Below w.heap.size w w1 := hl.below
  have hst : ∀ β o, G.st β o → G1.st β o := hl.st
  have hl2 : Le G w { G with st := G1.st } w1 := ⟨rfl, fun _ _ e => e, fun _ _ e => e, fun _ _ e => e, hst, fun β o e => (hl.st2 β o e).imp id fun e => Nat.le_trans hw.base.le e, hl.cell, hb.mono hw.base.le⟩
  refine ⟨r', { G with st := G1.st }, σ, hl2, ?_, Rep.closed (G := G1) (fun _ _ e => e) hr1 hr, rfl, rfl⟩
  refine ⟨hw.base.go hl2.below, fun b cs e => (hw.bx b cs e).mono hl2 fun β g => hb.block β ((hw.bx b cs e).lt g), fun b cs e => (hw.mp b cs e).mono hl2 fun β g => hb.block β ((hw.mp b cs e).lt g),
    fun b cs e => (hw.sl b cs e).mono hl2 fun β r g => hb.block β ((hw.sl b cs e).lt g), fun β k ho => ?_, hw1.stIn, hw.fresh⟩
  have own : ∀ β k, Owns { G with st := G1.st } σ β k → Owns G σ β k := by
    intro β k ho
    cases ho with
    | bx b β cs h g => exact .bx b β cs h g
    | mp b β cs h g => exact .mp b β cs h g
    | sl b β r cs h g => exact .sl b β r cs h g
  have ho' := own β k ho
  refine ⟨(hw.own β k ho').1, fun k' hk' => (hw.own β k ho').2.1 k' (own _ _ hk'), fun o e => ?_⟩
  rcases hl.st2 β o e with e | e
  · exact (hw.own β k ho').2.2 o e
  · have h2 : w.heap.size ≤ β := e
    have h3 := hw.own_lt ho'
    omega
/-- The same, from a contract over the machine itself. -/
theorem APure.of_calls {f : FuncId} {args : List AV} {r : AV} (h : ∀ G w (vs : Array Value), (∃ w0, Init w0 ∧ Below w0.heap.size w0 w) → RepL G w args vs.toList → Calls P f vs w fun e w' => ∃ v, e = .returned v ∧ Below w.heap.size w w' ∧ ∀ G', Le G w G' w' → Rep G' w' r v) : APure P f args r := by
  intro G w vs hv hw
  refine Calls.mono (h G w vs (let ⟨w0, h1, _, h3⟩ := hw.base.ini; ⟨w0, h1, h3⟩) hv) fun e w' he => ?_
  obtain ⟨v, rfl, hb, hr⟩ := he
  exact ⟨r, G, σ0, Le.grow hw hb, hw.grow hb, hr G (Le.grow hw hb), rfl⟩
end Go.AL
/-! Freezing; results; calls; the run of what is plain. -/
namespace Go.AL
open Go.RowKit (Below)
set_option linter.unusedVariables false
set_option linter.unusedSimpArgs false

variable {P : Program} {o : Oper} {ρ : Operand → AV} {σ : ASt} {R : AV → ASt → Prop} {D : List Deferred} {Q : Exit → List AV → ASt → Prop} {fr : List AV}

/-! ### a slice of one's own stays as it is from now on -/
def frz0 (b : Nat) (xs : List AV) : AV → AV
  | .hsl b' off n => if b' = b then (if off + n ≤ xs.length then .vsl ((xs.drop off).take n) else .any) else .hsl b' off n
  | v => v
def frz1 (b : Nat) (xs : List AV) : AV → AV
  | .agg cs => .agg (cs.map (frz0 b xs))
  | v => frz0 b xs v
def frz (b : Nat) (xs : List AV) : AV → AV
  | .tup cs => .tup (cs.map (frz1 b xs))
  | v => frz1 b xs v
theorem frz_rep {G G' w b xs} (hl : Le G w G' w) (h0 : ∀ off n u, Rep G w (.hsl b off n) u → Rep G' w (if off + n ≤ xs.length then .vsl ((xs.drop off).take n) else .any) u) : ∀ v u, Rep G w v u → Rep G' w (frz b xs v) u := by
  have f0 : ∀ v u, Rep G w v u → Rep G' w (frz0 b xs v) u := by
    intro v u hr
    have hr' := hr.mono hl
    by_cases hv : ∃ off n, v = .hsl b off n
    · obtain ⟨off, n, rfl⟩ := hv
      simp only [frz0, if_true]
      exact h0 off n u hr
    · have : frz0 b xs v = v := by
        cases v <;> first | rfl | skip
        rename_i b' off n
        simp only [frz0]
        rw [if_neg (fun e => hv ⟨off, n, by rw [e]⟩)]
      rw [this]; exact hr'
  have f1 : ∀ v u, Rep G w v u → Rep G' w (frz1 b xs v) u := by
    intro v u hr
    by_cases hv : ∃ cs, v = .agg cs
    · obtain ⟨cs, rfl⟩ := hv
      cases hr with
      | agg _ vs hs h =>
        refine .agg _ vs (by simpa using hs) fun i c v hc hv => ?_
        rw [List.getElem?_map] at hc
        obtain ⟨c', hc', rfl⟩ := Option.map_eq_some_iff.1 hc
        exact f0 _ _ (h i c' v hc' hv)
    · have : frz1 b xs v = frz0 b xs v := by cases v <;> first | rfl | exact absurd ⟨_, rfl⟩ hv
      rw [this]; exact f0 v u hr
  intro v u hr
  by_cases hv : ∃ cs, v = .tup cs
  · obtain ⟨cs, rfl⟩ := hv
    cases hr with
    | tup _ vs hs h =>
      refine .tup _ vs (by simpa using hs) fun i c v hc hv => ?_
      rw [List.getElem?_map] at hc
      obtain ⟨c', hc', rfl⟩ := Option.map_eq_some_iff.1 hc
      exact f1 _ _ (h i c' v hc' hv)
  · have : frz b xs v = frz1 b xs v := by cases v <;> first | rfl | exact absurd ⟨_, rfl⟩ hv
    rw [this]; exact f1 v u hr
theorem SimW.freeze {G σ w b xs} (h : SimW G σ w) (hb : σ.sl b = some xs) : ∃ G', Le G w G' w ∧ SimW G' (σ.dropSl b) w ∧ ∀ v u, Rep G w v u → Rep G' w (frz b xs v) u := by
  rcases h.sl b xs hb with ⟨g1, rfl⟩ | ⟨β, o, s, cap, arr, el, g1, g2, g3, g4, g5, g6⟩
  · refine ⟨G, Le.refl _ _, h.less (dropSl_le σ b), frz_rep (Le.refl _ _) fun off n u hr => ?_⟩
    cases hr with
    | hsl _ _ _ β o s cap g hle => rw [g1] at g; cases g
    | hend _ _ a β o s cap g hle => rw [g1] at g; cases g
    | hnil _ a g => simp only [List.length_nil, Nat.add_zero, Nat.le_refl, if_true, List.drop_nil, List.take_nil]; exact .vnil _ _
  · have ho : Owns G σ β (2, b) := .sl b β _ xs hb g1
    have hbase := (h.own _ _ ho).1
    have hl : Le G w (G.addSt fun γ _ => γ = β) w := ⟨rfl, fun _ _ e => e, fun _ _ e => e, fun _ _ e => e, fun _ _ e => .inl e, fun γ _ e => e.imp id fun (e : γ = β) => e ▸ hbase, fun _ _ _ => rfl, Below.refl _ _⟩
    refine ⟨_, hl, ?_, frz_rep hl fun off n u hr => ?_⟩
    · have hw := h.less (dropSl_le σ b)
      have hown : ∀ γ k, Owns (G.addSt fun γ _ => γ = β) (σ.dropSl b) γ k → Owns G (σ.dropSl b) γ k := by
        intro γ k hk
        cases hk with
        | bx b' β' cs2 h2 g2 => exact .bx _ _ cs2 h2 g2
        | mp b' β' cs2 h2 g2 => exact .mp _ _ cs2 h2 g2
        | sl b' β' r cs2 h2 g2 => exact .sl _ _ r cs2 h2 g2
      have hup : ∀ γ k, Owns G (σ.dropSl b) γ k → Owns G σ γ k := by
        intro γ k hk
        cases hk with
        | bx b' β' cs2 h2 g2 => exact .bx _ _ cs2 ((dropSl_le σ b).bx _ _ h2) g2
        | mp b' β' cs2 h2 g2 => exact .mp _ _ cs2 ((dropSl_le σ b).mp _ _ h2) g2
        | sl b' β' r cs2 h2 g2 => exact .sl _ _ r cs2 ((dropSl_le σ b).sl _ _ h2) g2
      refine ⟨hw.base, fun b' cs e => (hw.bx b' cs e).mono hl fun _ _ => rfl, fun b' cs e => (hw.mp b' cs e).mono hl fun _ _ => rfl, fun b' cs e => (hw.sl b' cs e).mono hl fun _ _ _ => rfl, fun γ k hk => ?_, fun γ o e => ?_, hw.fresh⟩
      · have hk1 := hown γ k hk
        refine ⟨(hw.own γ k hk1).1, fun k' hk' => (hw.own γ k hk1).2.1 k' (hown _ _ hk'), fun o e => ?_⟩
        rcases e with e | e
        · exact (hw.own γ k hk1).2.2 o e
        · subst e
          have hk2 := (h.own γ _ ho).2.1 _ (hup _ _ hk1)
          subst hk2
          cases hk1 with
          | sl b' β' r cs2 h2 g2 => simp [ASt.dropSl] at h2
      · rcases e with e | e
        · exact h.stIn _ _ e
        · subst e; exact h.own_lt ho
    · split
      · rename_i hin
        cases hr with
        | hsl _ _ _ β' o' s' cap' g hle =>
          obtain ⟨rfl, rfl, rfl, rfl⟩ : β = β' ∧ o = o' ∧ s = s' ∧ cap = cap' := by rw [g] at g1; simpa using g1.symm
          have hlen : ((xs.drop off).take n).length = n := by simp; omega
          have hc0 : n ≤ cap - off := by omega
          have hc1 : ((xs.drop off).take n).length ≤ cap - off := by rw [hlen]; exact hc0
          have hin2 : ∀ i j c, rowCell ((xs.drop off).take n) i j = some c → rowCell xs (off + i) j = some c ∧ o + (off + i) * s + j < arr.size := by
            intro i j c hc
            obtain ⟨hc2, hi⟩ := rowCell_seg _ _ _ _ _ _ hc
            obtain ⟨h1, h2, h3⟩ := rowCell_lt hc2 g5
            have : xs.length * s ≤ cap * s := Nat.mul_le_mul_right _ g3.2
            exact ⟨hc2, by omega⟩
          have key := Rep.vsl (G := G.addSt fun γ _ => γ = β) (w := w) ((xs.drop off).take n) β (o + off * s) s (cap - off) (fun i j => arr.getD (o + (off + i) * s + j) undef) hc1 (fun i x hx => by
            rw [List.getElem?_take] at hx
            split at hx
            · rw [List.getElem?_drop] at hx; exact g5 _ _ hx
            · cases hx) (fun i j c hc => ⟨.inr rfl, by
            obtain ⟨_, hlt⟩ := hin2 i j c hc
            have e : o + off * s + i * s + j = o + (off + i) * s + j := by rw [Nat.add_mul]; omega
            rw [cell_of_heap g2, e]
            simp [hlt]⟩) (fun i j c hc => by
            obtain ⟨hc2, hlt⟩ := hin2 i j c hc
            have := g6 (off + i) j c _ hc2 (Array.getElem?_eq_getElem hlt)
            simp only [Array.getD, hlt, dif_pos]
            exact this.mono hl)
          rw [hlen] at key; exact key
        | hend _ _ a β' o' s' cap' g hle => simp only [List.take_zero]; exact .vnil _ _
        | hnil _ a g => simp only [List.take_zero]; exact .vnil _ _
      · exact .any _
theorem Fin.freeze {r : AV} {b : Nat} {xs : List AV} (hb : σ.sl b = some xs) (h : Fin R (frz b xs r) (σ.dropSl b)) : Fin R r σ := by
  intro G w v hw hr
  obtain ⟨G', h1, h2, h3⟩ := hw.freeze hb
  obtain ⟨r', G2, σ2, k1, k2, k3, k4⟩ := h G' w v h2 (h3 _ _ hr)
  exact ⟨r', G2, σ2, h1.trans k1, k2, k3, k4⟩
theorem Sim.freeze {G D a w b xs} (hs : Sim G fr σ D a w) (hb : σ.sl b = some xs) : ∃ G', Le G w G' w ∧ Sim G' (fr.map (frz b xs)) (σ.dropSl b) D a w := by
  obtain ⟨G', h1, h2, h3⟩ := hs.w.freeze hb
  refine ⟨G', h1, ⟨by simpa using hs.tmps.1, fun i c v hc hv => ?_⟩, hs.defers, h2⟩
  rw [List.getElem?_map] at hc
  obtain ⟨c', hc', rfl⟩ := Option.map_eq_some_iff.1 hc
  exact h3 _ _ (hs.tmps.2 i c' v hc' hv)
theorem aw_freeze {c : Code} {b : Nat} {xs : List AV} (hb : σ.sl b = some xs) (h : AW P D c Q (fr.map (frz b xs)) (σ.dropSl b)) : AW P D c Q fr σ := by
  intro G a w hs
  obtain ⟨G', h1, h2⟩ := hs.freeze hb
  exact wp_mono (h G' a w h2) fun e a w h => lift_le h1 h
theorem awl_freeze {ops : Array Oper} {l : List Oper} {b : Nat} {xs : List AV} (hb : σ.sl b = some xs) (h : AWL P D ops Q l (fr.map (frz b xs)) (σ.dropSl b)) : AWL P D ops Q l fr σ := by
  intro G a w hs
  obtain ⟨G', h1, h2⟩ := hs.freeze hb
  exact wpList_weaken (fun e a w h => lift_le h1 h) l a w (h G' a w h2)
/-- A nil slice becomes one of the function's own. -/
theorem aw_open {c : Code} {i : Nat} (hi : fr[i]? = some (.p (.slice none 0 0))) (h : AW P D c Q (fr.set i (.hsl σ.next 0 0)) (σ.addSl [])) : AW P D c Q fr σ := by
  intro G a w hs
  obtain ⟨G', h1, h2, h3⟩ := new_nil hs.w w (Below.refl _ _) none
  refine wp_mono (h G' a w ⟨⟨by simpa using hs.tmps.1, fun j c v hc hv => ?_⟩, hs.defers, h2⟩) fun e a w h => lift_le h1 h
  rw [List.getElem?_set] at hc
  split at hc
  · rename_i e
    subst e
    split at hc
    · obtain rfl := Option.some.inj hc
      have := hs.tmps.2 i _ v hi hv
      cases this
      exact h3
    · cases hc
  · exact (hs.tmps.2 j c v hc hv).mono h1

/-! ### results -/
def ares (P : Program) (σ : ASt) (fr : List AV) : List ResultVar → Option (List AV)
  | [] => some []
  | .tmp t :: l => (ares P σ fr l).map fun r => fget fr t :: r
  | .cell a t :: l => (aload P σ t (fget fr a)).bind fun x => (ares P σ fr l).map fun r => x :: r
def tupOf : List AV → AV
  | [x] => x
  | l => .tup l
def resF (tmps : Array Value) : ResultVar → Sem Value
  | .tmp t => pure (tmps.getD t undef)
  | .cell x t => do loadVar t (← asAddr (tmps.getD x undef))
theorem results_eq (fn : Func) (tmps : Array Value) : results fn tmps = (do let vs ← fn.results.mapM (resF tmps); pure (if h : vs.size = 1 then vs[0] else .tuple vs)) := rfl
theorem run_results (P : Program) {G D a w} (hs : Sim G fr σ D a w) : ∀ (l : List ResultVar) (rs : List AV), ares P σ fr l = some rs →
    ∃ vs, (l.mapM (resF a.tmps)).run P w = .ok vs w ∧ RepL G w rs vs
  | [], rs, h => by
    obtain rfl := Option.some.inj h
    exact ⟨[], by simp, rfl, fun i c v h => by simp at h⟩
  | .tmp t :: l, rs, h => by
    obtain ⟨r, hr, rfl⟩ := Option.map_eq_some_iff.1 h
    obtain ⟨vs, h1, h2⟩ := run_results P hs l r hr
    refine ⟨a.tmps.getD t undef :: vs, by simp only [List.mapM_cons, Sem.run_bind, h1, resF, Sem.run_pure, Result.andThen_ok], by simpa using h2.1, fun i c v hc hv => ?_⟩
    cases i with
    | zero =>
      simp only [List.getElem?_cons_zero, Option.some.injEq] at hc hv
      subst hc; subst hv
      exact hs.ev (.tmp t)
    | succ i => exact h2.2 i c v (by simpa using hc) (by simpa using hv)
  | .cell x t :: l, rs, h => by
    obtain ⟨y, hy, h⟩ := Option.bind_eq_some_iff.1 h
    obtain ⟨r, hr, rfl⟩ := Option.map_eq_some_iff.1 h
    obtain ⟨vs, h1, h2⟩ := run_results P hs l r hr
    simp only [aload, Option.bind_eq_some_iff] at hy
    obtain ⟨⟨n, g⟩, hn, ⟨cs, off⟩, hc, hl⟩ := hy
    obtain ⟨β, o, hv, hcs⟩ := acells_spec hc hs.w (hs.ev (.tmp x))
    obtain ⟨v, k1, k2⟩ := run_loadVar_of hn hl hcs
    have hv : a.tmps.getD x undef = .pointer (some ⟨β, o + off, none⟩) := hv
    refine ⟨v :: vs, by simp only [List.mapM_cons, Sem.run_bind, h1, resF, hv, asAddr, k1, Sem.run_pure, Result.andThen_ok], by simpa using h2.1, fun i c u hc hu => ?_⟩
    cases i with
    | zero =>
      simp only [List.getElem?_cons_zero, Option.some.injEq] at hc hu
      subst hc; subst hu
      exact k2
    | succ i => exact h2.2 i c u (by simpa using hc) (by simpa using hu)
theorem aresults_of {fn : Func} {rs : List AV} (h : ares P σ fr fn.results.toList = some rs) : AResults P fn fr σ (tupOf rs) := by
  intro G D a w hs
  obtain ⟨vs, h1, h2⟩ := run_results P hs _ rs h
  have hrun : (results fn a.tmps).run P w = .ok (if hh : vs.toArray.size = 1 then vs.toArray[0] else .tuple vs.toArray) w := by
    rw [results_eq]
    simp only [Sem.run_bind, Array.mapM_eq_mapM_toList, Sem.run_map]
    rw [h1]
    rfl
  refine ⟨_, hrun, ?_⟩
  cases vs with
  | nil =>
    cases rs with
    | nil => exact .tup [] #[] rfl fun i c v h => by simp at h
    | cons _ _ => cases h2.1
  | cons v vs =>
    cases rs with
    | nil => cases h2.1
    | cons r rs =>
      cases vs with
      | nil =>
        cases rs with
        | nil => simpa [tupOf] using h2.2 0 r v rfl rfl
        | cons _ _ => have := h2.1; simp at this
      | cons v' vs =>
        cases rs with
        | nil => have := h2.1; simp at this
        | cons r' rs =>
          simp only [tupOf, List.size_toArray, List.length_cons]
          rw [dif_neg (by omega)]
          exact .tup _ _ (by simpa using h2.1) fun i c u hc hu => h2.2 i c u hc (by simpa using hu)
theorem ret_of {fn : Func} {e : Exit} (he : e = .normal ∨ e = .ret) {rs : List AV} (h : ares P σ fr fn.results.toList = some rs) (hf : Fin R (tupOf rs) σ) : RetQ P fn R e fr σ := by
  rcases he with rfl | rfl <;> exact ⟨_, aresults_of h, hf⟩

/-! ### calls -/
def callable (P : Program) (f : FuncId) : Bool := match P.funcs[f]? with | some fn => !(fn.name == "runtime.NumGoroutine") && fn.body.isSome | none => false
theorem run_callFunc {f : FuncId} (h : callable P f = true) (args : Array Value) (w : World) : (callFunc f args).run P w = .ok (.enter f args) w := by
  unfold callable at h
  cases hf : P.funcs[f]? with
  | none => rw [hf] at h; cases h
  | some fn =>
    rw [hf] at h
    simp only [Bool.and_eq_true, Bool.not_eq_true'] at h
    have hb : fn.body.isNone = false := by cases hb : fn.body <;> simp_all
    simp only [callFunc, Sem.run_bind, run_program, Result.andThen_ok, hf, h.1, hb, Bool.false_eq_true, if_false]
    rfl
def acallee : AV → Option (FuncId × List AV × List AV)
  | .p (.func (.func f) us vs) => if us.size = 0 ∧ vs.size = 0 then some (f, [], []) else none
  | .fn (.func f) aa bs => some (f, aa, bs)
  | _ => none
theorem RepL.append {G w aa us bs vs} (h1 : RepL G w aa us) (h2 : RepL G w bs vs) : RepL G w (aa ++ bs) (us ++ vs) := by
  refine ⟨by simp [h1.1, h2.1], fun i c v hc hv => ?_⟩
  rw [List.getElem?_append] at hc hv
  rw [← h1.1] at hv
  split at hc
  · rename_i hi; rw [if_pos hi] at hv; exact h1.2 i c v hc hv
  · rename_i hi; rw [if_neg hi] at hv; exact h2.2 _ c v hc hv
theorem opq_call {f : Operand} {aa : Array Operand} {ts : Array TypeId} (ho : o.op = .call { callee := .value f, args := aa, argTypes := ts }) {F : FuncId} {first cap : List AV} (hf : acallee (ρ f) = some (F, first, cap)) (hc : callable P F = true)
    (h : ACall P F (first ++ aa.toList.map ρ ++ cap) σ R) : OpQ P o ρ σ R := by
  intro G e w he hw
  have hrf := he f
  generalize ρ f = cf at hf hrf
  generalize hvf : e f = vf at hrf
  have hargs : RepL G w (aa.toList.map ρ) (aa.toList.map e) := ⟨by simp, fun i c v hc hv => by
    simp only [List.getElem?_map, Option.map_eq_some_iff] at hc hv
    obtain ⟨a, ha, rfl⟩ := hc
    obtain ⟨b, hb, rfl⟩ := hv
    obtain rfl := Option.some.inj (ha.symm.trans hb)
    exact he _⟩
  have go : ∀ us vs : Array Value, vf = .func (.func F) us vs → RepL G w first us.toList → RepL G w cap vs.toList → OutcN P G w R ((execOp e o).run P w) := by
    intro us vs hv h1 h2
    subst hv
    simp only [execOp, ho, resolve, hvf, Deferred.ofValue, Sem.run_bind, Sem.run_pure, Result.andThen_ok, invoke, run_callFunc hc]
    refine h G w _ ?_ hw
    simpa [List.append_assoc] using (h1.append (hargs.append h2))
  cases hrf with
  | p =>
    cases vf with
    | func q us vs =>
      cases q with
      | func q =>
        obtain ⟨⟨u0, v0⟩, hf⟩ := ite_some' hf
        simp only [Option.some.injEq, Prod.mk.injEq] at hf
        obtain ⟨rfl, rfl, rfl⟩ := hf
        have hu := Array.eq_empty_of_size_eq_zero u0
        have hv := Array.eq_empty_of_size_eq_zero v0
        exact go us vs rfl (by subst hu; exact ⟨rfl, fun i c v h => by simp at h⟩) (by subst hv; exact ⟨rfl, fun i c v h => by simp at h⟩)
      | _ => cases hf
    | _ => cases hf
  | fn q as' bs' us vs h1 h2 h3 h4 =>
    cases q with
    | func q =>
      simp only [acallee, Option.some.injEq, Prod.mk.injEq] at hf
      obtain ⟨rfl, rfl, rfl⟩ := hf
      exact go us vs rfl ⟨by simpa using h1, fun i c v hc hv => h3 i c v hc (by simpa using hv)⟩ ⟨by simpa using h2, fun i c v hc hv => h4 i c v hc (by simpa using hv)⟩
    | _ => cases hf
  | _ => cases hf
end Go.AL
/-! `==` of structs. -/
namespace Go.AL
open Go.RowKit (Below)
set_option linter.unusedVariables false
set_option linter.unusedSimpArgs false

variable {P : Program} {o : Oper} {ρ : Operand → AV} {σ : ASt} {R : AV → ASt → Prop}

/-- What kind of type it is, for `==`. -/
def tleaf (P : Program) (t : TypeId) : Nat :=
  match P.underlying t with
  | some .bool => 1
  | some (.int _) => 2
  | some .string => 3
  | _ => 0
/-- The parts of a struct that may be compared. -/
def tflds (P : Program) (t : TypeId) : Option (List (TypeId × Nat)) :=
  match P.underlying t with
  | some (.struct fs) => if P.stoodInHeld t = false ∧ fs.toList.all (fun f => f.name != "_") = true then some (fs.toList.map fun f => (f.type, f.offset)) else none
  | _ => none
def teqok (P : Program) (t : TypeId) : Bool := !P.eqGuardType P.depth t
def aeqL (P : Program) (E : TypeId → AV → AV → Option Bool) (xs ys : List AV) : List (TypeId × Nat) → Option Bool
  | [] => some true
  | f :: fs => (tsize P f.1).bind fun ng => (aloadC xs f.2 ng.1 ng.2).bind fun a => (aloadC ys f.2 ng.1 ng.2).bind fun b => (E f.1 a b).bind fun r => (aeqL P E xs ys fs).map fun s => r && s
def aeqF (P : Program) : Nat → TypeId → AV → AV → Option Bool
  | 0, _, _, _ => none
  | d + 1, t, x, y =>
    match x, y with
    | .p (.int k a), .p (.int k' b) => if tleaf P t = 2 ∧ k = k' then some (decide (a = b)) else none
    | .p (.string a), .p (.string b) => if tleaf P t = 3 then some (decide (a = b)) else none
    | .p (.bool a), .p (.bool b) => if tleaf P t = 1 then some (a == b) else none
    | .agg xs, .agg ys => (tflds P t).bind (aeqL P (aeqF P d) xs ys)
    | _, _ => none
theorem tleaf_spec {t : TypeId} {k : Nat} (h : tleaf P t = k) (hk : k ≠ 0) : ∃ d, P.underlying t = some d ∧ ((k = 1 ∧ d = .bool) ∨ (k = 2 ∧ ∃ e, d = .int e) ∨ (k = 3 ∧ d = .string)) := by
  unfold tleaf at h
  split at h <;> rename_i hd
  · exact ⟨_, hd, by simp [← h]⟩
  · exact ⟨_, hd, by simp [← h]⟩
  · exact ⟨_, hd, by simp [← h]⟩
  · exact absurd h.symm hk
theorem aeqL_spec {G : Ghost} {w : World} {d : Nat} {E : TypeId → AV → AV → Option Bool} {xs ys : List AV} {us vs : Array Value}
    (hE : ∀ t x y r u v, E t x y = some r → Rep G w x u → Rep G w y v → (Op.equalIn d t u v).run P w = .ok r w)
    (h1 : xs.length = us.size) (h2 : ∀ (i : Nat) c v, xs[i]? = some c → us[i]? = some v → Rep G w c v) (h3 : ys.length = vs.size) (h4 : ∀ (i : Nat) c v, ys[i]? = some c → vs[i]? = some v → Rep G w c v) :
    ∀ (fs : List Field) (r : Bool), fs.all (fun f => f.name != "_") = true → aeqL P E xs ys (fs.map fun f => (f.type, f.offset)) = some r → (Op.eqFields d us vs fs).run P w = .ok r w
  | [], r, _, h => by
    obtain rfl := Option.some.inj h
    simp [Op.eqFields]
  | f :: fs, r, hn, h => by
    simp only [List.all_cons, Bool.and_eq_true, bne_iff_ne, ne_eq] at hn
    simp only [List.map_cons, aeqL, Option.bind_eq_some_iff, Option.map_eq_some_iff] at h
    obtain ⟨⟨n, g⟩, ht, a, ha, b, hb, r1, hr1, s, hs, rfl⟩ := h
    obtain ⟨u, hu, hu2⟩ := run_part_of ht ha h1 h2
    obtain ⟨v, hv, hv2⟩ := run_part_of ht hb h3 h4
    have e1 := hE _ _ _ _ _ _ hr1 hu2 hv2
    have e2 := aeqL_spec hE h1 h2 h3 h4 fs s hn.2 hs
    rw [Op.eqFields]
    simp only [if_pos (show f.name ≠ "_" from hn.1), Sem.run_bind, hu, hv, e1, Result.andThen_ok]
    cases r1
    · simp
    · simpa using e2
theorem aeqF_spec {G : Ghost} {w : World} : ∀ (d D : Nat), d ≤ D → ∀ (t : TypeId) (x y : AV) (r : Bool) (u v : Value), aeqF P d t x y = some r → Rep G w x u → Rep G w y v → (Op.equalIn D t u v).run P w = .ok r w
  | 0, _, _, _, _, _, _, _, _, h, _, _ => by cases h
  | d + 1, 0, hd, _, _, _, _, _, _, _, _, _ => by omega
  | d + 1, D + 1, hd, t, x, y, r, u, v, h, hx, hy => by
    unfold aeqF at h
    split at h
    · obtain ⟨⟨ht, rfl⟩, h0⟩ := ite_some' h
      obtain ⟨e, he, hk⟩ := tleaf_spec ht (by simp)
      obtain ⟨q, rfl⟩ : ∃ q, e = .int q := by simpa using hk
      obtain rfl := Option.some.inj h0
      clear h
      cases hx; cases hy
      rename_i k a b
      have hb : (a == b) = decide (a = b) := rfl
      simp only [Op.equalIn, Sem.run_bind, run_underlying' he, Result.andThen_ok, if_true, hb]
      rfl
    · obtain ⟨ht, h0⟩ := ite_some' h
      obtain ⟨e, he, hk⟩ := tleaf_spec ht (by simp)
      obtain rfl : e = .string := by simpa using hk
      obtain rfl := Option.some.inj h0
      clear h
      cases hx; cases hy
      rename_i a b
      have hb : (a == b) = decide (a = b) := by rw [beq_toListBytes, beq_toList]
      simp only [Op.equalIn, Sem.run_bind, run_underlying' he, Result.andThen_ok, hb]
      rfl
    · obtain ⟨ht, h0⟩ := ite_some' h
      obtain ⟨e, he, hk⟩ := tleaf_spec ht (by simp)
      obtain rfl : e = .bool := by simpa using hk
      obtain rfl := Option.some.inj h0
      clear h
      cases hx; cases hy
      simp only [Op.equalIn, Sem.run_bind, run_underlying' he, Result.andThen_ok]
      rfl
    · rename_i xs ys
      simp only [Option.bind_eq_some_iff] at h
      obtain ⟨fl, hfl, h⟩ := h
      unfold tflds at hfl
      split at hfl
      · rename_i fs hu
        obtain ⟨⟨hs, hn⟩, hf0⟩ := ite_some' hfl
        obtain rfl := Option.some.inj hf0
        cases hx with
        | agg _ us h1 h2 =>
          cases hy with
          | agg _ vs h3 h4 =>
            have hf : P.fieldsOf t = fs := by simp [Program.fieldsOf, hu]
            rw [run_equalIn_struct w D t us vs (by rw [hf]; exact hu) hs, hf]
            exact aeqL_spec (fun t x y r u v h hx hy => aeqF_spec d D (by omega) t x y r u v h hx hy) h1 h2 h3 h4 fs.toList r hn h
      · cases hfl
    · cases h
theorem run_eqGuard_agg {op : BinOp} {t : TypeId} {x y : Operand} {a b : Array Value} (h : teqok P t = true) (w : World) : (eqGuard op t x y (.agg a) (.agg b)).run P w = .ok () w := by
  have h' : P.eqGuardType P.depth t = false := by simpa [teqok] using h
  unfold eqGuard
  cases op <;> first
    | rfl
    | simp [h']
def afcmp (op : BinOp) (k : FloatKind) (x y : Nat) : Option Value :=
  match op with
  | .eql => some (.bool (k.format.order x y == some .eq))
  | .neq => some (.bool (k.format.order x y != some .eq))
  | .lss => some (.bool (k.format.order x y == some .lt))
  | .leq => some (.bool (k.format.order x y == some .lt || k.format.order x y == some .eq))
  | .gtr => some (.bool (k.format.order x y == some .gt))
  | .geq => some (.bool (k.format.order x y == some .gt || k.format.order x y == some .eq))
  | _ => none
theorem run_binOp_fcmp {op : BinOp} {k : FloatKind} {a b : Nat} {t : TypeId} {v : Value} (h : afcmp op k a b = some v) (w : World) : (binOp op t (.float k a) (.float k b)).run P w = .ok v w := by
  have hk : ∀ s, (if k ≠ k then (stuck "BinOp: operands of different kinds" : Sem Value) else s) = s := fun s => if_neg (by simp)
  cases op <;> simp only [afcmp, Option.some.injEq, reduceCtorEq] at h <;> (subst h; simp only [binOp, hk]; rfl)
/-- As `abin`, and structs, too. -/
def abinS (P : Program) (op : BinOp) (t : TypeId) (x y : AV) : Option Value :=
  match x, y with
  | .agg xs, .agg ys => if teqok P t = true then (match op with | .eql => (aeqF P 20 t (.agg xs) (.agg ys)).map .bool | .neq => (aeqF P 20 t (.agg xs) (.agg ys)).map fun b => .bool !b | _ => none) else none
  | .p (.float k a), .p (.float k' b) => if k = k' then afcmp op k a b else none
  | x, y => abin P op t x y
theorem opq_binOpS {op : BinOp} {t t2 : TypeId} {x y : Operand} (ho : o.op = .binOp op t x y t2) {v : Value} (h : abinS P op t (ρ x) (ρ y) = some v) (hc : tkind P t = 3 → isConstO y = true) (hr : R (.p v) σ) : OpQ P o ρ σ R := by
  unfold abinS at h
  split at h
  · rename_i xs ys hxe hye
    obtain ⟨ht, h⟩ := ite_some' h
    refine opq_v (s := fun e => do eqGuard op t x y (e x) (e y); binOp op t (e x) (e y)) (fun e => by simp only [execOp, ho]) (.p v) hr fun G e w he hw => ⟨v, ?_, .p v⟩
    have hx := he x
    have hy := he y
    rw [hxe] at hx
    rw [hye] at hy
    generalize e x = vx at hx
    generalize e y = vy at hy
    cases hx with
    | agg _ us h1 h2 =>
      cases hy with
      | agg _ vs h3 h4 =>
        simp only [Sem.run_bind, run_eqGuard_agg ht, Result.andThen_ok]
        split at h
        · simp only [Option.map_eq_some_iff] at h
          obtain ⟨r, hq, rfl⟩ := h
          have := aeqF_spec (P := P) (G := G) (w := w) 20 Op.maxDepth (by decide) t _ _ r _ _ hq (.agg _ us h1 h2) (.agg _ vs h3 h4)
          simp [binOp, Op.equal, this]
        · simp only [Option.map_eq_some_iff] at h
          obtain ⟨r, hq, rfl⟩ := h
          have := aeqF_spec (P := P) (G := G) (w := w) 20 Op.maxDepth (by decide) t _ _ r _ _ hq (.agg _ us h1 h2) (.agg _ vs h3 h4)
          simp [binOp, Op.equal, this]
        · cases h
  · rename_i k a k' b hxe hye
    obtain ⟨rfl, h0⟩ := ite_some' h
    refine opq_v (s := fun e => do eqGuard op t x y (e x) (e y); binOp op t (e x) (e y)) (fun e => by simp only [execOp, ho]) (.p v) hr fun G e w he hw => ⟨v, ?_, .p v⟩
    have hx := he x
    have hy := he y
    rw [hxe] at hx
    rw [hye] at hy
    generalize e x = vx at hx
    generalize e y = vy at hy
    cases hx; cases hy
    simp only [Sem.run_bind]
    rw [run_eqGuard (by intros; contradiction) (by intros; contradiction)]
    exact run_binOp_fcmp h0 w
  · exact opq_binOp ho h hc hr
end Go.AL
/-! Strings to bytes, and back. -/
namespace Go.AL
open Go.RowKit (Below)
set_option linter.unusedVariables false
set_option linter.unusedSimpArgs false

variable {P : Program} {o : Oper} {ρ : Operand → AV} {σ : ASt} {R : AV → ASt → Prop}

def isBytes (P : Program) (t : TypeId) : Bool :=
  match P.underlying t with
  | some (.slice e) => match P.underlying e with | some (.int .u8) => true | _ => false
  | _ => false
theorem isBytes_spec {t : TypeId} (h : isBytes P t = true) : ∃ e, P.underlying t = some (.slice e) ∧ P.underlying e = some (.int .u8) := by
  unfold isBytes at h
  split at h
  · split at h
    · exact ⟨_, by assumption, by assumption⟩
    · cases h
  · cases h
/-- A byte. -/
abbrev vbyte (b : UInt8) : AV := .p (.int .u8 b.toNat)
def bytesAV (l : List UInt8) : AV := .vsl (l.map vbyte)
/-- The bytes that these are. -/
def bytesOf : List AV → Option (List Int)
  | [] => some []
  | .p (.int .u8 n) :: l => (bytesOf l).map fun r => n :: r
  | _ => none
def strOf (l : List Int) : ByteArray := ⟨(l.map fun n => UInt8.ofNat n.toNat).toArray⟩
def aconvA (P : Program) (s d : TypeId) (x : AV) : Option AV :=
  match x with
  | .vsl xs => if isBytes P s = true ∧ isString P d = true then (bytesOf xs).map fun l => .p (.string (strOf l)) else none
  | .p (.slice none _ _) => if isBytes P s = true ∧ isString P d = true then some (.p (.string ⟨#[]⟩)) else none
  | .p (.string t) => if isString P s = true ∧ isBytes P d = true then some (bytesAV t.data.toList) else (aconv P s d x).map .p
  | x => (aconv P s d x).map .p
theorem below_bytes (w : World) (e : TypeId) (s : ByteArray) : Below w.heap.size w (Lib.bytesWorld w e s) := by
  refine ⟨?_, ?_, ?_, ?_, fun i hi => Lib.bytesWorld_at_old w e s i hi⟩
  · simp [Lib.bytesWorld, World.freeze]; rfl
  · simp [Lib.bytesWorld, World.freeze]
  · simp [Lib.bytesWorld, World.freeze]; rfl
  · rw [Lib.bytesWorld_size]; omega
theorem bytesOf_spec : ∀ (xs : List AV) (l : List Int), bytesOf xs = some l → xs = l.map fun n => .p (.int .u8 n)
  | [], l, h => by obtain rfl := Option.some.inj h; rfl
  | .p (.int .u8 n) :: xs, l, h => by
    simp only [bytesOf, Option.map_eq_some_iff] at h
    obtain ⟨r, hr, rfl⟩ := h
    rw [bytesOf_spec xs r hr]; rfl
theorem foldl_push_ints : ∀ (l : List Int) (r : ByteArray), l.foldl (fun r n => r.push (UInt8.ofNat n.toNat)) r = ⟨r.data ++ (l.map fun n => UInt8.ofNat n.toNat).toArray⟩
  | [], r => by simp
  | b :: l, r => by
    simp only [List.map_cons, List.foldl_cons]
    rw [foldl_push_ints l]
    simp [ByteArray.push]
theorem opq_convertA {src dst : TypeId} {x : Operand} (ho : o.op = .convert src dst x) {r : AV} (h : aconvA P src dst (ρ x) = some r) (hr : R r σ) : OpQ P o ρ σ R := by
  unfold aconvA at h
  split at h
  · rename_i xs hxe
    obtain ⟨⟨hb, hs⟩, h0⟩ := ite_some' h
    simp only [Option.map_eq_some_iff] at h0
    obtain ⟨l, hl, rfl⟩ := h0
    have hxs := bytesOf_spec xs l hl
    obtain ⟨el, h1, h2⟩ := isBytes_spec hb
    have h3 := isString_spec hs
    refine opq_v (s := fun e => convert src dst (e x)) (fun e => by simp only [execOp, ho]) _ hr fun G e w he hw => ⟨.string (strOf l), ?_, .p _⟩
    have hx := he x
    rw [hxe] at hx
    generalize e x = vx at hx
    cases hx with
    | vnil n c =>
      have : l = [] := by simpa using hxs.symm
      subst this
      simp only [convert, Sem.run_bind, run_underlying' h1, run_underlying' h2, run_underlying' h3, Result.andThen_ok]
      cases n with
      | none => rfl
      | some a =>
        have := run_bytesToString (P := P) w a 0 c [] (run_loadCells_list w a [] (fun j v hj => by simp at hj))
        rw [this]
        rfl
    | vsl _ β o s cap val hcap hs h hr =>
      subst hxs
      rw [List.length_map, run_convert_bytes_string w src dst el _ _ cap h1 h2 h3]
      have hs1 : ∀ i, i < l.length → s = 1 := fun i hi => by
        have := hs i (.p (.int .u8 l[i])) (by simp [hi])
        simpa [AV.cells] using this.symm
      have hL := run_loadCells_list (P := P) w ⟨β, o, none⟩ (l.map (Value.int .u8)) (fun j v hj => by
        simp only [List.getElem?_map, Option.map_eq_some_iff] at hj
        obtain ⟨n, hn, rfl⟩ := hj
        have hlt := (List.getElem?_eq_some_iff.1 hn).1
        have hc : rowCell (l.map fun n => AV.p (.int .u8 n)) j 0 = some (.p (.int .u8 n)) := by simp [rowCell, hn, AV.cells]
        have e1 := (h j 0 _ hc).2
        have e2 := hr j 0 _ hc
        generalize val j 0 = u at e1 e2
        cases e2
        rw [hs1 j hlt] at e1
        unfold Addr.add
        simp only [Nat.mul_one, Nat.add_zero] at e1
        split
        · rename_i h0; subst h0; simpa using e1
        · exact e1)
      simp only [List.length_map] at hL ⊢
      rw [run_bytesToString w ⟨β, o, none⟩ l.length cap _ hL, foldl_push_ints]
      have he0 : ByteArray.empty.data = #[] := rfl
      rw [he0]
      simp [strOf]
  · rename_i n c hxe
    obtain ⟨⟨hb, hs⟩, h0⟩ := ite_some' h
    obtain rfl := Option.some.inj h0
    obtain ⟨el, h1, h2⟩ := isBytes_spec hb
    have h3 := isString_spec hs
    refine opq_v (s := fun e => convert src dst (e x)) (fun e => by simp only [execOp, ho]) _ hr fun G e w he hw => ⟨.string ⟨#[]⟩, ?_, .p _⟩
    have hx := he x
    rw [hxe] at hx
    generalize e x = vx at hx
    cases hx
    simp only [convert, Sem.run_bind, run_underlying' h1, run_underlying' h2, run_underlying' h3, Result.andThen_ok]
    rfl
  · rename_i t hxe
    split at h
    · rename_i hc
      obtain rfl := Option.some.inj h
      have hs := isString_spec hc.1
      obtain ⟨el, h1, h2⟩ := isBytes_spec hc.2
      intro G e w he hw
      have hx := he x
      rw [hxe] at hx
      simp only [execOp, ho, Sem.run_bind]
      generalize e x = vx at hx
      cases hx
      rw [Lib.run_convert_string_bytes w src dst el t hs h1 h2]
      simp only [Result.andThen_ok, Sem.run_pure]
      have hb := below_bytes w el t
      have hl := Le.addSt hw hb (fun β _ => β = w.heap.size) fun β o e => by subst e; exact Nat.le_refl _
      refine ⟨bytesAV t.data.toList, _, σ, hl, hw.addSt hb _ (fun β o e => by subst e; exact ⟨Nat.le_refl _, by rw [Lib.bytesWorld_size]; omega⟩), ?_, hr⟩
      have hlen : (t.data.toList.map vbyte).length = t.size := by simp
      have := Rep.vsl (G := G.addSt fun β _ => β = w.heap.size) (w := Lib.bytesWorld w el t) (t.data.toList.map vbyte) w.heap.size 0 1 (grownCap w t.size 0 el) (fun i _ => .int .u8 (t.data.toList.getD i 0).toNat) (by rw [hlen]; exact grownCap_ge _ _ _ _)
        (fun i x hx => by
          simp only [List.getElem?_map, Option.map_eq_some_iff] at hx
          obtain ⟨b, _, rfl⟩ := hx
          rfl) (fun i j c hc => by
          unfold rowCell at hc
          obtain ⟨y, hy, hj⟩ := Option.bind_eq_some_iff.1 hc
          simp only [List.getElem?_map, Option.map_eq_some_iff] at hy
          obtain ⟨b, hb, rfl⟩ := hy
          have hi := (List.getElem?_eq_some_iff.1 hb).1
          cases j with
          | succ j => cases hj
          | zero =>
            refine ⟨.inr rfl, ?_⟩
            have := Lib.bytesWorld_cell w el t i (by simpa using hi)
            simpa using this) (fun i j c hc => by
          unfold rowCell at hc
          obtain ⟨y, hy, hj⟩ := Option.bind_eq_some_iff.1 hc
          simp only [List.getElem?_map, Option.map_eq_some_iff] at hy
          obtain ⟨b, hb, rfl⟩ := hy
          cases j with
          | succ j => cases hj
          | zero =>
            obtain rfl := Option.some.inj hj
            simp only [List.getD, hb, Option.getD_some]
            exact .p _)
      rw [hlen] at this
      exact this
    · simp only [Option.map_eq_some_iff] at h
      obtain ⟨v, hv, rfl⟩ := h
      exact opq_convert ho (by first | exact hv | (rw [hxe]; exact hv)) hr
  · simp only [Option.map_eq_some_iff] at h
    obtain ⟨v, hv, rfl⟩ := h
    exact opq_convert ho hv hr
end Go.AL
/-! The run of what is plain: one function over all operations but calls. -/
namespace Go.AL
set_option linter.unusedVariables false
set_option linter.unusedSimpArgs false

variable {P : Program} {σ : ASt} {R : AV → ASt → Prop} {D : List Deferred} {Q : Exit → List AV → ASt → Prop} {fr : List AV}

def abuiltin (P : Program) (σ : ASt) (b : Builtin) (xs : List AV) (ts : List TypeId) : Option Value :=
  match b with
  | .len => match xs, ts with
    | [x], [t] => (alen P σ t x).map fun n => .int .i64 n
    | _, _ => none
  | .min => match xs with
    | [x, y] => amm false x y
    | _ => none
  | .max => match xs with
    | [x, y] => amm true x y
    | _ => none
  | _ => none
/-- What an operation makes (mu: the variables that are written). -/
def aop (P : Program) (mu : List Nat) (o : Oper) (ρ : Operand → AV) (σ : ASt) : Option (AV × ASt) :=
  match o.op with
  | .move x => some (ρ x, σ)
  | .assign x => some (ρ x, σ)
  | .pick c a b => match ρ c with | .p (.bool t) => some (apick t (ρ a) (ρ b), σ) | _ => none
  | .load t x => (aload P σ t (ρ x)).map fun r => (r, σ)
  | .field s x f => (afield P s f (ρ x)).map fun r => (r, σ)
  | .fieldAddr s x f => (afieldAddr P s f (ρ x)).map fun r => (r, σ)
  | .extract x i => match ρ x with | .tup cs => (cs[i]?).map fun r => (r, σ) | _ => none
  | .makeInterface t x => if isIface P t = false then some (.ifc t (ρ x), σ) else none
  | .nilCheck x => if anilCheck (ρ x) = true then some (ρ x, σ) else none
  | .binOp op t x y _ => if tkind P t = 3 → isConstO y = true then (abinS P op t (ρ x) (ρ y)).map fun r => (.p r, σ) else none
  | .unOp op _ x => (aun op (ρ x)).map fun r => (.p r, σ)
  | .convert s d x => (aconvA P s d (ρ x)).map fun r => (r, σ)
  | .index t x i => (aindexS P t (ρ x) (ρ i)).map fun r => (.p r, σ)
  | .indexAddr t x i => (aindexAddr P σ t (ρ x) (ρ i)).map fun r => (r, σ)
  | .slice t x lo hi none => (aslice P σ t (ρ x) (lo.map ρ) (hi.map ρ)).map fun r => (r, σ)
  | .box _ x => if AV.okv (ρ x) = true then (match o.dst with | some d => if d ∈ mu then some (.ptr σ.next 0, σ.addBx (ρ x).cells) else some (.vel [ρ x] 0 0, σ) | none => none) else none
  | .alloc t => (tzero P t).bind fun z => if AV.okv z = true then (match o.dst with | some d => if d ∈ mu then some (.ptr σ.next 0, σ.addBx z.cells) else some (.vel [z] 0 0, σ) | none => none) else none
  | .store t x y => (astore P σ t (ρ x) (ρ y)).map fun τ => (.p undef, τ)
  | .build t ps => (abuild P t (ps.toList.map fun q => (q.1, ρ q.2))).map fun r => (r, σ)
  | .buildSlice t len ps => (abuildS P t len (ps.toList.map fun q => (q.1, ρ q.2))).bind fun es => match o.dst with | some d => if d ∈ mu then some (.hsl σ.next 0 es.length, σ.addSl es) else some (.vsl es, σ) | none => none
  | .makeFunc f aa bs => some (.fn f (aa.toList.map ρ) (bs.toList.map ρ), σ)
  | .call c => match c.callee with
    | .builtin b => (abuiltin P σ b (c.args.toList.map ρ) c.argTypes.toList).map fun r => (.p r, σ)
    | _ => none
  | _ => none
theorem opq_makeFunc {o : Oper} {ρ : Operand → AV} {f : Fn} {aa bs : Array Operand} (ho : o.op = .makeFunc f aa bs) (hr : R (.fn f (aa.toList.map ρ) (bs.toList.map ρ)) σ) : OpQ P o ρ σ R := by
  refine opq_val _ hr fun G e w he hw => ⟨.func f (aa.map e) (bs.map e), by simp [execOp, ho, Instr.makeFunc], .fn f _ _ _ _ (by simp) (by simp) (fun i c v hc hv => ?_) (fun i c v hc hv => ?_)⟩
  · simp only [List.getElem?_map, Option.map_eq_some_iff] at hc
    obtain ⟨a, ha, rfl⟩ := hc
    simp only [Array.getElem?_map, Option.map_eq_some_iff] at hv
    obtain ⟨b, hb, rfl⟩ := hv
    rw [Array.getElem?_toList] at ha
    obtain rfl := Option.some.inj (ha.symm.trans hb)
    exact he _
  · simp only [List.getElem?_map, Option.map_eq_some_iff] at hc
    obtain ⟨a, ha, rfl⟩ := hc
    simp only [Array.getElem?_map, Option.map_eq_some_iff] at hv
    obtain ⟨b, hb, rfl⟩ := hv
    rw [Array.getElem?_toList] at ha
    obtain rfl := Option.some.inj (ha.symm.trans hb)
    exact he _
theorem opq_builtin {o : Oper} {ρ : Operand → AV} {b : Builtin} {args : Array Operand} {ts : Array TypeId} (ho : o.op = .call { callee := .builtin b, args := args, argTypes := ts }) {v : Value} (h : abuiltin P σ b (args.toList.map ρ) ts.toList = some v) (hr : R (.p v) σ) : OpQ P o ρ σ R := by
  obtain ⟨args⟩ := args
  obtain ⟨ts⟩ := ts
  unfold abuiltin at h
  split at h
  · split at h
    · rename_i x t hx ht
      obtain ⟨n, hn, rfl⟩ := Option.map_eq_some_iff.1 h
      cases args with
      | nil => simp at hx
      | cons a args =>
        cases args with
        | nil =>
          simp only [List.map_cons, List.map_nil, List.cons.injEq, and_true] at hx ht
          subst hx
          subst ht
          exact opq_len ho hn hr
        | cons _ _ => simp at hx
    · cases h
  · split at h
    · rename_i x y hx
      cases args with
      | nil => simp at hx
      | cons a args =>
        cases args with
        | nil => simp at hx
        | cons a2 args =>
          cases args with
          | nil =>
            simp only [List.map_cons, List.map_nil, List.cons.injEq, and_true] at hx
            obtain ⟨rfl, rfl⟩ := hx
            exact opq_mm (mx := false) ho h hr
          | cons _ _ => simp at hx
    · cases h
  · split at h
    · rename_i x y hx
      cases args with
      | nil => simp at hx
      | cons a args =>
        cases args with
        | nil => simp at hx
        | cons a2 args =>
          cases args with
          | nil =>
            simp only [List.map_cons, List.map_nil, List.cons.injEq, and_true] at hx
            obtain ⟨rfl, rfl⟩ := hx
            exact opq_mm (mx := true) ho h hr
          | cons _ _ => simp at hx
    · cases h
  · cases h
theorem opq_aop {mu : List Nat} {o : Oper} {ρ : Operand → AV} {r : AV} {τ : ASt} (h : aop P mu o ρ σ = some (r, τ)) (hr : R r τ) : OpQ P o ρ σ R := by
  have one : ∀ {x : Option AV} {f : AV → AV}, (x.map fun r => (f r, σ)) = some (r, τ) → ∃ y, x = some y ∧ f y = r ∧ σ = τ := by
    intro x f h
    obtain ⟨y, hy, he⟩ := Option.map_eq_some_iff.1 h
    simp only [Prod.mk.injEq] at he
    exact ⟨y, hy, he.1, he.2⟩
  have onev : ∀ {x : Option Value}, (x.map fun r => (AV.p r, σ)) = some (r, τ) → ∃ y, x = some y ∧ AV.p y = r ∧ σ = τ := by
    intro x h
    obtain ⟨y, hy, he⟩ := Option.map_eq_some_iff.1 h
    simp only [Prod.mk.injEq] at he
    exact ⟨y, hy, he.1, he.2⟩
  unfold aop at h
  split at h <;> rename_i ho
  · simp only [Option.some.injEq, Prod.mk.injEq] at h
    obtain ⟨rfl, rfl⟩ := h
    exact opq_move (.inl ho) hr
  · simp only [Option.some.injEq, Prod.mk.injEq] at h
    obtain ⟨rfl, rfl⟩ := h
    exact opq_move (.inr ho) hr
  · split at h
    · rename_i hc
      simp only [Option.some.injEq, Prod.mk.injEq] at h
      obtain ⟨rfl, rfl⟩ := h
      exact opq_pick ho hc hr
    · cases h
  · obtain ⟨y, hy, rfl, rfl⟩ := one (f := id) h; exact opq_load ho hy hr
  · obtain ⟨y, hy, rfl, rfl⟩ := one (f := id) h; exact opq_field ho hy hr
  · obtain ⟨y, hy, rfl, rfl⟩ := one (f := id) h; exact opq_fieldAddr ho hy hr
  · split at h
    · rename_i hc
      obtain ⟨y, hy, rfl, rfl⟩ := one (f := id) h; exact opq_extract ho hc hy hr
    · cases h
  · obtain ⟨hi, h⟩ := ite_some' h
    simp only [Option.some.injEq, Prod.mk.injEq] at h
    obtain ⟨rfl, rfl⟩ := h
    exact opq_makeInterface ho hi hr
  · obtain ⟨hi, h⟩ := ite_some' h
    simp only [Option.some.injEq, Prod.mk.injEq] at h
    obtain ⟨rfl, rfl⟩ := h
    exact opq_nilCheck ho hi hr
  · obtain ⟨hi, h⟩ := ite_some' h
    obtain ⟨y, hy, rfl, rfl⟩ := onev h; exact opq_binOpS ho hy hi hr
  · obtain ⟨y, hy, rfl, rfl⟩ := onev h; exact opq_unOp ho hy hr
  · obtain ⟨y, hy, rfl, rfl⟩ := one h; exact opq_convertA ho hy hr
  · obtain ⟨y, hy, rfl, rfl⟩ := onev h; exact opq_indexS ho hy hr
  · obtain ⟨y, hy, rfl, rfl⟩ := one (f := id) h; exact opq_indexAddr ho hy hr
  · obtain ⟨y, hy, rfl, rfl⟩ := one (f := id) h; exact opq_slice ho hy hr
  · obtain ⟨hi, h⟩ := ite_some' h
    split at h
    · split at h
      · simp only [Option.some.injEq, Prod.mk.injEq] at h
        obtain ⟨rfl, rfl⟩ := h
        exact opq_box_mut ho hi hr
      · simp only [Option.some.injEq, Prod.mk.injEq] at h
        obtain ⟨rfl, rfl⟩ := h
        exact opq_box_ro ho hi hr
    · cases h
  · obtain ⟨z, hz, h⟩ := Option.bind_eq_some_iff.1 h
    obtain ⟨hi, h⟩ := ite_some' h
    split at h
    · split at h
      · simp only [Option.some.injEq, Prod.mk.injEq] at h
        obtain ⟨rfl, rfl⟩ := h
        exact opq_alloc_mut ho hz hi hr
      · simp only [Option.some.injEq, Prod.mk.injEq] at h
        obtain ⟨rfl, rfl⟩ := h
        exact opq_alloc_ro ho hz hi hr
    · cases h
  · obtain ⟨y, hy, he⟩ := Option.map_eq_some_iff.1 h
    simp only [Prod.mk.injEq] at he
    obtain ⟨rfl, rfl⟩ := he
    exact opq_store ho hy hr
  · obtain ⟨y, hy, rfl, rfl⟩ := one (f := id) h; exact opq_build ho hy hr
  · obtain ⟨es, hes, h⟩ := Option.bind_eq_some_iff.1 h
    split at h
    · split at h
      · simp only [Option.some.injEq, Prod.mk.injEq] at h
        obtain ⟨rfl, rfl⟩ := h
        exact opq_buildSlice_mut ho hes hr
      · simp only [Option.some.injEq, Prod.mk.injEq] at h
        obtain ⟨rfl, rfl⟩ := h
        exact opq_buildSlice_ro ho hes hr
    · cases h
  · simp only [Option.some.injEq, Prod.mk.injEq] at h
    obtain ⟨rfl, rfl⟩ := h
    exact opq_makeFunc ho hr
  · rename_i c
    split at h
    · rename_i b hb
      obtain ⟨y, hy, rfl, rfl⟩ := onev h
      obtain ⟨ce, args, ts⟩ := c
      have hb : ce = .builtin b := hb
      subst hb
      exact opq_builtin ho hy hr
    · cases h
  · cases h

/-- What an operation makes that leaves what is known as it is. -/
def aopP (P : Program) (o : Oper) (ρ : Operand → AV) (σ : ASt) : Option AV :=
  match o.op with
  | .store _ _ _ => none
  | _ => (aop P [] o ρ σ).map (·.1)
theorem aopP_spec {o : Oper} {ρ : Operand → AV} {r : AV} (h : aopP P o ρ σ = some r) : aop P [] o ρ σ = some (r, σ) := by
  unfold aopP at h
  split at h
  · cases h
  · rename_i hns
    obtain ⟨⟨r', τ⟩, h1, rfl⟩ := Option.map_eq_some_iff.1 h
    rw [h1]
    have : τ = σ := by
      unfold aop at h1
      split at h1
      case h_18 => rename_i t x y ho; exact absurd ho (hns t x y)
      all_goals first
        | (simp only [Option.some.injEq, Prod.mk.injEq] at h1; exact h1.2.symm)
        | (obtain ⟨y, hy, he⟩ := Option.map_eq_some_iff.1 h1; simp only [Prod.mk.injEq] at he; exact he.2.symm)
        | (split at h1 <;> first
            | (simp only [Option.some.injEq, Prod.mk.injEq] at h1; exact h1.2.symm)
            | (obtain ⟨y, hy, he⟩ := Option.map_eq_some_iff.1 h1; simp only [Prod.mk.injEq] at he; exact he.2.symm)
            | (split at h1 <;> first | (simp only [List.not_mem_nil, if_false, Option.some.injEq, Prod.mk.injEq] at h1; exact h1.2.symm) | cases h1)
            | cases h1)
        | (obtain ⟨z, hz, h1⟩ := Option.bind_eq_some_iff.1 h1
           first
           | (obtain ⟨_, h1⟩ := ite_some' h1
              split at h1
              · simp only [List.not_mem_nil, if_false, Option.some.injEq, Prod.mk.injEq] at h1; exact h1.2.symm
              · cases h1)
           | (split at h1
              · simp only [List.not_mem_nil, if_false, Option.some.injEq, Prod.mk.injEq] at h1; exact h1.2.symm
              · cases h1))
        | cases h1
    rw [this]
/-- When it is carried out, if that hangs on one known value. -/
def gcond (ops : Array Oper) (o : Oper) (fr : List AV) : Option Bool :=
  match o.guard with
  | none => none
  | some (j, want) =>
    match (ops[j]?).bind (·.dst) with
    | none => none
    | some d => match fget fr d with
      | .p (.bool b) => some (if want = true then b else !b)
      | .opt c (.p (.bool b)) => some (c && (if want = true then b else !b))
      | .opt false _ => some false
      | _ => none
theorem gcond_spec {ops : Array Oper} {o : Oper} {fr : List AV} {c : Bool} (h : gcond ops o fr = some c) {G w D a} {σ : ASt} (hs : Sim G fr σ D a w) : Region.wanted o (yielded ops a.tmps) = c := by
  unfold gcond at h
  unfold Region.wanted
  cases hg : o.guard with
  | none => rw [hg] at h; cases h
  | some jw =>
    obtain ⟨j, want⟩ := jw
    rw [hg] at h
    simp only at h ⊢
    unfold yielded
    cases hd : (ops[j]?).bind (·.dst) with
    | none => rw [hd] at h; cases h
    | some d =>
      rw [hd] at h
      simp only [Option.bind_some] at h ⊢
      have hr := hs.ev (.tmp d)
      simp only [aev, Act.eval] at hr
      have key : ∀ v, Rep G w (fget fr d) v → ((match v with | .bool b => some b | _ => none : Option Bool) == some want) = c := by
        intro v hr
        split at h
        · rename_i b hf
          rw [hf] at hr
          cases hr
          obtain rfl := Option.some.inj h
          cases b <;> cases want <;> rfl
        · rename_i c' b hf
          rw [hf] at hr
          obtain rfl := Option.some.inj h
          cases hr with
          | opt _ _ _ h1 h0 =>
            cases c' with
            | false => rw [h0 rfl]; rfl
            | true =>
              have := h1 rfl
              cases this
              cases b <;> cases want <;> rfl
        · rename_i v' _ hf
          rw [hf] at hr
          obtain rfl := Option.some.inj h
          cases hr with
          | opt _ _ _ h1 h0 => rw [h0 rfl]; rfl
        · cases h
      have h2 := key _ hr
      rw [Array.getD_eq_getD_getElem?] at h2
      cases hv : a.tmps[d]? with
      | none => rw [hv] at h2; exact h2
      | some v =>
        rw [hv] at h2
        simp only [Option.getD_some] at h2
        cases v <;> exact h2
/-- A step that is not looked into but by its own rules. -/
inductive Shut (p : Prop) : Prop where
  | mk (h : p) : Shut p
theorem Shut.out {p : Prop} (h : Shut p) : p := h.1
/-- As far as it goes. -/
def ARun (P : Program) (D : List Deferred) (ops : Array Oper) (Q : Exit → List AV → ASt → Prop) (mu : List Nat) : List Oper → List AV → ASt → Prop
  | [], fr, σ => Q .normal fr σ
  | o :: rest, fr, σ =>
    match o.guard with
    | none =>
      match aop P mu o (aev fr) σ with
      | some (r, τ) => Shut (ARun P D ops Q mu rest (aput fr o.dst r) τ)
      | none => AWL P D ops Q (o :: rest) fr σ
    | some _ =>
      match gcond ops o fr with
      | some c =>
        match aopP P o (fun x => strip c (aev fr x)) σ with
        | some r => Shut (ARun P D ops Q mu rest (aput fr o.dst (.opt c r)) σ)
        | none => AWL P D ops Q (o :: rest) fr σ
      | none => if awanted ops o fr = some false then Shut (ARun P D ops Q mu rest (aput fr o.dst (.p undef)) σ) else AWL P D ops Q (o :: rest) fr σ
theorem shut_nil {ops : Array Oper} {mu : List Nat} : Shut (ARun P D ops Q mu [] fr σ) ↔ Q .normal fr σ := ⟨fun h => h.1, fun h => ⟨h⟩⟩
theorem shut_cons {ops : Array Oper} {mu : List Nat} {o : Oper} {rest : List Oper} : Shut (ARun P D ops Q mu (o :: rest) fr σ) ↔ (match o.guard with
    | none =>
      match aop P mu o (aev fr) σ with
      | some (r, τ) => Shut (ARun P D ops Q mu rest (aput fr o.dst r) τ)
      | none => AWL P D ops Q (o :: rest) fr σ
    | some _ =>
      match gcond ops o fr with
      | some c =>
        match aopP P o (fun x => strip c (aev fr x)) σ with
        | some r => Shut (ARun P D ops Q mu rest (aput fr o.dst (.opt c r)) σ)
        | none => AWL P D ops Q (o :: rest) fr σ
      | none => if awanted ops o fr = some false then Shut (ARun P D ops Q mu rest (aput fr o.dst (.p undef)) σ) else AWL P D ops Q (o :: rest) fr σ) := ⟨fun h => h.1, fun h => ⟨h⟩⟩
theorem awl_spec {ops : Array Oper} {o : Oper} {rest : List Oper} {c : Bool} (hc : gcond ops o fr = some c) {r : AV} (h : aopP P o (fun x => strip c (aev fr x)) σ = some r) (hk : AWL P D ops Q rest (aput fr o.dst (.opt c r)) σ) : AWL P D ops Q (o :: rest) fr σ := by
  intro G a w hs
  have hw := gcond_spec hc hs
  unfold wpList
  cases c with
  | false =>
    rw [if_neg (by rw [hw]; simp)]
    exact hk G (a.put o.dst undef) w (hs.put o.dst (.opt false r undef (fun e => by cases e) (fun _ => rfl)))
  | true =>
    rw [if_pos hw]
    refine .inl ?_
    have hq := opq_aop (R := fun r' σ' => r' = r ∧ σ' = σ) (aopP_spec h) ⟨rfl, rfl⟩ G a.eval w (fun x => strip_rep rfl (hs.ev x)) hs.w
    unfold Oper.wp
    have key : ∀ v w', Outc G w (fun r' σ' => r' = r ∧ σ' = σ) v w' → wpList P ops (lift G w D Q) rest (a.put o.dst v) w' := by
      rintro v w' ⟨r', G', σ', hl, hw', hr, rfl, rfl⟩
      have := hk G' (a.put o.dst v) w' ((hs.le hl hw').put o.dst (.opt true r' v (fun _ => hr) (fun e => by cases e)))
      exact wpList_weaken (fun e a w h => lift_le hl h) rest _ _ this
    generalize (execOp a.eval o).run P w = n at hq
    cases n with
    | halt => exact hq.elim
    | ok n w' =>
      cases n with
      | value v => exact key v w' hq
      | skip => exact key undef w' hq
      | enter f args =>
        refine Calls.mono hq fun e w'' he => ?_
        cases e with
        | returned v => exact key v w'' he
        | panicked c => exact he.elim
        | outgrown => exact he.elim
      | _ => exact hq.elim
theorem gcond_awanted {ops : Array Oper} {o : Oper} {rest : List Oper} {c : Bool} (hc : gcond ops o fr = some c) (h1 : c = true → AWL P D ops Q (o :: rest) fr σ) (h2 : c = false → AWL P D ops Q rest (aput fr o.dst (.p undef)) σ) : AWL P D ops Q (o :: rest) fr σ := by
  cases c with
  | true => exact h1 rfl
  | false =>
    intro G a w hs
    unfold wpList
    rw [if_neg (by rw [gcond_spec hc hs]; simp)]
    exact h2 rfl G (a.put o.dst undef) w (hs.put o.dst (.p undef))
theorem awl_run (mu : List Nat) {ops : Array Oper} : ∀ {l : List Oper} {fr : List AV} {σ : ASt}, ARun P D ops Q mu l fr σ → AWL P D ops Q l fr σ
  | [], fr, σ, h => awl_nil h
  | o :: rest, fr, σ, h => by
    unfold ARun at h
    split at h
    · rename_i hg
      have hw : awanted ops o fr = some true := by unfold awanted; rw [hg]
      split at h
      · rename_i r τ he
        exact awl_cons hw (opq_aop he (awl_run mu h.out))
      · exact h
    · split at h
      · rename_i c hc
        split at h
        · rename_i r he
          exact awl_spec hc he (awl_run mu h.out)
        · exact h
      · split at h
        · rename_i hw
          exact awl_skip hw (awl_run mu h.out)
        · exact h
theorem aw_run (mu : List Nat) {id : Nat} {l : List Oper} (h : Shut (ARun P D l.toArray Q mu l fr σ)) : AW P D (.region id l.toArray false) Q fr σ := aw_region (awl_run mu h.out)
theorem awl_run' (mu : List Nat) {ops : Array Oper} {l : List Oper} (h : Shut (ARun P D ops Q mu l fr σ)) : AWL P D ops Q l fr σ := awl_run mu h.out
/-- A call of a pure function. -/
theorem awl_pure {ops : Array Oper} {o : Oper} {rest : List Oper} {f : Operand} {aa : Array Operand} {ts : Array TypeId} (ho : o.op = .call { callee := .value f, args := aa, argTypes := ts }) (hw : awanted ops o fr = some true)
    {F : FuncId} {first cap : List AV} (hf : acallee (aev fr f) = some (F, first, cap)) (hc : callable P F = true) {args : List AV} (ha : first ++ aa.toList.map (aev fr) ++ cap = args) {r : AV} (h : APure P F args r) (hcl : ∀ a ∈ args, Cl a) (hr : Cl r)
    (hk : AWL P D ops Q rest (aput fr o.dst r) σ) : AWL P D ops Q (o :: rest) fr σ :=
  awl_cons hw (opq_call ho hf hc (by rw [ha]; exact (h.call hcl hr σ).mono fun r' σ' ⟨e1, e2⟩ => by subst e1; subst e2; exact hk))
/-- A call by a contract. -/
theorem awl_call {ops : Array Oper} {o : Oper} {rest : List Oper} {f : Operand} {aa : Array Operand} {ts : Array TypeId} (ho : o.op = .call { callee := .value f, args := aa, argTypes := ts }) (hw : awanted ops o fr = some true)
    {F : FuncId} {first cap : List AV} (hf : acallee (aev fr f) = some (F, first, cap)) (hc : callable P F = true) {R : AV → ASt → Prop} (h : ACall P F (first ++ aa.toList.map (aev fr) ++ cap) σ R)
    (hk : ∀ r τ, R r τ → AWL P D ops Q rest (aput fr o.dst r) τ) : AWL P D ops Q (o :: rest) fr σ :=
  awl_cons hw (opq_call ho hf hc (h.mono hk))
end Go.AL
