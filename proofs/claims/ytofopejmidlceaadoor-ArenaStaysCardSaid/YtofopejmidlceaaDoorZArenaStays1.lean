/- Parts of the proof of ArenaStays: the logic, contracts, plain laws. -/
import Derived.Test.YtofopejmidlceaaDoorProg
import Derived.Lib.LaidTab
import Derived.Lib.ItoaNum
import Derived.Below
import Derived.Tactics
import Derived.Still
import Derived.ScopeJumps
import Derived.OrdersIn
import Derived.TacticsIn
import Derived.RangeFuncFrom
/-! What is known of the world in which all begins. -/
namespace Go.AL
open Go.Proofs
structure Init (w : World) : Prop where
  tab : Lib.TabIs Tryd.prog w "internal/strconv.uint64pow10" .u64 Lib.pow10Tab
end Go.AL
/-! A semantic abstract logic over the machine. Values with slices as lists, boxes, maps and own slices by numbers. -/
namespace Go.AL
open Go.RowKit (Below)
set_option linter.unusedVariables false
/-- An abstract value. -/
inductive AV where
  | p (x : Value)
  | agg (cs : List AV)
  | tup (vs : List AV)
  | ptr (b off : Nat)
  | vsl (xs : List AV)
  | vel (xs : List AV) (i off : Nat)
  | hsl (b off len : Nat)
  | hel (b i off : Nat)
  | map (m : Nat)
  | it (m : Nat)
  | yld (m : Nat)
  | vmp (ks vs : List AV)
  | ob (o : Obj)
  | fn (f : Fn) (first cap : List AV)
  | ifc (t : TypeId) (v : AV)
  | opt (b : Bool) (v : AV)
  | any
  deriving Inhabited
def AV.cells : AV → List AV
  | .agg cs => cs
  | v => [v]
/-- The cell j of the element i. -/
def rowCell (xs : List AV) (i j : Nat) : Option AV := (xs[i]?).bind fun x => x.cells[j]?
/-- Where things lie. -/
structure Ghost where
  base : Nat
  st : Nat → Nat → Prop
  bx : Nat → Option Nat
  mp : Nat → Option Nat
  sl : Nat → Option (Option (Nat × Nat × Nat × Nat))
/-- A value is as an abstract one says. -/
inductive Rep (G : Ghost) (w : World) : AV → Value → Prop where
  | p (x : Value) : Rep G w (.p x) x
  | agg (cs : List AV) (vs : Array Value) (hs : cs.length = vs.size) (h : ∀ (i : Nat) c v, cs[i]? = some c → vs[i]? = some v → Rep G w c v) : Rep G w (.agg cs) (.agg vs)
  | tup (cs : List AV) (vs : Array Value) (hs : cs.length = vs.size) (h : ∀ (i : Nat) c v, cs[i]? = some c → vs[i]? = some v → Rep G w c v) : Rep G w (.tup cs) (.tuple vs)
  | ptr (b off β : Nat) (h : G.bx b = some β) : Rep G w (.ptr b off) (.pointer (some ⟨β, off, none⟩))
  | vnil (a : Option Addr) (cap : Nat) : Rep G w (.vsl []) (.slice a 0 cap)
  | vsl (xs : List AV) (β o s cap : Nat) (val : Nat → Nat → Value) (hcap : xs.length ≤ cap) (hs : ∀ (i : Nat) x, xs[i]? = some x → x.cells.length = s)
      (h : ∀ (i j : Nat) c, rowCell xs i j = some c → G.st β (o + i * s + j) ∧ w.cell? ⟨β, o + i * s + j, none⟩ = some (val i j))
      (hr : ∀ (i j : Nat) c, rowCell xs i j = some c → Rep G w c (val i j)) : Rep G w (.vsl xs) (.slice (some ⟨β, o, none⟩) xs.length cap)
  | vel (xs : List AV) (i off β o s : Nat) (val : Nat → Nat → Value) (hs : ∀ (i : Nat) x, xs[i]? = some x → x.cells.length = s)
      (h : ∀ (i j : Nat) c, rowCell xs i j = some c → G.st β (o + i * s + j) ∧ w.cell? ⟨β, o + i * s + j, none⟩ = some (val i j))
      (hr : ∀ (i j : Nat) c, rowCell xs i j = some c → Rep G w c (val i j)) : Rep G w (.vel xs i off) (.pointer (some ⟨β, o + i * s + off, none⟩))
  | hsl (b off len β o s cap : Nat) (h : G.sl b = some (some (β, o, s, cap))) (hle : off + len ≤ cap) : Rep G w (.hsl b off len) (.slice (some ⟨β, o + off * s, none⟩) len (cap - off))
  | hend (b off : Nat) (a : Option Addr) (β o s cap : Nat) (h : G.sl b = some (some (β, o, s, cap))) (hle : off = cap) : Rep G w (.hsl b off 0) (.slice a 0 0)
  | hnil (b : Nat) (a : Option Addr) (h : G.sl b = some none) : Rep G w (.hsl b 0 0) (.slice a 0 0)
  | hel (b i off β o s cap : Nat) (h : G.sl b = some (some (β, o, s, cap))) : Rep G w (.hel b i off) (.pointer (some ⟨β, o + i * s + off, none⟩))
  | map (m μ : Nat) (h : G.mp m = some μ) : Rep G w (.map m) (.map (some μ))
  | it (m μ : Nat) (h : G.mp m = some μ) : Rep G w (.it m) (.pointer (some ⟨μ, 0, none⟩))
  | yld (m μ : Nat) (h : G.mp m = some μ) : Rep G w (.yld m) (.func (.yield μ) #[] #[])
  | vmp (ks vs : List AV) (μ clock : Nat) (ents : Array MapEntry) (h1 : G.st μ 0) (h2 : w.heap[μ]? = some (.map ents clock)) (h3 : ks.length = ents.size) (h4 : vs.length = ents.size)
      (h5 : ∀ (i : Nat) c e, ks[i]? = some c → ents[i]? = some e → Rep G w c e.key) (h6 : ∀ (i : Nat) c e, vs[i]? = some c → ents[i]? = some e → Rep G w c e.val)
      (h7 : ∀ (i : Nat) (e : MapEntry), ents[i]? = some e → e.born < clock) (h8 : ∀ (i j : Nat) (e e' : MapEntry), ents[i]? = some e → ents[j]? = some e' → e.born = e'.born → i = j) : Rep G w (.vmp ks vs) (.map (some μ))
  | fn (f : Fn) (aa bs : List AV) (us vs : Array Value) (h1 : aa.length = us.size) (h2 : bs.length = vs.size)
      (h3 : ∀ (i : Nat) c v, aa[i]? = some c → us[i]? = some v → Rep G w c v) (h4 : ∀ (i : Nat) c v, bs[i]? = some c → vs[i]? = some v → Rep G w c v) : Rep G w (.fn f aa bs) (.func f us vs)
  | ifc (t : TypeId) (c : AV) (v : Value) (h : Rep G w c v) : Rep G w (.ifc t c) (.iface t v)
  | opt (b : Bool) (c : AV) (v : Value) (h : b = true → Rep G w c v) (h0 : b = false → v = .tuple #[]) : Rep G w (.opt b c) v
  | any (v : Value) : Rep G w .any v
/-- Lists of values. -/
def RepL (G : Ghost) (w : World) (cs : List AV) (vs : List Value) : Prop := cs.length = vs.length ∧ ∀ (i : Nat) c v, cs[i]? = some c → vs[i]? = some v → Rep G w c v
theorem cell_block {w w' : World} {β o : Nat} (h : w'.heap[β]? = w.heap[β]?) : w'.cell? ⟨β, o, none⟩ = w.cell? ⟨β, o, none⟩ := by
  unfold World.cell?; simp only [h]
/-- What comes behind. -/
structure Le (G : Ghost) (w : World) (G' : Ghost) (w' : World) : Prop where
  base : G'.base = G.base
  bx : ∀ b β, G.bx b = some β → G'.bx b = some β
  mp : ∀ b β, G.mp b = some β → G'.mp b = some β
  sl : ∀ b β, G.sl b = some β → G'.sl b = some β
  st : ∀ β o, G.st β o → G'.st β o
  st2 : ∀ β o, G'.st β o → G.st β o ∨ (G.base ≤ β ∧ ∀ o', ¬ G.st β o')
  cell : ∀ β o, G.st β o → w'.heap[β]? = w.heap[β]?
  below : Below G.base w w'
theorem Le.refl (G : Ghost) (w : World) : Le G w G w := ⟨rfl, fun _ _ h => h, fun _ _ h => h, fun _ _ h => h, fun _ _ h => h, fun _ _ h => .inl h, fun _ _ _ => rfl, Below.refl _ _⟩
theorem Le.trans {G w G' w' G'' w''} (h : Le G w G' w') (k : Le G' w' G'' w'') : Le G w G'' w'' :=
  ⟨k.base.trans h.base, fun b β e => k.bx b β (h.bx b β e), fun b β e => k.mp b β (h.mp b β e), fun b β e => k.sl b β (h.sl b β e), fun β o e => k.st β o (h.st β o e), fun β o e => (k.st2 β o e).elim (fun e => h.st2 β o e) (fun e => .inr ⟨h.base ▸ e.1, fun o' e' => e.2 o' (h.st β o' e')⟩),
    fun β o e => (k.cell β o (h.st β o e)).trans (h.cell β o e), h.below.trans (h.base ▸ k.below)⟩
theorem Rep.mono {G w G' w'} (hl : Le G w G' w') {c v} (h : Rep G w c v) : Rep G' w' c v := by
  induction h with
  | p x => exact .p x
  | agg cs vs hs _ ih => exact .agg cs vs hs ih
  | tup cs vs hs _ ih => exact .tup cs vs hs ih
  | ptr b off β h => exact .ptr b off β (hl.bx _ _ h)
  | vnil a cap => exact .vnil a cap
  | vsl xs β o s cap val hcap hs h _ ih => exact .vsl xs β o s cap val hcap hs (fun i j c e => ⟨hl.st _ _ (h i j c e).1, (cell_block (hl.cell _ _ (h i j c e).1)).trans (h i j c e).2⟩) ih
  | vel xs i off β o s val hs h _ ih => exact .vel xs i off β o s val hs (fun i j c e => ⟨hl.st _ _ (h i j c e).1, (cell_block (hl.cell _ _ (h i j c e).1)).trans (h i j c e).2⟩) ih
  | hsl b off len β o s cap h hle => exact .hsl b off len β o s cap (hl.sl _ _ h) hle
  | hend b off a β o s cap h hle => exact .hend b off a β o s cap (hl.sl _ _ h) hle
  | hnil b a h => exact .hnil b a (hl.sl _ _ h)
  | hel b i off β o s cap h => exact .hel b i off β o s cap (hl.sl _ _ h)
  | map m μ h => exact .map m μ (hl.mp _ _ h)
  | it m μ h => exact .it m μ (hl.mp _ _ h)
  | yld m μ h => exact .yld m μ (hl.mp _ _ h)
  | vmp ks vs μ clock ents h1 h2 h3 h4 _ _ h7 h8 ih5 ih6 => exact .vmp ks vs μ clock ents (hl.st _ _ h1) ((hl.cell _ _ h1).trans h2) h3 h4 ih5 ih6 h7 h8
  | fn f aa bs us vs h1 h2 _ _ ih3 ih4 => exact .fn f aa bs us vs h1 h2 ih3 ih4
  | ifc t c v _ ih => exact .ifc t c v ih
  | opt b c v _ h0 ih => exact .opt b c v ih h0
  | any v => exact .any v
theorem RepL.mono {G w G' w'} (hl : Le G w G' w') {cs vs} (h : RepL G w cs vs) : RepL G' w' cs vs := ⟨h.1, fun i c v a b => (h.2 i c v a b).mono hl⟩
/-- What is known of memory. -/
structure ASt where
  bx : Nat → Option (List AV)
  mp : Nat → Option (List (AV × AV))
  sl : Nat → Option (List AV)
  next : Nat
def BxOK (G : Ghost) (w : World) (b : Nat) (cs : List AV) : Prop :=
  ∃ β arr el, G.bx b = some β ∧ w.heap[β]? = some (.cells arr el (0, 0)) ∧ arr.size = cs.length ∧ ∀ (i : Nat) c v, cs[i]? = some c → arr[i]? = some v → Rep G w c v
/-- What no value is. -/
abbrev noV : AV := .vsl [.agg [], .agg [.any]]
theorem noV_rep {G : Ghost} {w : World} {v : Value} (h : Rep G w noV v) : False := by
  cases h with
  | vsl xs β o s cap val hcap hs h hr =>
    have h0 := hs 0 _ rfl
    have h1 := hs 1 _ rfl
    simp [AV.cells] at h0 h1
    omega
/-- A thing of the machine's, among the maps: as it is; a range over a function's record with what its frame holds. -/
def obE (o : Obj) (fr : List AV) : List (AV × AV) := [(noV, .tup [.ob o, .agg fr])]
def erL (r : Loop) : Loop := { r with fn := 0, tmps := #[], defers := 0 }
def erM (e : MapEntry) : MapEntry := { e with key := .bool false, val := .bool false }
def erO : Obj → Obj
  | .loop r => .loop (erL r)
  | .map es c => .map (es.map erM) c
  | o => o
def ObR (G : Ghost) (w : World) : Obj → List AV → Prop
  | .loop r, fr => RepL G w fr r.tmps.toList
  | .map es _, fr => RepL G w fr (es.toList.flatMap fun e => [e.key, e.val])
  | _, fr => fr = []
theorem ObR.mono {G w G' w'} (hl : Le G w G' w') {o : Obj} {fr : List AV} (h : ObR G w o fr) : ObR G' w' o fr := by
  cases o <;> first | exact h | exact RepL.mono hl h
def MpOK (G : Ghost) (w : World) (b : Nat) (es : List (AV × AV)) : Prop :=
  (∃ μ ents clock, G.mp b = some μ ∧ w.heap[μ]? = some (.map ents clock) ∧ ents.size = es.length ∧
    (∀ (i : Nat) k x (e : MapEntry), es[i]? = some (k, x) → ents[i]? = some e → Rep G w k e.key ∧ Rep G w x e.val ∧ e.born < clock) ∧ (∀ (i j : Nat) (e e' : MapEntry), ents[i]? = some e → ents[j]? = some e' → e.born = e'.born → i = j)) ∨
  ∃ μ o fr, G.mp b = some μ ∧ w.heap[μ]? = some o ∧ ObR G w o fr ∧ es = obE (erO o) fr
def SlOK (G : Ghost) (w : World) (b : Nat) (xs : List AV) : Prop :=
  (G.sl b = some none ∧ xs = []) ∨ ∃ β o s cap arr el, G.sl b = some (some (β, o, s, cap)) ∧ w.heap[β]? = some (.cells arr el (0, 0)) ∧ (0 < xs.length ∧ xs.length ≤ cap) ∧ (o + cap * s ≤ arr.size ∧ cap ≤ 9223372036854775807) ∧
    (∀ (i : Nat) x, xs[i]? = some x → x.cells.length = s) ∧ ∀ (i j : Nat) c v, rowCell xs i j = some c → arr[o + i * s + j]? = some v → Rep G w c v
/-- The block that a thing has. -/
inductive Owns (G : Ghost) (σ : ASt) : Nat → Nat × Nat → Prop where
  | bx (b β : Nat) (cs : List AV) (h : σ.bx b = some cs) (g : G.bx b = some β) : Owns G σ β (0, b)
  | mp (b β : Nat) (es : List (AV × AV)) (h : σ.mp b = some es) (g : G.mp b = some β) : Owns G σ β (1, b)
  | sl (b β : Nat) (r : Nat × Nat × Nat) (xs : List AV) (h : σ.sl b = some xs) (g : G.sl b = some (some (β, r))) : Owns G σ β (2, b)
/-- Behind the world in which all began. -/
structure Based (b : Nat) (w : World) : Prop where
  le : b ≤ w.heap.size
  ini : ∃ w0, Init w0 ∧ w0.heap.size ≤ b ∧ Below w0.heap.size w0 w
theorem Based.go {b : Nat} {w w' : World} (h : Based b w) (hb : Below b w w') : Based b w' :=
  ⟨Nat.le_trans h.le hb.size, let ⟨w0, h1, h2, h3⟩ := h.ini; ⟨w0, h1, h2, h3.trans (hb.mono h2)⟩⟩
structure SimW (G : Ghost) (σ : ASt) (w : World) : Prop where
  base : Based G.base w
  bx : ∀ b cs, σ.bx b = some cs → BxOK G w b cs
  mp : ∀ b es, σ.mp b = some es → MpOK G w b es
  sl : ∀ b xs, σ.sl b = some xs → SlOK G w b xs
  own : ∀ β k, Owns G σ β k → G.base ≤ β ∧ (∀ k', Owns G σ β k' → k' = k) ∧ ∀ o, ¬ G.st β o
  stIn : ∀ β o, G.st β o → β < w.heap.size
  fresh : ∀ b, σ.next ≤ b → G.bx b = none ∧ G.mp b = none ∧ G.sl b = none ∧ σ.bx b = none ∧ σ.mp b = none ∧ σ.sl b = none
theorem BxOK.lt {G w b cs β} (h : BxOK G w b cs) (g : G.bx b = some β) : β < w.heap.size := by
  obtain ⟨β', arr, el, h1, h2, _⟩ := h
  obtain rfl := Option.some.inj (g.symm.trans h1)
  exact (Array.getElem?_eq_some_iff.1 h2).1
theorem MpOK.lt {G w b cs β} (h : MpOK G w b cs) (g : G.mp b = some β) : β < w.heap.size := by
  rcases h with ⟨β', ents, clock, h1, h2, _⟩ | ⟨β', ob, ofr, h1, h2, _⟩
  · obtain rfl := Option.some.inj (g.symm.trans h1)
    exact (Array.getElem?_eq_some_iff.1 h2).1
  · obtain rfl := Option.some.inj (g.symm.trans h1)
    exact (Array.getElem?_eq_some_iff.1 h2).1
theorem SlOK.lt {G w b cs β r} (h : SlOK G w b cs) (g : G.sl b = some (some (β, r))) : β < w.heap.size := by
  rcases h with ⟨h1, _⟩ | ⟨β', o, s, cap, arr, el, h1, h2, _⟩
  · rw [g] at h1; cases h1
  · obtain ⟨rfl, rfl⟩ : β = β' ∧ r = (o, s, cap) := by rw [g] at h1; simpa using h1
    exact (Array.getElem?_eq_some_iff.1 h2).1
theorem SimW.own_lt {G σ w} (h : SimW G σ w) {β k} (ho : Owns G σ β k) : β < w.heap.size := by
  cases ho with
  | bx b β cs hb g => exact (h.bx b cs hb).lt g
  | mp b β cs hb g => exact (h.mp b cs hb).lt g
  | sl b β r cs hb g => exact (h.sl b cs hb).lt g
theorem BxOK.mono {G w G' w' b cs} (hl : Le G w G' w') (hh : ∀ β, G.bx b = some β → w'.heap[β]? = w.heap[β]?) (h : BxOK G w b cs) : BxOK G' w' b cs := by
  obtain ⟨β, arr, el, h1, h2, h3, h4⟩ := h
  exact ⟨β, arr, el, hl.bx _ _ h1, (hh β h1).trans h2, h3, fun i c v a b => (h4 i c v a b).mono hl⟩
theorem MpOK.mono {G w G' w' b es} (hl : Le G w G' w') (hh : ∀ β, G.mp b = some β → w'.heap[β]? = w.heap[β]?) (h : MpOK G w b es) : MpOK G' w' b es := by
  rcases h with ⟨μ, ents, clock, h1, h2, h3, h4, h5⟩ | ⟨μ, ob, ofr, h1, h2, h3, h4⟩
  · exact .inl ⟨μ, ents, clock, hl.mp _ _ h1, (hh μ h1).trans h2, h3, fun i k x e a b => ⟨(h4 i k x e a b).1.mono hl, (h4 i k x e a b).2.1.mono hl, (h4 i k x e a b).2.2⟩, h5⟩
  · exact .inr ⟨μ, ob, ofr, hl.mp _ _ h1, (hh μ h1).trans h2, h3.mono hl, h4⟩
theorem SlOK.mono {G w G' w' b xs} (hl : Le G w G' w') (hh : ∀ β r, G.sl b = some (some (β, r)) → w'.heap[β]? = w.heap[β]?) (h : SlOK G w b xs) : SlOK G' w' b xs := by
  rcases h with ⟨h1, h2⟩ | ⟨β, o, s, cap, arr, el, h1, h2, h3, h4, h5, h6⟩
  · exact .inl ⟨hl.sl _ _ h1, h2⟩
  · exact .inr ⟨β, o, s, cap, arr, el, hl.sl _ _ h1, (hh β _ h1).trans h2, h3, h4, h5, fun i j c v a b => (h6 i j c v a b).mono hl⟩
/-- Marks of ranges over functions. -/
def colD (μ : Nat) : Deferred := { target := .collected μ, args := #[] }
def mkD : List Deferred := [colD 0]
/-- The frame's deferred calls: none; by mkD: marks alone, of blocks that hold none. -/
def Dok (G : Ghost) (w : World) (D ds : List Deferred) : Prop :=
  (D ≠ mkD ∧ ds = D) ∨ (D = mkD ∧ ∃ ms : List Nat, ds = ms.map colD ∧ ms.Nodup ∧ ∀ μ ∈ ms, G.base ≤ μ ∧ G.st μ 0 ∧ w.heap[μ]? = some (.deferred (some [])))
theorem Dok.mono {G w G' w'} (hl : Le G w G' w') {D ds} (h : Dok G w D ds) : Dok G' w' D ds := by
  rcases h with h | ⟨h, ms, h1, h2, h3⟩
  · exact .inl h
  · exact .inr ⟨h, ms, h1, h2, fun μ hm => ⟨hl.base ▸ (h3 μ hm).1, hl.st _ _ (h3 μ hm).2.1, (hl.cell _ _ (h3 μ hm).2.1).trans (h3 μ hm).2.2⟩⟩
theorem Dok.nil {G w ds} (h : Dok G w [] ds) : ds = [] := by
  rcases h with ⟨_, h⟩ | ⟨h, _⟩
  · exact h
  · cases h
/-- A frame. -/
structure Sim (G : Ghost) (fr : List AV) (σ : ASt) (D : List Deferred) (a : Act) (w : World) : Prop where
  tmps : RepL G w fr a.tmps.toList
  defers : Dok G w D a.defers
  w : SimW G σ w
/-! ### the world goes on -/
def upd {α : Type} (f : Nat → Option α) (b : Nat) (v : Option α) : Nat → Option α := fun x => if x = b then v else f x
@[simp] theorem upd_same {α : Type} (f : Nat → Option α) (b : Nat) (v : Option α) : upd f b v b = v := if_pos rfl
theorem upd_ne {α : Type} (f : Nat → Option α) {b x : Nat} (v : Option α) (h : x ≠ b) : upd f b v x = f x := if_neg h
/-- Nothing that is known of has turned, and the ghost is as it was. -/
theorem SimW.keep {G σ w w'} (h : SimW G σ w) (hl : Le G w G w') (hh : ∀ β k, Owns G σ β k → w'.heap[β]? = w.heap[β]?) : SimW G σ w' where
  base := h.base.go hl.below
  bx := fun b cs e => (h.bx b cs e).mono hl fun β g => hh β _ (.bx b β cs e g)
  mp := fun b es e => (h.mp b es e).mono hl fun β g => hh β _ (.mp b β es e g)
  sl := fun b xs e => (h.sl b xs e).mono hl fun β r g => hh β _ (.sl b β r xs e g)
  own := h.own
  stIn := fun β o e => Nat.lt_of_lt_of_le (h.stIn β o e) hl.below.size
  fresh := h.fresh
/-- New blocks alone. -/
theorem Le.grow {G σ w w'} (h : SimW G σ w) (hb : Below w.heap.size w w') : Le G w G w' where
  base := rfl
  bx := fun _ _ e => e
  mp := fun _ _ e => e
  sl := fun _ _ e => e
  st := fun _ _ e => e
  st2 := fun _ _ e => .inl e
  cell := fun β o e => hb.block β (h.stIn β o e)
  below := hb.mono h.base.le
theorem SimW.grow {G σ w w'} (h : SimW G σ w) (hb : Below w.heap.size w w') : SimW G σ w' :=
  h.keep (Le.grow h hb) fun β k ho => hb.block β (h.own_lt ho)
end Go.AL
/-! How memory goes on. -/
namespace Go.AL
open Go.RowKit (Below)
set_option linter.unusedVariables false
/-- One block alone may have turned. -/
structure Touch (w w' : World) (β : Nat) : Prop where
  os : w'.os = w.os
  tape : w'.tape = w.tape
  output : w'.output = w.output
  size : w'.heap.size = w.heap.size
  block : ∀ k, k ≠ β → w'.heap[k]? = w.heap[k]?
theorem Touch.refl (w : World) (β : Nat) : Touch w w β := ⟨rfl, rfl, rfl, rfl, fun _ _ => rfl⟩
theorem Touch.trans {w w' w'' : World} {β : Nat} (h : Touch w w' β) (k : Touch w' w'' β) : Touch w w'' β :=
  ⟨k.os.trans h.os, k.tape.trans h.tape, k.output.trans h.output, k.size.trans h.size, fun i hi => (k.block i hi).trans (h.block i hi)⟩
theorem Le.touch {G σ w w' β k} (h : SimW G σ w) (ho : Owns G σ β k) (ht : Touch w w' β) : Le G w G w' where
  base := rfl
  bx := fun _ _ e => e
  mp := fun _ _ e => e
  sl := fun _ _ e => e
  st := fun _ _ e => e
  st2 := fun _ _ e => .inl e
  cell := fun γ o e => ht.block γ fun hh => (h.own β k ho).2.2 o (hh ▸ e)
  below := ⟨ht.os, ht.tape, ht.output, Nat.le_of_eq ht.size.symm, fun i hi => ht.block i fun hh => by have := (h.own β k ho).1; omega⟩
/-- What is known of the other things stays known. -/
theorem SimW.others {G σ w w' β k} (h : SimW G σ w) (ho : Owns G σ β k) (ht : Touch w w' β) :
    (∀ b cs, σ.bx b = some cs → k ≠ (0, b) → BxOK G w' b cs) ∧ (∀ b cs, σ.mp b = some cs → k ≠ (1, b) → MpOK G w' b cs) ∧ (∀ b cs, σ.sl b = some cs → k ≠ (2, b) → SlOK G w' b cs) := by
  have hl := Le.touch h ho ht
  refine ⟨fun b cs e hk => (h.bx b cs e).mono hl fun γ g => ht.block γ fun hh => ?_, fun b cs e hk => (h.mp b cs e).mono hl fun γ g => ht.block γ fun hh => ?_, fun b cs e hk => (h.sl b cs e).mono hl fun γ r g => ht.block γ fun hh => ?_⟩
  · subst hh; exact hk ((h.own γ k ho).2.1 _ (.bx b γ cs e g)).symm
  · subst hh; exact hk ((h.own γ k ho).2.1 _ (.mp b γ cs e g)).symm
  · subst hh; exact hk ((h.own γ k ho).2.1 _ (.sl b γ r cs e g)).symm
theorem SimW.touch_bx {G σ w w' b cs cs' β arr el} (h : SimW G σ w) (hb : σ.bx b = some cs) (g : G.bx b = some β) (ht : Touch w w' β) (hw : w'.heap[β]? = some (.cells arr el (0, 0)))
    (hs : arr.size = cs'.length) (hr : ∀ (i : Nat) c v, cs'[i]? = some c → arr[i]? = some v → Rep G w c v) : SimW G { σ with bx := upd σ.bx b (some cs') } w' := by
  have ho : Owns G σ β (0, b) := .bx b β cs hb g
  have hl := Le.touch h ho ht
  obtain ⟨o1, o2, o3⟩ := h.others ho ht
  have hown : ∀ γ k, Owns G { σ with bx := upd σ.bx b (some cs') } γ k → Owns G σ γ k := by
    intro γ k hk
    cases hk with
    | bx b' β' cs2 h2 g2 =>
      by_cases e : b' = b
      · subst e; exact .bx _ _ cs hb g2
      · exact .bx _ _ cs2 ((upd_ne _ _ e).symm.trans h2) g2
    | mp b' β' cs2 h2 g2 => exact .mp _ _ cs2 h2 g2
    | sl b' β' r cs2 h2 g2 => exact .sl _ _ r cs2 h2 g2
  refine ⟨h.base.go hl.below, fun b' cs2 e => ?_, fun b' cs2 e => o2 b' cs2 e (by simp), fun b' cs2 e => o3 b' cs2 e (by simp), ?_, fun γ o e => by rw [ht.size]; exact h.stIn γ o e, fun b' hb' => ?_⟩
  · by_cases eb : b' = b
    · subst eb
      obtain rfl := Option.some.inj ((upd_same σ.bx b' (some cs')).symm.trans e)
      exact ⟨β, arr, el, g, hw, hs, fun i c v a b => (hr i c v a b).mono hl⟩
    · exact o1 b' cs2 ((upd_ne _ _ eb).symm.trans e) (by simpa using fun hh => eb hh.symm)
  · intro γ k hk
    exact ⟨(h.own γ k (hown γ k hk)).1, fun k' hk' => (h.own γ k (hown γ k hk)).2.1 k' (hown γ k' hk'), (h.own γ k (hown γ k hk)).2.2⟩
  · obtain ⟨f1, f2, f3, f4, f5, f6⟩ := h.fresh b' hb'
    refine ⟨f1, f2, f3, ?_, f5, f6⟩
    have : b' ≠ b := fun e => by subst e; rw [f4] at hb; cases hb
    exact (upd_ne _ _ this).trans f4
theorem SimW.touch_mp {G σ w w' b cs cs' β} (h : SimW G σ w) (hb : σ.mp b = some cs) (g : G.mp b = some β) (ht : Touch w w' β) (hw : Le G w G w' → MpOK G w' b cs') : SimW G { σ with mp := upd σ.mp b (some cs') } w' := by
  have ho : Owns G σ β (1, b) := .mp b β cs hb g
  have hl := Le.touch h ho ht
  obtain ⟨o1, o2, o3⟩ := h.others ho ht
  have hown : ∀ γ k, Owns G { σ with mp := upd σ.mp b (some cs') } γ k → Owns G σ γ k := by
    intro γ k hk
    cases hk with
    | mp b' β' cs2 h2 g2 =>
      by_cases e : b' = b
      · subst e; exact .mp _ _ cs hb g2
      · exact .mp _ _ cs2 ((upd_ne _ _ e).symm.trans h2) g2
    | bx b' β' cs2 h2 g2 => exact .bx _ _ cs2 h2 g2
    | sl b' β' r cs2 h2 g2 => exact .sl _ _ r cs2 h2 g2
  refine ⟨h.base.go hl.below, fun b' cs2 e => o1 b' cs2 e (by simp), fun b' cs2 e => ?_, fun b' cs2 e => o3 b' cs2 e (by simp), ?_, fun γ o e => by rw [ht.size]; exact h.stIn γ o e, fun b' hb' => ?_⟩
  · by_cases eb : b' = b
    · subst eb
      obtain rfl := Option.some.inj ((upd_same σ.mp b' (some cs')).symm.trans e)
      exact hw hl
    · exact o2 b' cs2 ((upd_ne _ _ eb).symm.trans e) (by simpa using fun hh => eb hh.symm)
  · intro γ k hk
    exact ⟨(h.own γ k (hown γ k hk)).1, fun k' hk' => (h.own γ k (hown γ k hk)).2.1 k' (hown γ k' hk'), (h.own γ k (hown γ k hk)).2.2⟩
  · obtain ⟨f1, f2, f3, f4, f5, f6⟩ := h.fresh b' hb'
    refine ⟨f1, f2, f3, f4, ?_, f6⟩
    have : b' ≠ b := fun e => by subst e; rw [f5] at hb; cases hb
    exact (upd_ne _ _ this).trans f5
theorem SimW.touch_sl {G σ w w' b cs cs' β r} (h : SimW G σ w) (hb : σ.sl b = some cs) (g : G.sl b = some (some (β, r))) (ht : Touch w w' β) (hw : Le G w G w' → SlOK G w' b cs') : SimW G { σ with sl := upd σ.sl b (some cs') } w' := by
  have ho : Owns G σ β (2, b) := .sl b β r cs hb g
  have hl := Le.touch h ho ht
  obtain ⟨o1, o2, o3⟩ := h.others ho ht
  have hown : ∀ γ k, Owns G { σ with sl := upd σ.sl b (some cs') } γ k → Owns G σ γ k := by
    intro γ k hk
    cases hk with
    | sl b' β' r2 cs2 h2 g2 =>
      by_cases e : b' = b
      · subst e; exact .sl _ _ r2 cs hb g2
      · exact .sl _ _ r2 cs2 ((upd_ne _ _ e).symm.trans h2) g2
    | bx b' β' cs2 h2 g2 => exact .bx _ _ cs2 h2 g2
    | mp b' β' cs2 h2 g2 => exact .mp _ _ cs2 h2 g2
  refine ⟨h.base.go hl.below, fun b' cs2 e => o1 b' cs2 e (by simp), fun b' cs2 e => o2 b' cs2 e (by simp), fun b' cs2 e => ?_, ?_, fun γ o e => by rw [ht.size]; exact h.stIn γ o e, fun b' hb' => ?_⟩
  · by_cases eb : b' = b
    · subst eb
      obtain rfl := Option.some.inj ((upd_same σ.sl b' (some cs')).symm.trans e)
      exact hw hl
    · exact o3 b' cs2 ((upd_ne _ _ eb).symm.trans e) (by simpa using fun hh => eb hh.symm)
  · intro γ k hk
    exact ⟨(h.own γ k (hown γ k hk)).1, fun k' hk' => (h.own γ k (hown γ k hk)).2.1 k' (hown γ k' hk'), (h.own γ k (hown γ k hk)).2.2⟩
  · obtain ⟨f1, f2, f3, f4, f5, f6⟩ := h.fresh b' hb'
    refine ⟨f1, f2, f3, f4, f5, ?_⟩
    have : b' ≠ b := fun e => by subst e; rw [f6] at hb; cases hb
    exact (upd_ne _ _ this).trans f6
/-! ### new blocks -/
theorem heap_alloc_new (w : World) (o : Obj) : (w.alloc o).heap[w.heap.size]? = some o := by
  show (w.heap.push o)[w.heap.size]? = _
  simp
theorem below_alloc' (w : World) (o : Obj) : Below w.heap.size w (w.alloc o) := (Below.refl _ _).alloc (Nat.le_refl _) o
/-- The ghost with a new box. -/
def Ghost.addBx (G : Ghost) (n β : Nat) : Ghost := { G with bx := upd G.bx n (some β) }
def Ghost.addMp (G : Ghost) (n β : Nat) : Ghost := { G with mp := upd G.mp n (some β) }
def Ghost.addSl (G : Ghost) (n : Nat) (r : Option (Nat × Nat × Nat × Nat)) : Ghost := { G with sl := upd G.sl n (some r) }
def Ghost.addSt (G : Ghost) (q : Nat → Nat → Prop) : Ghost := { G with st := fun β o => G.st β o ∨ q β o }
def ASt.addBx (σ : ASt) (cs : List AV) : ASt := { σ with bx := upd σ.bx σ.next (some cs), next := σ.next + 1 }
def ASt.addMp (σ : ASt) (es : List (AV × AV)) : ASt := { σ with mp := upd σ.mp σ.next (some es), next := σ.next + 1 }
def ASt.addSl (σ : ASt) (xs : List AV) : ASt := { σ with sl := upd σ.sl σ.next (some xs), next := σ.next + 1 }
theorem Le.addBx {G σ w w'} (h : SimW G σ w) (hb : Below w.heap.size w w') (β : Nat) : Le G w (G.addBx σ.next β) w' where
  base := rfl
  bx := fun b γ e => (upd_ne G.bx (some β) (fun hh => by subst hh; rw [(h.fresh _ (Nat.le_refl _)).1] at e; cases e)).trans e
  mp := fun _ _ e => e
  sl := fun _ _ e => e
  st := fun _ _ e => e
  st2 := fun _ _ e => .inl e
  cell := (Le.grow h hb).cell
  below := hb.mono h.base.le
theorem Le.addMp {G σ w w'} (h : SimW G σ w) (hb : Below w.heap.size w w') (β : Nat) : Le G w (G.addMp σ.next β) w' where
  base := rfl
  mp := fun b γ e => (upd_ne G.mp (some β) (fun hh => by subst hh; rw [(h.fresh _ (Nat.le_refl _)).2.1] at e; cases e)).trans e
  bx := fun _ _ e => e
  sl := fun _ _ e => e
  st := fun _ _ e => e
  st2 := fun _ _ e => .inl e
  cell := (Le.grow h hb).cell
  below := hb.mono h.base.le
theorem Le.addSl {G σ w w'} (h : SimW G σ w) (hb : Below w.heap.size w w') (r : Option (Nat × Nat × Nat × Nat)) : Le G w (G.addSl σ.next r) w' where
  base := rfl
  sl := fun b γ e => (upd_ne G.sl (some r) (fun hh => by subst hh; rw [(h.fresh _ (Nat.le_refl _)).2.2.1] at e; cases e)).trans e
  bx := fun _ _ e => e
  mp := fun _ _ e => e
  st := fun _ _ e => e
  st2 := fun _ _ e => .inl e
  cell := (Le.grow h hb).cell
  below := hb.mono h.base.le
theorem Le.addSt {G σ w w'} (h : SimW G σ w) (hb : Below w.heap.size w w') (q : Nat → Nat → Prop) (hq : ∀ β o, q β o → w.heap.size ≤ β) : Le G w (G.addSt q) w' where
  base := rfl
  bx := fun _ _ e => e
  mp := fun _ _ e => e
  sl := fun _ _ e => e
  st := fun _ _ e => .inl e
  st2 := fun β o e => e.elim .inl fun e => .inr ⟨Nat.le_trans h.base.le (hq β o e), fun o' e' => by have := h.stIn β o' e'; have := hq β o e; omega⟩
  cell := (Le.grow h hb).cell
  below := hb.mono h.base.le
theorem SimW.addBx {G σ w w' β cs arr el} (h : SimW G σ w) (hb : Below w.heap.size w w') (hn : w.heap.size ≤ β) (hw : w'.heap[β]? = some (.cells arr el (0, 0)))
    (hs : arr.size = cs.length) (hr : ∀ (i : Nat) c v, cs[i]? = some c → arr[i]? = some v → Rep G w c v) : SimW (G.addBx σ.next β) (σ.addBx cs) w' := by
  have hl := Le.addBx h hb β
  have f0 := h.fresh _ (Nat.le_refl σ.next)
  have hown : ∀ γ k, Owns (G.addBx σ.next β) (σ.addBx cs) γ k → (γ = β ∧ k = (0, σ.next)) ∨ Owns G σ γ k := by
    intro γ k hk
    cases hk with
    | bx b' β' cs2 h2 g2 =>
      by_cases e : b' = σ.next
      · subst e; exact .inl ⟨(Option.some.inj ((upd_same G.bx σ.next (some β)).symm.trans g2)).symm, rfl⟩
      · exact .inr (.bx _ _ cs2 ((upd_ne _ _ e).symm.trans h2) ((upd_ne _ _ e).symm.trans g2))
    | mp b' β' cs2 h2 g2 => exact .inr (.mp _ _ cs2 h2 g2)
    | sl b' β' r cs2 h2 g2 => exact .inr (.sl _ _ r cs2 h2 g2)
  refine ⟨h.base.go hl.below, fun b' cs2 e => ?_, fun b' cs2 e => (h.mp b' cs2 e).mono hl fun γ g => hb.block γ ((h.mp b' cs2 e).lt g), fun b' cs2 e => (h.sl b' cs2 e).mono hl fun γ r g => hb.block γ ((h.sl b' cs2 e).lt g), ?_,
    fun γ o e => Nat.lt_of_lt_of_le (h.stIn γ o e) hb.size, fun b' hb' => ?_⟩
  · by_cases eb : b' = σ.next
    · subst eb
      obtain rfl := Option.some.inj ((upd_same σ.bx σ.next (some cs)).symm.trans e)
      exact ⟨β, arr, el, upd_same _ _ _, hw, hs, fun i c v a b => (hr i c v a b).mono hl⟩
    · have e' : σ.bx b' = some cs2 := (upd_ne _ _ eb).symm.trans e
      exact (h.bx b' cs2 e').mono hl fun γ g => hb.block γ ((h.bx b' cs2 e').lt g)
  · intro γ k hk
    rcases hown γ k hk with ⟨rfl, rfl⟩ | hk
    · refine ⟨Nat.le_trans h.base.le hn, fun k' hk' => ?_, fun o e => ?_⟩
      · rcases hown _ k' hk' with ⟨_, rfl⟩ | hk'
        · rfl
        · have := h.own_lt hk'; omega
      · have := h.stIn _ o e; omega
    · have hlt := h.own_lt hk
      refine ⟨(h.own γ k hk).1, fun k' hk' => ?_, (h.own γ k hk).2.2⟩
      rcases hown _ k' hk' with ⟨rfl, _⟩ | hk'
      · omega
      · exact (h.own γ k hk).2.1 k' hk'
  · have hb2 : σ.next + 1 ≤ b' := hb'
    obtain ⟨f1, f2, f3, f4, f5, f6⟩ := h.fresh b' (by omega)
    have : b' ≠ σ.next := by omega
    exact ⟨(upd_ne _ _ this).trans f1, f2, f3, (upd_ne _ _ this).trans f4, f5, f6⟩
theorem SimW.addMp {G σ w w' β es} (h : SimW G σ w) (hb : Below w.heap.size w w') (hn : w.heap.size ≤ β) (hw : Le G w (G.addMp σ.next β) w' → MpOK (G.addMp σ.next β) w' σ.next es) : SimW (G.addMp σ.next β) (σ.addMp es) w' := by
  have hl := Le.addMp h hb β
  have hown : ∀ γ k, Owns (G.addMp σ.next β) (σ.addMp es) γ k → (γ = β ∧ k = (1, σ.next)) ∨ Owns G σ γ k := by
    intro γ k hk
    cases hk with
    | mp b' β' cs2 h2 g2 =>
      by_cases e : b' = σ.next
      · subst e; exact .inl ⟨(Option.some.inj ((upd_same G.mp σ.next (some β)).symm.trans g2)).symm, rfl⟩
      · exact .inr (.mp _ _ cs2 ((upd_ne _ _ e).symm.trans h2) ((upd_ne _ _ e).symm.trans g2))
    | bx b' β' cs2 h2 g2 => exact .inr (.bx _ _ cs2 h2 g2)
    | sl b' β' r cs2 h2 g2 => exact .inr (.sl _ _ r cs2 h2 g2)
  refine ⟨h.base.go hl.below, fun b' cs2 e => (h.bx b' cs2 e).mono hl fun γ g => hb.block γ ((h.bx b' cs2 e).lt g), fun b' cs2 e => ?_, fun b' cs2 e => (h.sl b' cs2 e).mono hl fun γ r g => hb.block γ ((h.sl b' cs2 e).lt g), ?_,
    fun γ o e => Nat.lt_of_lt_of_le (h.stIn γ o e) hb.size, fun b' hb' => ?_⟩
  · by_cases eb : b' = σ.next
    · subst eb
      obtain rfl := Option.some.inj ((upd_same σ.mp σ.next (some es)).symm.trans e)
      exact hw hl
    · have e' : σ.mp b' = some cs2 := (upd_ne _ _ eb).symm.trans e
      exact (h.mp b' cs2 e').mono hl fun γ g => hb.block γ ((h.mp b' cs2 e').lt g)
  · intro γ k hk
    rcases hown γ k hk with ⟨rfl, rfl⟩ | hk
    · refine ⟨Nat.le_trans h.base.le hn, fun k' hk' => ?_, fun o e => ?_⟩
      · rcases hown _ k' hk' with ⟨_, rfl⟩ | hk'
        · rfl
        · have := h.own_lt hk'; omega
      · have := h.stIn _ o e; omega
    · have hlt := h.own_lt hk
      refine ⟨(h.own γ k hk).1, fun k' hk' => ?_, (h.own γ k hk).2.2⟩
      rcases hown _ k' hk' with ⟨rfl, _⟩ | hk'
      · omega
      · exact (h.own γ k hk).2.1 k' hk'
  · have hb2 : σ.next + 1 ≤ b' := hb'
    obtain ⟨f1, f2, f3, f4, f5, f6⟩ := h.fresh b' (by omega)
    have : b' ≠ σ.next := by omega
    exact ⟨f1, (upd_ne _ _ this).trans f2, f3, f4, (upd_ne _ _ this).trans f5, f6⟩
theorem SimW.addSl {G σ w w' xs} (r : Option (Nat × Nat × Nat × Nat)) (h : SimW G σ w) (hb : Below w.heap.size w w') (hn : ∀ β q, r = some (β, q) → w.heap.size ≤ β)
    (hw : Le G w (G.addSl σ.next r) w' → SlOK (G.addSl σ.next r) w' σ.next xs) : SimW (G.addSl σ.next r) (σ.addSl xs) w' := by
  have hl := Le.addSl h hb r
  have hown : ∀ γ k, Owns (G.addSl σ.next r) (σ.addSl xs) γ k → (w.heap.size ≤ γ ∧ k = (2, σ.next)) ∨ Owns G σ γ k := by
    intro γ k hk
    cases hk with
    | sl b' β' q cs2 h2 g2 =>
      by_cases e : b' = σ.next
      · subst e; exact .inl ⟨hn _ _ (Option.some.inj ((upd_same G.sl σ.next (some r)).symm.trans g2)), rfl⟩
      · exact .inr (.sl _ _ q cs2 ((upd_ne _ _ e).symm.trans h2) ((upd_ne _ _ e).symm.trans g2))
    | bx b' β' cs2 h2 g2 => exact .inr (.bx _ _ cs2 h2 g2)
    | mp b' β' cs2 h2 g2 => exact .inr (.mp _ _ cs2 h2 g2)
  refine ⟨h.base.go hl.below, fun b' cs2 e => (h.bx b' cs2 e).mono hl fun γ g => hb.block γ ((h.bx b' cs2 e).lt g), fun b' cs2 e => (h.mp b' cs2 e).mono hl fun γ g => hb.block γ ((h.mp b' cs2 e).lt g), fun b' cs2 e => ?_, ?_,
    fun γ o e => Nat.lt_of_lt_of_le (h.stIn γ o e) hb.size, fun b' hb' => ?_⟩
  · by_cases eb : b' = σ.next
    · subst eb
      obtain rfl := Option.some.inj ((upd_same σ.sl σ.next (some xs)).symm.trans e)
      exact hw hl
    · have e' : σ.sl b' = some cs2 := (upd_ne _ _ eb).symm.trans e
      exact (h.sl b' cs2 e').mono hl fun γ q g => hb.block γ ((h.sl b' cs2 e').lt g)
  · intro γ k hk
    rcases hown γ k hk with ⟨hge, rfl⟩ | hk
    · refine ⟨Nat.le_trans h.base.le hge, fun k' hk' => ?_, fun o e => ?_⟩
      · rcases hown _ k' hk' with ⟨_, rfl⟩ | hk'
        · rfl
        · have := h.own_lt hk'; omega
      · have := h.stIn _ o e; omega
    · have hlt := h.own_lt hk
      refine ⟨(h.own γ k hk).1, fun k' hk' => ?_, (h.own γ k hk).2.2⟩
      rcases hown _ k' hk' with ⟨hge, _⟩ | hk'
      · omega
      · exact (h.own γ k hk).2.1 k' hk'
  · have hb2 : σ.next + 1 ≤ b' := hb'
    obtain ⟨f1, f2, f3, f4, f5, f6⟩ := h.fresh b' (by omega)
    have : b' ≠ σ.next := by omega
    exact ⟨f1, f2, (upd_ne _ _ this).trans f3, f4, f5, (upd_ne _ _ this).trans f6⟩
/-- New blocks, some of whose cells stay as they are. -/
theorem SimW.addSt {G σ w w'} (h : SimW G σ w) (hb : Below w.heap.size w w') (q : Nat → Nat → Prop) (hq : ∀ β o, q β o → w.heap.size ≤ β ∧ β < w'.heap.size) : SimW (G.addSt q) σ w' := by
  have hl := Le.addSt h hb q fun β o e => (hq β o e).1
  have hown : ∀ γ k, Owns (G.addSt q) σ γ k → Owns G σ γ k := by
    intro γ k hk
    cases hk with
    | bx b' β' cs2 h2 g2 => exact .bx _ _ cs2 h2 g2
    | mp b' β' cs2 h2 g2 => exact .mp _ _ cs2 h2 g2
    | sl b' β' r cs2 h2 g2 => exact .sl _ _ r cs2 h2 g2
  refine ⟨h.base.go hl.below, fun b cs e => (h.bx b cs e).mono hl fun γ g => hb.block γ ((h.bx b cs e).lt g), fun b cs e => (h.mp b cs e).mono hl fun γ g => hb.block γ ((h.mp b cs e).lt g),
    fun b cs e => (h.sl b cs e).mono hl fun γ r g => hb.block γ ((h.sl b cs e).lt g), fun γ k hk => ?_, fun γ o e => ?_, h.fresh⟩
  · have hk := hown γ k hk
    refine ⟨(h.own γ k hk).1, fun k' hk' => (h.own γ k hk).2.1 k' (hown _ _ hk'), fun o e => ?_⟩
    rcases e with e | e
    · exact (h.own γ k hk).2.2 o e
    · have := (hq _ _ e).1; have := h.own_lt hk; omega
  · rcases e with e | e
    · exact Nat.lt_of_lt_of_le (h.stIn γ o e) hb.size
    · exact (hq _ _ e).2
/-! ### forgetting -/
/-- Fewer things are known. -/
structure ASt.Le (τ σ : ASt) : Prop where
  bx : ∀ b cs, τ.bx b = some cs → σ.bx b = some cs
  mp : ∀ b cs, τ.mp b = some cs → σ.mp b = some cs
  sl : ∀ b cs, τ.sl b = some cs → σ.sl b = some cs
  next : σ.next ≤ τ.next
theorem SimW.less {G σ τ w} (h : SimW G σ w) (l : τ.Le σ) : SimW G τ w := by
  have hown : ∀ γ k, Owns G τ γ k → Owns G σ γ k := by
    intro γ k hk
    cases hk with
    | bx b' β' cs2 h2 g2 => exact .bx _ _ cs2 (l.bx _ _ h2) g2
    | mp b' β' cs2 h2 g2 => exact .mp _ _ cs2 (l.mp _ _ h2) g2
    | sl b' β' r cs2 h2 g2 => exact .sl _ _ r cs2 (l.sl _ _ h2) g2
  refine ⟨h.base, fun b cs e => h.bx b cs (l.bx b cs e), fun b cs e => h.mp b cs (l.mp b cs e), fun b cs e => h.sl b cs (l.sl b cs e), fun γ k hk => ?_, h.stIn, fun b hb => ?_⟩
  · exact ⟨(h.own γ k (hown _ _ hk)).1, fun k' hk' => (h.own γ k (hown _ _ hk)).2.1 k' (hown _ _ hk'), (h.own γ k (hown _ _ hk)).2.2⟩
  · obtain ⟨f1, f2, f3, f4, f5, f6⟩ := h.fresh b (Nat.le_trans l.next hb)
    refine ⟨f1, f2, f3, ?_, ?_, ?_⟩
    · cases e : τ.bx b with
      | none => rfl
      | some cs => rw [l.bx b cs e] at f4; cases f4
    · cases e : τ.mp b with
      | none => rfl
      | some cs => rw [l.mp b cs e] at f5; cases f5
    · cases e : τ.sl b with
      | none => rfl
      | some cs => rw [l.sl b cs e] at f6; cases f6
end Go.AL
/-! Code in whatever frame: a function's own, or a round's of a range over a function. -/
namespace Go.AL
set_option linter.unusedVariables false
set_option linter.unusedSimpArgs false
/-- Of what round's frame. -/
class Rd where
  ro : Option Nat
/-- Where a range over a function may stand: not in a round. -/
class FitD [r : Rd] (D : List Deferred) : Prop where
  fit : D ≠ mkD ∨ r.ro = none
variable {P : Program}
def wideR [r : Rd] : Fence := { Fence.wide with round := r.ro }
theorem wideR_fenced [r : Rd] (m : Machine) : m.fenced P wideR := fenced_wide P m
theorem wideR_callsIn [r : Rd] {n f args w R} : CallsIn wideR n P f args w R ↔ Calls P f args w R := callsIn_wide
def wpc [r : Rd] (P : Program) (c : Code) (Q : Exit → Act → World → Prop) (a : Act) (w : World) : Prop := c.wpIn wideR 2 P Q a w
variable {Q : Exit → Act → World → Prop} {a : Act} {w : World}
section
variable [Rd]
theorem wp_mono {c : Code} {Q' : Exit → Act → World → Prop} (h : wpc P c Q a w) (hq : ∀ e a w, Q e a w → Q' e a w) : wpc P c Q' a w := wpIn_mono h hq
theorem wp_skip (h : Q .normal a w) : wpc P .skip Q a w := wpIn_skip h
theorem wp_label {l : Nat} (h : Q .normal a w) : wpc P (.label l) Q a w := wpIn_label h
theorem wp_exit {id : Nat} (h : Q (.exit id) a w) : wpc P (.exit id) Q a w := wpIn_exit h
theorem wp_goto {l : Nat} (h : Q (.goto l) a w) : wpc P (.goto l) Q a w := wpIn_goto h
theorem wp_ret (h : Q .ret a w) : wpc P .ret Q a w := wpIn_ret h
theorem wp_seq {x y : Code} (h : wpc P x (Exit.then (wpc P y Q) Q) a w) : wpc P (.seq x y) Q a w := wpIn_seq h
theorem wp_block {id : Nat} {c : Code} (h : wpc P c (Exit.inBlock id Q) a w) : wpc P (.block id c) Q a w := wpIn_block h
theorem wp_cond_split {c : Operand} {x y : Code} {t : Bool} (hc : a.eval c = .bool t) (ht : t = true → wpc P x Q a w) (hf : t = false → wpc P y Q a w) : wpc P (.cond c x y) Q a w := wpIn_cond_split hc ht hf
end
/-! ### an operation -/
/-- What is asked behind an operation: no panic, no deferred call. -/
def uponW (P : Program) (o : Oper) (a : Act) (next : Act → World → Prop) : Result Next → Prop
  | .ok (.value v) w' => next (a.put o.dst v) w'
  | .ok .skip w' => next (a.put o.dst undef) w'
  | .ok (.enter f args) w' => Calls P f args w' fun
      | .returned v, w'' => next (a.put o.dst v) w''
      | _, _ => False
  | .ok (.round l f tmps assign body) w' => RoundIn Fence.wide 1 P l f tmps assign body w' fun
      | .returned v, w'' => next (a.put o.dst v) w''
      | _, _ => False
  | _ => False
def wpO (P : Program) (o : Oper) (a : Act) (w : World) (next : Act → World → Prop) (Q : Exit → Act → World → Prop) : Prop := uponW P o a next ((execOp a.eval o).run P w)
theorem wpO_mono {o : Oper} {K K' : Act → World → Prop} (h : ∀ a w, K a w → K' a w) (hh : wpO P o a w K Q) : wpO P o a w K' Q := by
  unfold wpO at *
  generalize (execOp a.eval o).run P w = r at hh
  cases r with
  | halt => exact hh
  | ok x w' =>
    cases x <;> simp only [uponW] at hh ⊢ <;> first
      | exact h _ _ hh
      | exact Calls.mono hh fun e w'' he => by cases e <;> first | exact h _ _ he | exact he
      | exact RoundIn.mono hh fun e w'' he => by cases e <;> first | exact h _ _ he | exact he
theorem wpO_weaken {Q' : Exit → Act → World → Prop} {o : Oper} {K : Act → World → Prop} (hh : wpO P o a w K Q) : wpO P o a w K Q' := hh
theorem wpO_in [r : Rd] {o : Oper} {K : Act → World → Prop} (h : wpO P o a w K Q) : o.wpIn wideR 2 P a w K Q := by
  refine ⟨fun _ _ => trivial, ?_⟩
  unfold wpO at h
  have hnd : ∀ c, o.op ≠ .defer c := by
    intro c hc
    have h1 : execOp a.eval o = (do pure (.defer (← resolve a.eval c o.type))) := by simp [execOp, hc]
    rw [h1] at h
    simp only [Sem.run_bind] at h
    cases hr : (resolve a.eval c o.type).run P w with
    | ok d w' => rw [hr] at h; exact h
    | halt x w' => rw [hr] at h; exact h
  rw [Oper.semAt_eq wideR.round a.eval o hnd]
  generalize (execOp a.eval o).run P w = n at h
  cases n with
  | halt => exact h.elim
  | ok x w' =>
    cases x with
    | value v => exact h
    | skip => exact h
    | enter f args =>
      refine ⟨fun _ => by decide, wideR_callsIn.2 (Calls.mono h fun e w'' he => ?_)⟩
      cases e with
      | returned v => exact he
      | _ => exact he.elim
    | round l f tmps assign body =>
      refine ⟨fun _ => by decide, RoundIn.mono (F := wideR) (show RoundIn wideR 1 P l f tmps assign body w' _ from h) fun e w'' he => ?_⟩
      cases e with
      | returned v => exact he
      | _ => exact he.elim
    | _ => exact h.elim
/-! ### regions -/
def wpList (P : Program) (ops : Array Oper) (Q : Exit → Act → World → Prop) : List Oper → Act → World → Prop
  | [], a, w => Q .normal a w
  | o :: rest, a, w => if Region.wanted o (yielded ops a.tmps) then wpO P o a w (wpList P ops Q rest) Q else wpList P ops Q rest (a.put o.dst undef) w
variable {ops : Array Oper}
theorem wpList_in [Rd] : ∀ (l : List Oper) (a : Act) (w : World), wpList P ops Q l a w → wpListIn wideR 2 P ops Q l a w
  | [], _, _, h => h
  | o :: l, a, w, h => by
    unfold wpList at h
    unfold wpListIn
    split
    · rename_i hw; rw [if_pos hw] at h; exact wpO_in (wpO_mono (fun a w h => wpList_in l a w h) h)
    · rename_i hw; rw [if_neg hw] at h; exact ⟨fun _ _ => trivial, wpList_in l _ _ h⟩
theorem wpList_nil (h : Q .normal a w) : wpList P ops Q [] a w := h
theorem wp_region_lit [Rd] {id : Nat} {l : List Oper} (h : wpList P l.toArray Q l a w) : wpc P (.region id l.toArray false) Q a w := wpIn_region_lit (wpList_in l a w h)
def wpOp (P : Program) (ops : Array Oper) (Q : Exit → Act → World → Prop) (i : Nat) (K : Act → World → Prop) (a : Act) (w : World) : Prop :=
  match ops[i]? with
  | none => K a w
  | some o => if Region.wanted o (yielded ops a.tmps) then wpO P o a w K Q else K (a.put o.dst undef) w
def wpAny (P : Program) (md : Region.Mode) (ops : Array Oper) (Q : Exit → Act → World → Prop) : Nat → Array Bool → Act → World → Prop
  | 0, listed, a, w => Region.ready md ops listed = [] ∧ Q .normal a w
  | fuel + 1, listed, a, w => (Region.ready md ops listed = [] → Q .normal a w) ∧ ∀ i ∈ Region.ready md ops listed, wpOp P ops Q i (wpAny P md ops Q fuel (listed.setIfInBounds i true)) a w
theorem wpOp_in [Rd] {i : Nat} {K K' : Act → World → Prop} (hk : ∀ a w, K a w → K' a w) (h : wpOp P ops Q i K a w) : wpOpIn wideR 2 P ops Q i K' a w := by
  unfold wpOp at h
  unfold wpOpIn
  split
  · rename_i ho; rw [ho] at h; exact hk _ _ h
  · rename_i o ho
    rw [ho] at h
    simp only at h
    split
    · rename_i hw; rw [if_pos hw] at h; exact wpO_in (wpO_mono hk h)
    · rename_i hw; rw [if_neg hw] at h; exact ⟨fun _ _ => trivial, hk _ _ h⟩
theorem wpAny_in [Rd] {md : Region.Mode} : ∀ (fuel : Nat) (listed : Array Bool) (a : Act) (w : World), wpAny P md ops Q fuel listed a w → wpAnyIn wideR 2 P md ops Q fuel listed a w
  | 0, _, _, _, h => h
  | fuel + 1, listed, a, w, h => ⟨h.1, fun i hi => wpOp_in (fun a w h => wpAny_in fuel _ a w h) (h.2 i hi)⟩
theorem wp_region_any [Rd] {id : Nat} (hm : P.follows .mixedOrders = true) (h : wpAny P .any ops Q ops.size (Array.replicate ops.size false) a { w with drawn := w.drawn + 1 }) : wpc P (.region id ops true) Q a w :=
  wpIn_region_any hm (wpAny_in _ _ _ _ h)
/-! ### steps -/
section
variable {b : Frame} {k : List Item} {cs : List Frame}
theorem stepR_scope' {c : Code} : step P (lone (b.atR a (.code (.scope c) :: k)) cs w) = .next (lone (b.atR a (.code c :: .inScope c :: k)) cs w) := step_lone_go (by simp [stepG, stepG.exec, Frame.atR])
theorem stepR_inScope' {c : Code} : step P (lone (b.atR a (.inScope c :: k)) cs w) = .next (lone (b.atR a k) cs w) := step_lone_go (by simp [stepG, stepG.exec, Frame.atR])
end
/-- A function's own code. -/
theorem wpc_wp {c : Code} : @wpc ⟨none⟩ P c Q a w ↔ c.wp P Q a w := wpIn_wide
end Go.AL
