/- Parts of the proof of BranchOthers: the logic, contracts, plain laws. -/
import Derived.Test.YtjldlcakinmajaaZBranchOthers2
import Derived.Laws.CopyRow
import Derived.Laws.Tables
import Derived.Great.BuildSlice
import Derived.Laws.AppendOwn
/-! Operations, third part: lengths, indexes, cuts, boxes, stores, structs. -/
namespace Go.AL
open Go.RowKit (Below)
set_option linter.unusedVariables false
set_option linter.unusedSimpArgs false
variable {P : Program} {o : Oper} {ρ : Operand → AV} {σ : ASt} {R : AV → ASt → Prop}
theorem execOp_builtin (e : Operand → Value) {b : Builtin} {args : Array Operand} {ts : Array TypeId} (ho : o.op = .call { callee := .builtin b, args := args, argTypes := ts }) :
    execOp e o = builtin b ts o.type (args.map fun | .const _ => true | _ => false) (args.map e) := by
  simp only [execOp, ho, resolve]
  rfl
/-! ### len, min, max -/
def isIt : List (AV × AV) → Bool
  | [(.vsl [.agg [], .agg [.any]], _)] => true
  | _ => false
def alen (P : Program) (σ : ASt) (t : TypeId) : AV → Option Int
  | .p (.string s) => if isString P t = true then some s.size else none
  | .vsl xs => if isSlice P t = true then some xs.length else none
  | .hsl _ _ n => if isSlice P t = true then some n else none
  | .p (.slice _ n _) => if isSlice P t = true then some n else none
  | .map m => if isMapT P t = true then (σ.mp m).bind fun es => if isIt es = true then none else some (es.length : Int) else none
  | .p (.map none) => if isMapT P t = true then some 0 else none
  | _ => none
theorem isSlice_spec {t : TypeId} (h : isSlice P t = true) : ∃ e, P.underlying t = some (.slice e) := by
  unfold isSlice at h; split at h
  · exact ⟨_, by assumption⟩
  · cases h
theorem isString_spec {t : TypeId} (h : isString P t = true) : P.underlying t = some .string := by
  unfold isString at h; split at h
  · assumption
  · cases h
theorem isMapT_spec {t : TypeId} (h : isMapT P t = true) : ∃ k e, P.underlying t = some (.map k e) := by
  unfold isMapT at h; split at h
  · exact ⟨_, _, by assumption⟩
  · cases h
theorem ite_some' {α : Type} {c : Prop} [Decidable c] {b : Option α} {b' : α} (h : (if c then b else none) = some b') : c ∧ b = some b' := by
  split at h
  · rename_i hc; exact ⟨hc, h⟩
  · cases h
theorem run_getObj_map {w : World} {r : Nat} {es : Array MapEntry} {c : Nat} (h : w.heap[r]? = some (.map es c)) : (getObj r).run P w = .ok (.map es c) w := by
  simp [getObj, Sem.run, h]
theorem run_len_of {t ty : TypeId} {x : AV} {n : Int} (h : alen P σ t x = some n) {G w v} (hw : SimW G σ w) (hx : Rep G w x v) : (Builtin.len_ #[t] ty #[v]).run P w = .ok (.int .i64 n) w := by
  cases hx with
  | p =>
    cases v with
    | string s =>
      obtain ⟨ht, hn⟩ := ite_some' h
      obtain rfl := Option.some.inj hn
      simp [Builtin.len_, run_underlying' (isString_spec ht), goInt]
    | slice a l c =>
      obtain ⟨ht, hn⟩ := ite_some' h
      obtain rfl := Option.some.inj hn
      obtain ⟨e, he⟩ := isSlice_spec ht
      simp [Builtin.len_, run_underlying' he, goInt]
    | map r =>
      cases r with
      | some r => cases h
      | none =>
        obtain ⟨ht, hn⟩ := ite_some' h
        obtain rfl := Option.some.inj hn
        obtain ⟨k, e, he⟩ := isMapT_spec ht
        simp [Builtin.len_, run_underlying' he, goInt]
    | _ => cases h
  | vnil a cap =>
    obtain ⟨ht, hn⟩ := ite_some' h
    obtain rfl := Option.some.inj hn
    obtain ⟨e, he⟩ := isSlice_spec ht
    simp [Builtin.len_, run_underlying' he, goInt]
  | vsl xs =>
    obtain ⟨ht, hn⟩ := ite_some' h
    obtain rfl := Option.some.inj hn
    obtain ⟨e, he⟩ := isSlice_spec ht
    simp [Builtin.len_, run_underlying' he, goInt]
  | hsl =>
    obtain ⟨ht, hn⟩ := ite_some' h
    obtain rfl := Option.some.inj hn
    obtain ⟨e, he⟩ := isSlice_spec ht
    simp [Builtin.len_, run_underlying' he, goInt]
  | hend =>
    obtain ⟨ht, hn⟩ := ite_some' h
    obtain rfl := Option.some.inj hn
    obtain ⟨e, he⟩ := isSlice_spec ht
    simp [Builtin.len_, run_underlying' he, goInt]
  | hnil =>
    obtain ⟨ht, hn⟩ := ite_some' h
    obtain rfl := Option.some.inj hn
    obtain ⟨e, he⟩ := isSlice_spec ht
    simp [Builtin.len_, run_underlying' he, goInt]
  | map m μ g =>
    obtain ⟨ht, hn⟩ := ite_some' h
    obtain ⟨es, hm, hn⟩ := Option.bind_eq_some_iff.1 hn
    obtain ⟨hit, rfl⟩ : isIt es = false ∧ (es.length : Int) = n := by
      split at hn
      · cases hn
      · rename_i h; exact ⟨by simpa using h, Option.some.inj hn⟩
    obtain ⟨k, e, he⟩ := isMapT_spec ht
    obtain ⟨μ', ents, clock, h1, h2, h3, _⟩ : ∃ μ ents clock, G.mp m = some μ ∧ w.heap[μ]? = some (.map ents clock) ∧ ents.size = es.length ∧ True := by
      rcases hw.mp m es hm with ⟨μ, ents, clock, h1, h2, h3, _⟩ | ⟨μ, ob, ofr, _, _, _, rfl⟩
      · exact ⟨μ, ents, clock, h1, h2, h3, trivial⟩
      · cases hit
    obtain rfl := Option.some.inj (g.symm.trans h1)
    simp [Builtin.len_, run_underlying' he, goInt, run_getObj_map h2, h3]
  | _ => cases h
theorem opq_len {t : TypeId} {x : Operand} (ho : o.op = .call { callee := .builtin .len, args := #[x], argTypes := #[t] }) {n : Int} (h : alen P σ t (ρ x) = some n) (hr : R (.p (.int .i64 n)) σ) : OpQ P o ρ σ R := by
  refine opq_v (s := fun e => Builtin.len_ #[t] o.type #[e x]) (fun e => by rw [execOp_builtin e ho]; simp [builtin]) _ hr fun G e w he hw => ⟨_, run_len_of h hw (he x), .p _⟩
def amm (mx : Bool) : AV → AV → Option Value
  | .p (.int k a), .p (.int _ b) => some (.int k (if mx = true then (if b > a then b else a) else (if b < a then b else a)))
  | _, _ => none
theorem opq_mm {ts : Array TypeId} {x y : Operand} {mx : Bool} (ho : o.op = .call { callee := .builtin (if mx = true then .max else .min), args := #[x, y], argTypes := ts }) {v : Value} (h : amm mx (ρ x) (ρ y) = some v) (hr : R (.p v) σ) : OpQ P o ρ σ R := by
  refine opq_val (.p v) hr fun G e w he hw => ⟨v, ?_, .p v⟩
  rw [execOp_builtin e ho]
  have hx := he x
  have hy := he y
  generalize ρ x = cx at h hx
  generalize ρ y = cy at h hy
  simp only [Array.map, List.map_toArray]
  unfold amm at h
  split at h
  · generalize hvx : e x = vx at hx
    generalize hvy : e y = vy at hy
    cases hx; cases hy
    obtain rfl := Option.some.inj h
    cases mx
    · simp [builtin, Builtin.min_, Builtin.min2, hvx, hvy]
    · simp [builtin, Builtin.max_, Builtin.max2, hvx, hvy]
  · cases h
/-! ### one operand -/
def aun (op : UnOp) : AV → Option Value
  | .p (.int k n) => match op with
    | .neg => some (.int k (k.wrap (0 - n)))
    | _ => none
  | .p (.bool b) => match op with
    | .not => some (.bool !b)
    | _ => none
  | _ => none
theorem opq_unOp {op : UnOp} {t : TypeId} {x : Operand} (ho : o.op = .unOp op t x) {v : Value} (h : aun op (ρ x) = some v) (hr : R (.p v) σ) : OpQ P o ρ σ R := by
  refine opq_v (s := fun e => Op.unary op (e x)) (fun e => by simp only [execOp, ho]) (.p v) hr fun G e w he hw => ⟨v, ?_, .p v⟩
  have hx := he x
  generalize ρ x = cx at h hx
  generalize e x = vx at hx
  unfold aun at h
  split at h
  · cases hx
    split at h
    · obtain rfl := Option.some.inj h; rfl
    · cases h
  · cases hx
    split at h
    · obtain rfl := Option.some.inj h; rfl
    · cases h
  · cases h
def aconv (P : Program) (src dst : TypeId) : AV → Option Value
  | .p (.int _ n) => match P.underlying src, P.underlying dst with
    | some _, some (.int k) => some (.int k (k.wrap n))
    | _, _ => none
  | .p (.string s) => match P.underlying src, P.underlying dst with
    | some .string, some .string => some (.string s)
    | _, _ => none
  | _ => none
theorem opq_convert {src dst : TypeId} {x : Operand} (ho : o.op = .convert src dst x) {v : Value} (h : aconv P src dst (ρ x) = some v) (hr : R (.p v) σ) : OpQ P o ρ σ R := by
  refine opq_v (s := fun e => convert src dst (e x)) (fun e => by simp only [execOp, ho]) (.p v) hr fun G e w he hw => ⟨v, ?_, .p v⟩
  have hx := he x
  generalize ρ x = cx at h hx
  generalize e x = vx at hx
  unfold aconv at h
  split at h
  · cases hx
    split at h
    · rename_i d k h1 h2
      obtain rfl := Option.some.inj h
      simp only [convert, Sem.run_bind, run_underlying' h1, run_underlying' h2, Result.andThen_ok]
      cases d <;> rfl
    · cases h
  · cases hx
    split at h
    · rename_i h1 h2
      obtain rfl := Option.some.inj h
      simp only [convert, Sem.run_bind, run_underlying' h1, run_underlying' h2, Result.andThen_ok]
      rfl
    · cases h
  · cases h
/-! ### indexes -/
def aindexS (P : Program) (t : TypeId) : AV → AV → Option Value
  | .p (.string s), .p (.int _ i) => if isString P t = true then (if 0 ≤ i then (s.data.toList[i.toNat]?).map fun b => .int .u8 b.toNat else none) else none
  | _, _ => none
theorem opq_indexS {t : TypeId} {x i : Operand} (ho : o.op = .index t x i) {v : Value} (h : aindexS P t (ρ x) (ρ i) = some v) (hr : R (.p v) σ) : OpQ P o ρ σ R := by
  refine opq_v (s := fun e => Instr.index t (e x) (e i)) (fun e => by simp only [execOp, ho]) (.p v) hr fun G e w he hw => ⟨v, ?_, .p v⟩
  have hx := he x
  have hi := he i
  generalize ρ x = cx at h hx
  generalize e x = vx at hx
  generalize ρ i = ci at h hi
  generalize e i = vi at hi
  unfold aindexS at h
  split at h
  · rename_i s k n
    cases hx; cases hi
    obtain ⟨ht, h⟩ := ite_some' h
    obtain ⟨h0, h⟩ := ite_some' h
    obtain ⟨b, hb, rfl⟩ := Option.map_eq_some_iff.1 h
    have hb' : s[n.toNat]? = some b := by
      have h1 := (List.getElem?_eq_some_iff.1 hb)
      obtain ⟨hlt, he⟩ := h1
      have hlt' : n.toNat < s.size := by simpa using hlt
      rw [getElem?_pos s n.toNat hlt']
      exact congrArg some he
    simp only [Instr.index, asIntOf, Sem.run_bind, Sem.run_pure, Result.andThen_ok, run_underlying' (isString_spec ht), if_pos h0, hb']
  · cases h
def aindexI (P : Program) (σ : ASt) (t : TypeId) (x : AV) (k : Nat) : Option AV :=
  match x with
  | .vsl xs => (telem P t).bind fun q => (xs[k]?).bind fun y => if y.cells.length = q.1 then some (.vel xs k 0) else none
  | .hsl b off n => (telem P t).bind fun q => if k < n then (σ.sl b).bind fun xs => (xs[off + k]?).bind fun y => if y.cells.length = q.1 then some (.hel b (off + k) 0) else none else none
  | x => (tarr P t).bind fun q => if k < q.1 then ashift (k * q.2.1) x else none
def aindexAddr (P : Program) (σ : ASt) (t : TypeId) (x : AV) : AV → Option AV
  | .p (.int _ i) => if 0 ≤ i then aindexI P σ t x i.toNat else none
  | _ => none
theorem telem_spec {t n g by_} (h : telem P t = some (n, g, by_)) : ∃ e i, P.underlying t = some (.slice e) ∧ P.info? e = some i ∧ tsize P e = some (n, g) ∧ i.bytes = by_ := by
  unfold telem at h
  split at h
  · rename_i e he
    split at h
    · rename_i i n' g' hi hn
      simp only [Option.some.injEq, Prod.mk.injEq] at h
      obtain ⟨rfl, rfl, rfl⟩ := h
      exact ⟨e, i, he, hi, hn, rfl⟩
    · cases h
  · cases h
theorem tarr_spec {t l n g} (h : tarr P t = some (l, n, g)) : ∃ e, P.underlying t = some (.array l e) ∧ tsize P e = some (n, g) := by
  unfold tarr at h
  split at h
  · rename_i l' e he
    split at h
    · rename_i n' g' hn
      simp only [Option.some.injEq, Prod.mk.injEq] at h
      obtain ⟨rfl, rfl, rfl⟩ := h
      exact ⟨e, he, hn⟩
    · cases h
  · cases h
theorem aindexI_spec {t : TypeId} {x r : AV} {n : Int} (h : aindexI P σ t x n.toNat = some r) (h0 : 0 ≤ n) {G w v k} (hw : SimW G σ w) (hx : Rep G w x v) : ∃ u, (Instr.indexAt t v (.int k n)).run P w = .ok u w ∧ Rep G w r u := by
  unfold aindexI at h
  split at h
  · rename_i xs
    obtain ⟨⟨m, g, by_⟩, hq, h⟩ := Option.bind_eq_some_iff.1 h
    obtain ⟨y, hy, h⟩ := Option.bind_eq_some_iff.1 h
    obtain ⟨hl, h⟩ := ite_some' h
    obtain rfl := Option.some.inj h
    obtain ⟨e', i', h1, h2, h3, _⟩ := telem_spec hq
    have hlt := (List.getElem?_eq_some_iff.1 hy).1
    cases hx with
    | vnil => simp at hlt
    | vsl _ β o s cap val hcap hs hc hrr =>
      have hs' : s = m := (hs _ _ hy).symm.trans hl
      subst hs'
      refine ⟨.pointer (some ⟨β, o + n.toNat * s, none⟩), ?_, .vel xs n.toNat 0 β o s val hs hc hrr⟩
      have hc2 : 0 ≤ n ∧ n < (xs.length : Int) := ⟨h0, by omega⟩
      simp [Instr.indexAt, asIntOf, run_underlying' h1, hc2, run_sizeOf' h3, addr_add]
  · rename_i b off len
    obtain ⟨⟨m, g, by_⟩, hq, h⟩ := Option.bind_eq_some_iff.1 h
    obtain ⟨hlt, h⟩ := ite_some' h
    obtain ⟨xs, hxs, h⟩ := Option.bind_eq_some_iff.1 h
    obtain ⟨y, hy, h⟩ := Option.bind_eq_some_iff.1 h
    obtain ⟨hl, h⟩ := ite_some' h
    obtain rfl := Option.some.inj h
    obtain ⟨e', i', h1, h2, h3, _⟩ := telem_spec hq
    cases hx with
    | hsl _ _ _ β o s cap g hle =>
      rcases hw.sl b xs hxs with ⟨g1, _⟩ | ⟨β', o', s', cap', arr, el, g1, g2, g3, g4, g5, g6⟩
      · rw [g] at g1; cases g1
      · obtain ⟨rfl, rfl, rfl, rfl⟩ : β = β' ∧ o = o' ∧ s = s' ∧ cap = cap' := by rw [g] at g1; simpa using g1
        have hs' : s = m := (g5 _ _ hy).symm.trans hl
        subst hs'
        refine ⟨.pointer (some ⟨β, o + off * s + n.toNat * s, none⟩), ?_, ?_⟩
        · have hc2 : 0 ≤ n ∧ n < (len : Int) := ⟨h0, by omega⟩
          simp [Instr.indexAt, asIntOf, run_underlying' h1, hc2, run_sizeOf' h3, addr_add]
        · have : o + off * s + n.toNat * s = o + (off + n.toNat) * s + 0 := by rw [Nat.add_mul]; omega
          rw [this]
          exact .hel b (off + n.toNat) 0 β o s cap g
    | hend => omega
    | hnil => omega
  · obtain ⟨⟨l, m, g⟩, hq, h⟩ := Option.bind_eq_some_iff.1 h
    obtain ⟨hlt, h⟩ := ite_some' h
    obtain ⟨e', h1, h3⟩ := tarr_spec hq
    obtain ⟨β, o, rfl, hrep⟩ := ashift_spec h hx
    refine ⟨_, ?_, hrep⟩
    have hc2 : 0 ≤ n ∧ n < (l : Int) := ⟨h0, by have : n.toNat < l := hlt; omega⟩
    simp [Instr.indexAt, asIntOf, run_underlying' h1, Instr.sureAddr, hc2, run_sizeOf' h3, addr_add]
theorem opq_indexAddr {t : TypeId} {x i : Operand} (ho : o.op = .indexAddr t x i) {r : AV} (h : aindexAddr P σ t (ρ x) (ρ i) = some r) (hr : R r σ) : OpQ P o ρ σ R := by
  refine opq_v (s := fun e => Instr.indexAt t (e x) (e i)) (fun e => by simp only [execOp, ho]) r hr fun G e w he hw => ?_
  have hx := he x
  have hi := he i
  generalize ρ x = cx at h hx
  generalize e x = vx at hx
  generalize ρ i = ci at h hi
  generalize e i = vi at hi
  unfold aindexAddr at h
  split at h
  · cases hi
    obtain ⟨h0, h⟩ := ite_some' h
    exact aindexI_spec h h0 hw hx
  · cases h
end Go.AL
/-! Operations, fourth part: boxes, stores, structs. -/
namespace Go.AL
open Go.RowKit (Below)
set_option linter.unusedVariables false
set_option linter.unusedSimpArgs false
variable {P : Program} {o : Oper} {ρ : Operand → AV} {σ : ASt} {R : AV → ASt → Prop}
/-! ### one cell's values -/
def AV.one : AV → Bool
  | .p x => x.oneCell'
  | .agg _ | .tup _ | .any | .opt _ _ => false
  | _ => true
def AV.okv : AV → Bool
  | .agg cs => cs.all AV.one
  | v => v.one
theorem rep_one {G w c v} (h : AV.one c = true) (hr : Rep G w c v) : v.oneCell' = true := by
  cases hr <;> first | exact h | rfl | cases h
theorem rep_cells {G w x v} (hx : AV.okv x = true) (hr : Rep G w x v) : v.cells.size = x.cells.length ∧ (∀ (j : Nat) c u, x.cells[j]? = some c → v.cells[j]? = some u → Rep G w c u) ∧ (∀ u ∈ v.cells.toList, u.oneCell' = true) := by
  by_cases ha : ∃ cs, x = .agg cs
  · obtain ⟨cs, rfl⟩ := ha
    cases hr with
    | agg _ vs hs h =>
      refine ⟨hs.symm, fun j c u hc hu => h j c u hc hu, fun u hu => ?_⟩
      obtain ⟨j, hj, rfl⟩ := List.getElem_of_mem hu
      have hj' : j < cs.length := by rw [hs]; simpa [Value.cells] using hj
      have h1 := h j _ _ (List.getElem?_eq_getElem hj') (by rw [← Array.getElem?_toList]; exact List.getElem?_eq_getElem hj)
      exact rep_one (List.all_eq_true.1 hx _ (List.getElem_mem hj')) h1
  · have h1 : x.one = true := by cases x <;> first | exact hx | exact absurd ⟨_, rfl⟩ ha
    have hc : x.cells = [x] := by cases x <;> first | rfl | exact absurd ⟨_, rfl⟩ ha
    have hv := rep_one h1 hr
    have hvc : v.cells = #[v] := by cases v <;> first | rfl | cases hv
    rw [hc, hvc]
    refine ⟨rfl, fun j c u h2 h3 => ?_, fun u hu => ?_⟩
    · cases j with
      | zero =>
        obtain rfl := Option.some.inj h2
        have h3 : some v = some u := h3
        obtain rfl := Option.some.inj h3
        exact hr
      | succ j => simp at h2
    · simp at hu; subst hu; exact hv
/-! ### setting cells -/
def setCells : List AV → Nat → List AV → List AV
  | cs, _, [] => cs
  | cs, off, v :: vs => setCells (cs.set off v) (off + 1) vs
@[simp] theorem setCells_length : ∀ (cs : List AV) (off : Nat) (vs : List AV), (setCells cs off vs).length = cs.length
  | _, _, [] => rfl
  | cs, off, v :: vs => by rw [setCells, setCells_length]; simp
theorem setCells_get : ∀ (vs cs : List AV) (off k : Nat), off + vs.length ≤ cs.length → (setCells cs off vs)[k]? = if off ≤ k ∧ k < off + vs.length then vs[k - off]? else cs[k]?
  | [], cs, off, k, _ => by simp [setCells]; omega
  | v :: vs, cs, off, k, h => by
    simp only [List.length_cons] at h
    rw [setCells, setCells_get vs _ _ k (by simp; omega)]
    by_cases h1 : off + 1 ≤ k ∧ k < off + 1 + vs.length
    · rw [if_pos h1, if_pos (by simp; omega)]
      rw [show k - off = (k - (off + 1)) + 1 by omega, List.getElem?_cons_succ]
    · rw [if_neg h1]
      by_cases h2 : k = off
      · subst h2
        rw [if_pos (by simp), List.getElem?_set_self (by omega)]
        simp
      · rw [if_neg (by simp; omega), List.getElem?_set_ne (by omega)]
/-! ### new variables -/
theorem run_newVar (v : Value) (t : TypeId) (w : World) : (newVar t v).run P w = .ok ⟨w.heap.size, 0, none⟩ (w.alloc (.cells v.cells t)) := rfl
/-- A variable that nobody writes: its value goes with its address. -/
theorem new_ro {G σ w x v} (hw : SimW G σ w) (hx : AV.okv x = true) (hr : Rep G w x v) (t : TypeId) :
    ∃ G', Le G w G' (w.alloc (.cells v.cells t)) ∧ SimW G' σ (w.alloc (.cells v.cells t)) ∧ Rep G' (w.alloc (.cells v.cells t)) (.vel [x] 0 0) (.pointer (some ⟨w.heap.size, 0, none⟩)) := by
  have hb := below_alloc' w (.cells v.cells t)
  have hl := Le.addSt hw hb (fun β _ => β = w.heap.size) fun β o e => Nat.le_of_eq e.symm
  obtain ⟨h1, h2, _⟩ := rep_cells hx hr
  refine ⟨_, hl, hw.addSt hb _ (fun β o e => by subst e; exact ⟨Nat.le_refl _, by simp⟩), ?_⟩
  have key := Rep.vel (G := G.addSt fun β _ => β = w.heap.size) (w := w.alloc (.cells v.cells t)) [x] 0 0 w.heap.size 0 x.cells.length (fun _ j => v.cells.getD j undef)
    (fun i y hy => by cases i with | zero => simp at hy; rw [hy] | succ i => simp at hy)
    (fun i j c hc => by
      cases i with
      | succ i => simp [rowCell] at hc
      | zero =>
        have hc : x.cells[j]? = some c := by simpa [rowCell] using hc
        have hj : j < v.cells.size := by rw [h1]; exact (List.getElem?_eq_some_iff.1 hc).1
        refine ⟨.inr rfl, ?_⟩
        rw [cell_of_heap (heap_alloc_new w _)]
        simp [hj])
    (fun i j c hc => by
      cases i with
      | succ i => simp [rowCell] at hc
      | zero =>
        have hc : x.cells[j]? = some c := by simpa [rowCell] using hc
        have hj : j < v.cells.size := by rw [h1]; exact (List.getElem?_eq_some_iff.1 hc).1
        have := h2 j c _ hc (Array.getElem?_eq_getElem hj)
        simp only [Array.getD, hj, dif_pos]
        exact this.mono hl)
  simpa using key
theorem new_mut {G σ w x v} (hw : SimW G σ w) (hx : AV.okv x = true) (hr : Rep G w x v) (t : TypeId) :
    ∃ G', Le G w G' (w.alloc (.cells v.cells t)) ∧ SimW G' (σ.addBx x.cells) (w.alloc (.cells v.cells t)) ∧ Rep G' (w.alloc (.cells v.cells t)) (.ptr σ.next 0) (.pointer (some ⟨w.heap.size, 0, none⟩)) := by
  have hb := below_alloc' w (.cells v.cells t)
  obtain ⟨h1, h2, _⟩ := rep_cells hx hr
  exact ⟨_, Le.addBx hw hb w.heap.size, hw.addBx hb (Nat.le_refl _) (heap_alloc_new w _) h1 h2, .ptr _ _ _ (upd_same _ _ _)⟩
theorem opq_box_ro {t : TypeId} {x : Operand} (ho : o.op = .box t x) (hx : AV.okv (ρ x) = true) (hr : R (.vel [ρ x] 0 0) σ) : OpQ P o ρ σ R := by
  intro G e w he hw
  obtain ⟨G', h1, h2, h3⟩ := new_ro hw hx (he x) t
  simp only [execOp, ho, Instr.box, Sem.run_bind, run_newVar, Result.andThen_ok, Sem.run_pure]
  exact ⟨_, G', σ, h1, h2, h3, hr⟩
theorem opq_box_mut {t : TypeId} {x : Operand} (ho : o.op = .box t x) (hx : AV.okv (ρ x) = true) (hr : R (.ptr σ.next 0) (σ.addBx (ρ x).cells)) : OpQ P o ρ σ R := by
  intro G e w he hw
  obtain ⟨G', h1, h2, h3⟩ := new_mut hw hx (he x) t
  simp only [execOp, ho, Instr.box, Sem.run_bind, run_newVar, Result.andThen_ok, Sem.run_pure]
  exact ⟨_, G', _, h1, h2, h3, hr⟩
theorem tzero_spec {t : TypeId} {z : AV} (h : tzero P t = some z) : ∃ i v, P.info? t = some i ∧ i.zero = some v ∧ z = ofV v := by
  unfold tzero at h
  obtain ⟨v, hv, rfl⟩ := Option.map_eq_some_iff.1 h
  obtain ⟨i, hi, hz⟩ := Option.bind_eq_some_iff.1 hv
  exact ⟨i, v, hi, hz, rfl⟩
theorem run_zeroValue' {t : TypeId} {i : TypeInfo} {v : Value} (h : P.info? t = some i) (hz : i.zero = some v) (w : World) : (zeroValue t).run P w = .ok v w := by
  simp [zeroValue, run_typeInfo' h, hz]
theorem opq_alloc_ro {t : TypeId} (ho : o.op = .alloc t) {z : AV} (hz : tzero P t = some z) (hx : AV.okv z = true) (hr : R (.vel [z] 0 0) σ) : OpQ P o ρ σ R := by
  intro G e w he hw
  obtain ⟨i, v, hi, hv, rfl⟩ := tzero_spec hz
  obtain ⟨G', h1, h2, h3⟩ := new_ro hw hx (rep_ofV G w v) t
  simp only [execOp, ho, Instr.alloc, Sem.run_bind, run_zeroValue' hi hv, run_newVar, Result.andThen_ok, Sem.run_pure]
  exact ⟨_, G', σ, h1, h2, h3, hr⟩
theorem opq_alloc_mut {t : TypeId} (ho : o.op = .alloc t) {z : AV} (hz : tzero P t = some z) (hx : AV.okv z = true) (hr : R (.ptr σ.next 0) (σ.addBx z.cells)) : OpQ P o ρ σ R := by
  intro G e w he hw
  obtain ⟨i, v, hi, hv, rfl⟩ := tzero_spec hz
  obtain ⟨G', h1, h2, h3⟩ := new_mut hw hx (rep_ofV G w v) t
  simp only [execOp, ho, Instr.alloc, Sem.run_bind, run_zeroValue' hi hv, run_newVar, Result.andThen_ok, Sem.run_pure]
  exact ⟨_, G', _, h1, h2, h3, hr⟩
/-! ### stores -/
theorem touch_setRow (w : World) (g : Nat) (cs : Array Value) : Touch w (w.setRow g cs) g :=
  ⟨rfl, rfl, rfl, by simp [World.setRow], fun k hk => by simp only [World.setRow, Array.getElem?_modify]; rw [if_neg (fun e => hk e.symm)]⟩
theorem setRow_new {w : World} {g : Nat} {arr : Array Value} {el : TypeId} {fz : Nat × Nat} (h : w.heap[g]? = some (.cells arr el fz)) (cs : Array Value) : (w.setRow g cs).heap[g]? = some (.cells cs el fz) := by
  simp only [World.setRow, Array.getElem?_modify, if_true, h, Option.map_some]
theorem run_storeVar_of {t : TypeId} {n : Nat} {g : Bool} (ht : tsize P t = some (n, g)) {w : World} {β off : Nat} {arr : Array Value} {el : TypeId} {v : Value} (hg : w.heap[β]? = some (.cells arr el (0, 0)))
    (hn : v.cells.size = n) (hle : off + n ≤ arr.size) (h1 : ∀ u ∈ v.cells.toList, u.oneCell' = true) :
    (storeVar t ⟨β, off, none⟩ v).run P w = .ok () (w.setRow β (arr.toList.take off ++ v.cells.toList ++ arr.toList.drop (off + n)).toArray) := by
  have := run_storeCells_at (P := P) β off el v.cells.toList 0 arr w hg (by simp; omega) h1
  simp only [storeVar, Sem.run_bind, run_sizeOf' ht, Result.andThen_ok, hn, ne_eq, not_true, if_false, this]
  simp [hn]
theorem splice_get {α : Type} (arr : List α) (off n : Nat) (vs : List α) (hn : vs.length = n) (hle : off + n ≤ arr.length) (k : Nat) :
    (arr.take off ++ vs ++ arr.drop (off + n))[k]? = if off ≤ k ∧ k < off + n then vs[k - off]? else arr[k]? := by
  by_cases h1 : k < off
  · rw [if_neg (by omega), List.append_assoc, List.getElem?_append_left (by simp; omega), List.getElem?_take, if_pos h1]
  · by_cases h2 : k < off + n
    · rw [if_pos (by omega), List.append_assoc, List.getElem?_append_right (by simp; omega), List.getElem?_append_left (by simp; omega)]
      congr 1
      simp; omega
    · rw [if_neg (by omega), List.getElem?_append_right (by simp; omega), List.getElem?_drop]
      congr 1
      simp; omega
/-- What a store makes of memory. -/
def astoreC (cs : List AV) (off n : Nat) (x : AV) : Option (List AV) := if x.cells.length = n ∧ off + n ≤ cs.length ∧ x.okv = true then some (setCells cs off x.cells) else none
def putCells : AV → List AV → AV
  | .agg _, cs => .agg cs
  | x, [c] => c
  | x, _ => x
def astore (P : Program) (σ : ASt) (t : TypeId) (a x : AV) : Option ASt :=
  (tsize P t).bind fun q =>
  match a with
  | .ptr b off => (σ.bx b).bind fun cs => (astoreC cs off q.1 x).map fun cs' => { σ with bx := upd σ.bx b (some cs') }
  | .hel b i off => (σ.sl b).bind fun xs => (xs[i]?).bind fun y => (astoreC y.cells off q.1 x).bind fun cs' => if y.okv = true then some { σ with sl := upd σ.sl b (some (xs.set i (putCells y cs'))) } else none
  | _ => none
theorem astoreC_spec {cs cs' : List AV} {off n : Nat} {x : AV} (h : astoreC cs off n x = some cs') : x.cells.length = n ∧ off + n ≤ cs.length ∧ x.okv = true ∧ cs' = setCells cs off x.cells := by
  unfold astoreC at h
  split at h
  · rename_i hc
    exact ⟨hc.1, hc.2.1, hc.2.2, (Option.some.inj h).symm⟩
  · cases h
theorem putCells_cells {y : AV} {cs' : List AV} (hl : cs'.length = y.cells.length) (hc : ∀ c ∈ cs', c.one = true) : (putCells y cs').cells = cs' := by
  cases y with
  | agg cs => rfl
  | _ =>
    simp only [AV.cells, List.length_cons, List.length_nil, Nat.zero_add, List.length_eq_one_iff] at hl
    obtain ⟨c, rfl⟩ := hl
    have hc := hc c (by simp)
    cases c <;> first | rfl | cases hc
theorem okv_one {x : AV} (h : x.okv = true) : ∀ c ∈ x.cells, c.one = true := by
  intro c hc
  cases x with
  | agg cs => exact List.all_eq_true.1 h c hc
  | _ => simp only [AV.cells, List.mem_singleton] at hc; subst hc; exact h
theorem putCells_set {y x : AV} {off : Nat} (hy : y.okv = true) (hx : x.okv = true) (hle : off + x.cells.length ≤ y.cells.length) : (putCells y (setCells y.cells off x.cells)).cells = setCells y.cells off x.cells := by
  refine putCells_cells (by simp) fun c hc => ?_
  obtain ⟨k, hk, rfl⟩ := List.getElem_of_mem hc
  have h1 := setCells_get x.cells y.cells off k hle
  rw [List.getElem?_eq_getElem hk] at h1
  split at h1
  · exact okv_one hx _ (List.mem_of_getElem? h1.symm)
  · exact okv_one hy _ (List.mem_of_getElem? h1.symm)
theorem opq_store {t : TypeId} {x y : Operand} (ho : o.op = .store t x y) {σ' : ASt} (h : astore P σ t (ρ x) (ρ y) = some σ') (hr : R (.p undef) σ') : OpQ P o ρ σ R := by
  intro G e w he hw
  have hx := he x
  have hy := he y
  generalize ρ x = cx at h hx
  generalize hvx : e x = vx at hx
  generalize ρ y = cy at h hy
  generalize hvy : e y = vy at hy
  obtain ⟨⟨n, g⟩, hn, h⟩ := Option.bind_eq_some_iff.1 h
  have run : ∀ w', (Instr.storeAt t vx vy).run P w = .ok () w' → (execOp e o).run P w = .ok .skip w' := fun w' h => by
    simp [execOp, ho, hvx, hvy, h]
  cases hx with
  | ptr b off β gb =>
    obtain ⟨cs, hb, h⟩ := Option.bind_eq_some_iff.1 h
    obtain ⟨cs', hcs, rfl⟩ := Option.map_eq_some_iff.1 h
    obtain ⟨s1, s2, s3, rfl⟩ := astoreC_spec hcs
    obtain ⟨c1, c2, c3⟩ := rep_cells s3 hy
    obtain ⟨β', arr, el, h1, h2, h3, h4⟩ := hw.bx b cs hb
    obtain rfl := Option.some.inj (gb.symm.trans h1)
    have hcn : vy.cells.size = n := c1.trans s1
    have hst := run_storeVar_of hn h2 hcn (by rw [h3]; exact s2) c3
    have hst2 : (Instr.storeAt t (.pointer (some ⟨β, off, none⟩)) vy).run P w = .ok () (w.setRow β (arr.toList.take off ++ vy.cells.toList ++ arr.toList.drop (off + n)).toArray) := by
      simp only [Instr.storeAt, Instr.sureAddr, Sem.run_bind, Sem.run_pure, Result.andThen_ok, hst]
    rw [run _ hst2]
    have ht := touch_setRow w β (arr.toList.take off ++ vy.cells.toList ++ arr.toList.drop (off + n)).toArray
    refine ⟨.p undef, G, _, Le.touch hw (.bx b β cs hb gb) ht, hw.touch_bx hb gb ht (setRow_new h2 _) (by simp; omega) (fun i c u hc hu => ?_), .p _, hr⟩
    rw [setCells_get _ _ _ _ (by omega)] at hc
    have hu' : (arr.toList.take off ++ vy.cells.toList ++ arr.toList.drop (off + n))[i]? = some u := by simpa using hu
    rw [splice_get _ _ _ _ (by simpa using hcn) (by simpa [h3] using s2)] at hu'
    rw [s1] at hc
    split at hc
    · rename_i hi
      rw [if_pos hi] at hu'
      exact c2 (i - off) c u hc (by simpa using hu')
    · rename_i hi
      rw [if_neg hi] at hu'
      exact h4 i c u hc (by simpa using hu')
  | hel b i off β o' s cap gb =>
    obtain ⟨xs, hb, h⟩ := Option.bind_eq_some_iff.1 h
    obtain ⟨y', hy', h⟩ := Option.bind_eq_some_iff.1 h
    obtain ⟨cs', hcs, h⟩ := Option.bind_eq_some_iff.1 h
    obtain ⟨s1, s2, s3, rfl⟩ := astoreC_spec hcs
    obtain ⟨p2, h⟩ := ite_some' h
    have p1 : (putCells y' (setCells y'.cells off cy.cells)).cells = setCells y'.cells off cy.cells := putCells_set p2 s3 (by rw [s1]; exact s2)
    obtain rfl := Option.some.inj h
    obtain ⟨c1, c2, c3⟩ := rep_cells s3 hy
    rcases hw.sl b xs hb with ⟨g1, _⟩ | ⟨β', o'', s', cap', arr, el, g1, g2, g3, g4, g5, g6⟩
    · rw [gb] at g1; cases g1
    · obtain ⟨rfl, rfl, rfl, rfl⟩ : β = β' ∧ o' = o'' ∧ s = s' ∧ cap = cap' := by rw [gb] at g1; simpa using g1
      have hcn : vy.cells.size = n := c1.trans s1
      have hi := (List.getElem?_eq_some_iff.1 hy').1
      have hys : y'.cells.length = s := g5 i y' hy'
      have hrow : o' + i * s + s ≤ arr.size := by
        have : (i + 1) * s ≤ cap * s := Nat.mul_le_mul_right _ (by omega)
        rw [Nat.add_mul] at this; omega
      have hst := run_storeVar_of hn g2 (off := o' + i * s + off) hcn (by omega) c3
      have hst2 : (Instr.storeAt t (.pointer (some ⟨β, o' + i * s + off, none⟩)) vy).run P w = .ok () (w.setRow β (arr.toList.take (o' + i * s + off) ++ vy.cells.toList ++ arr.toList.drop (o' + i * s + off + n)).toArray) := by
        simp only [Instr.storeAt, Instr.sureAddr, Sem.run_bind, Sem.run_pure, Result.andThen_ok, hst]
      rw [run _ hst2]
      have ht := touch_setRow w β (arr.toList.take (o' + i * s + off) ++ vy.cells.toList ++ arr.toList.drop (o' + i * s + off + n)).toArray
      refine ⟨.p undef, G, _, Le.touch hw (.sl b β _ xs hb gb) ht, hw.touch_sl hb gb ht (fun hl => .inr ⟨β, o', s, cap, _, el, gb, setRow_new g2 _, by simpa using g3, ?_, ?_, ?_⟩), .p _, hr⟩
      · simp; omega
      · intro k z hz
        rw [List.getElem?_set] at hz
        split at hz
        · obtain rfl := Option.some.inj hz
          rw [p1]; simp [hys]
        · exact g5 k z hz
      · intro k j c u hc hu
        have hu' : (arr.toList.take (o' + i * s + off) ++ vy.cells.toList ++ arr.toList.drop (o' + i * s + off + n))[o' + k * s + j]? = some u := by simpa using hu
        rw [splice_get _ _ _ _ (by simpa using hcn) (by simp; omega)] at hu'
        unfold rowCell at hc
        rw [List.getElem?_set] at hc
        by_cases hki : i = k
        · subst hki
          rw [if_pos rfl, if_pos hi] at hc
          have hc : (putCells y' (setCells y'.cells off cy.cells)).cells[j]? = some c := hc
          rw [p1, setCells_get _ _ _ _ (by omega), s1] at hc
          split at hc
          · rename_i hj
            rw [if_pos (by omega)] at hu'
            have e : o' + i * s + j - (o' + i * s + off) = j - off := by omega
            rw [e] at hu'
            exact (c2 (j - off) c u hc (by simpa using hu')).mono hl
          · rename_i hj
            rw [if_neg (by omega)] at hu'
            exact (g6 i j c u (by simp [rowCell, hy', hc]) (by simpa using hu')).mono hl
        · rw [if_neg hki] at hc
          have hj : j < s := by
            cases hz : xs[k]? with
            | none => rw [hz] at hc; cases hc
            | some z =>
              rw [hz] at hc
              have hc : z.cells[j]? = some c := hc
              rw [← g5 k z hz]; exact (List.getElem?_eq_some_iff.1 hc).1
          have hne : ¬ (o' + i * s + off ≤ o' + k * s + j ∧ o' + k * s + j < o' + i * s + off + n) := by
            rcases Nat.lt_or_ge k i with hlt | hge
            · have : (k + 1) * s ≤ i * s := Nat.mul_le_mul_right _ hlt
              rw [Nat.add_mul] at this; omega
            · have : (i + 1) * s ≤ k * s := Nat.mul_le_mul_right _ (by omega)
              rw [Nat.add_mul] at this; omega
          rw [if_neg hne] at hu'
          exact (g6 k j c u hc (by simpa using hu')).mono hl
  | _ => cases h
end Go.AL
/-! Operations, fifth part: structs, slices made, cut, appended to. -/
namespace Go.AL
open Go.RowKit (Below)
set_option linter.unusedVariables false
set_option linter.unusedSimpArgs false
variable {P : Program} {o : Oper} {ρ : Operand → AV} {σ : ASt} {R : AV → ASt → Prop}
/-! ### structs made -/
def tplaces (P : Program) (t : TypeId) : Option (List (Nat × Nat)) :=
  match P.underlying t with
  | some (.struct fs) => fs.toList.mapM fun f => (P.info? f.type).map fun i => (f.offset, i.size)
  | some (.array n e) => (P.info? e).map fun i => (List.range n).map fun k => (k * i.size, i.size)
  | _ => none
def afill (pl : List (Nat × Nat)) (cs : List AV) : List (Nat × AV) → Option (List AV)
  | [] => some cs
  | (i, x) :: r => match pl[i]? with
    | none => none
    | some (off, size) => if x.cells.length = size ∧ off + size ≤ cs.length ∧ x.okv = true then afill pl (setCells cs off x.cells) r else none
def abuild (P : Program) (t : TypeId) (ps : List (Nat × AV)) : Option AV :=
  match tzero P t, tplaces P t with
  | some (.agg zc), some pl => (afill pl zc ps).map .agg
  | _, _ => none
theorem fold_get (off : Nat) : ∀ (l : List Value) (s : Nat) (arr : Array Value) (k : Nat), off + s + l.length ≤ arr.size →
    ((l.zipIdx s).foldl (fun (cs : Array Value) (q : Value × Nat) => cs.setIfInBounds (off + q.2) q.1) arr)[k]? = if off + s ≤ k ∧ k < off + s + l.length then l[k - (off + s)]? else arr[k]?
  | [], s, arr, k, _ => by simp; omega
  | v :: l, s, arr, k, h => by
    simp only [List.length_cons] at h
    rw [List.zipIdx_cons, List.foldl_cons, fold_get off l (s + 1) _ k (by simp; omega)]
    by_cases h1 : off + (s + 1) ≤ k ∧ k < off + (s + 1) + l.length
    · rw [if_pos h1, if_pos (by simp; omega), show k - (off + s) = (k - (off + (s + 1))) + 1 by omega, List.getElem?_cons_succ]
    · rw [if_neg h1]
      by_cases h2 : k = off + s
      · subst h2
        rw [if_pos (by simp)]
        simp only [Nat.sub_self, List.getElem?_cons_zero]
        rw [Array.getElem?_setIfInBounds_self_of_lt (by omega)]
      · rw [if_neg (by simp; omega), Array.getElem?_setIfInBounds_ne (by omega)]
theorem fold_size (off : Nat) : ∀ (l : List Value) (s : Nat) (arr : Array Value), ((l.zipIdx s).foldl (fun (cs : Array Value) (q : Value × Nat) => cs.setIfInBounds (off + q.2) q.1) arr).size = arr.size
  | [], s, arr => rfl
  | v :: l, s, arr => by rw [List.zipIdx_cons, List.foldl_cons, fold_size off l (s + 1)]; simp
/-- A list of cells, and what they are. -/
def CellsAs (G : Ghost) (w : World) (cs : List AV) (arr : Array Value) : Prop := cs.length = arr.size ∧ ∀ (i : Nat) c v, cs[i]? = some c → arr[i]? = some v → Rep G w c v
theorem afill_spec {G w} (place : Nat → Option (Nat × Nat)) (pl : List (Nat × Nat)) (hpl : ∀ i q, pl[i]? = some q → place i = some q) : ∀ (ps : List (Nat × AV)) (qs : List (Nat × Value)) (cs cs' : List AV) (arr : Array Value),
    ps.length = qs.length → (∀ (i : Nat) p q, ps[i]? = some p → qs[i]? = some q → p.1 = q.1 ∧ Rep G w p.2 q.2) → CellsAs G w cs arr → afill pl cs ps = some cs' → ∃ arr', Instr.fill place arr qs = some arr' ∧ CellsAs G w cs' arr'
  | [], [], cs, cs', arr, _, _, hc, h => by obtain rfl := Option.some.inj h; exact ⟨arr, rfl, hc⟩
  | [], _ :: _, _, _, _, hl, _, _, _ => by cases hl
  | _ :: _, [], _, _, _, hl, _, _, _ => by cases hl
  | (i, x) :: ps, (j, v) :: qs, cs, cs', arr, hl, hr, hc, h => by
    obtain ⟨h1, h2⟩ := hr 0 (i, x) (j, v) rfl rfl
    have h1 : i = j := h1
    have h2 : Rep G w x v := h2
    subst h1
    unfold afill at h
    split at h
    · cases h
    · rename_i off size hp
      split at h
      · rename_i hcond
        obtain ⟨c1, c2, c3⟩ := hcond
        obtain ⟨e1, e2, e3⟩ := rep_cells c3 h2
        have e1 : v.cells.size = x.cells.length := e1
        have hsz := hc.1
        unfold Instr.fill
        rw [hpl i _ hp]
        have hcond2 : ¬ ((decide (v.cells.size ≠ size) || decide (off + v.cells.size > arr.size)) = true) := by simp; omega
        simp only [hcond2]
        have hfold : (Array.foldl (fun (cs : Array Value) (x : Value × Nat) => cs.setIfInBounds (off + x.2) x.1) arr v.cells.zipIdx) = (v.cells.toList.zipIdx 0).foldl (fun (cs : Array Value) (q : Value × Nat) => cs.setIfInBounds (off + q.2) q.1) arr := by
          rw [← Array.foldl_toList, Array.toList_zipIdx]
        refine afill_spec place pl hpl ps qs _ cs' _ (by simpa using hl) (fun k p q hp hq => hr (k + 1) p q (by simpa using hp) (by simpa using hq)) ?_ h
        rw [hfold]
        refine ⟨by rw [setCells_length, fold_size]; exact hsz, fun k c u hcc huu => ?_⟩
        rw [setCells_get _ _ _ _ (by omega)] at hcc
        rw [fold_get off _ 0 _ _ (by simp; omega)] at huu
        simp only [Nat.add_zero, Array.length_toList, e1] at huu
        split at hcc
        · rename_i hk
          rw [if_pos hk] at huu
          exact e2 _ c u hcc (by simpa using huu)
        · rename_i hk
          rw [if_neg hk] at huu
          exact hc.2 k c u hcc huu
      · cases h
theorem opq_build {t : TypeId} {parts : Array (Nat × Operand)} (ho : o.op = .build t parts) {r : AV} (h : abuild P t (parts.toList.map fun q => (q.1, ρ q.2)) = some r) (hr : R r σ) : OpQ P o ρ σ R := by
  refine opq_v (s := fun e => Instr.build t (parts.map fun (i, x) => (i, e x))) (fun e => by simp only [execOp, ho]) r hr fun G e w he hw => ?_
  unfold abuild at h
  split at h
  · rename_i zc pl hz hp
    obtain ⟨cs', hf, rfl⟩ := Option.map_eq_some_iff.1 h
    obtain ⟨it, z, hi, hzv, hze⟩ := tzero_spec hz
    unfold tplaces at hp
    split at hp
    · rename_i fs hu
      have hza : ∃ zs, z = .agg zs ∧ zc = zs.toList.map .p := by
        cases z with
        | agg zs => exact ⟨zs, rfl, by simpa [ofV] using hze⟩
        | _ => cases hze
      obtain ⟨zs, rfl, rfl⟩ := hza
      obtain ⟨arr', hfill, hca⟩ := afill_spec (G := G) (w := w) (pl.toArray[·]?) pl (fun i q hq => by simpa using hq) (parts.toList.map fun q => (q.1, ρ q.2)) (parts.toList.map fun q => (q.1, e q.2)) _ cs' zs (by simp)
        (fun i p q hp hq => by
          simp only [List.getElem?_map, Option.map_eq_some_iff] at hp hq
          obtain ⟨a, ha, rfl⟩ := hp
          obtain ⟨b, hb, rfl⟩ := hq
          obtain rfl := Option.some.inj (ha.symm.trans hb)
          exact ⟨rfl, he _⟩)
        ⟨by simp, fun i c v hc hv => by
          rw [List.getElem?_map, Array.getElem?_toList, hv] at hc
          obtain rfl := Option.some.inj hc
          exact .p _⟩ hf
      have hb : P.built t (parts.map fun (i, x) => (i, e x)).toList = some arr' := by
        unfold Program.built
        simp only [hi, hu, hzv, hp, Value.cells]
        simpa using hfill
      exact ⟨.agg arr', run_build w t _ arr' hb, .agg _ _ hca.1 hca.2⟩
    · rename_i n el hu
      obtain ⟨ie, hie, rfl⟩ := Option.map_eq_some_iff.1 hp
      have hza : ∃ zs, z = .agg zs ∧ zc = zs.toList.map .p := by
        cases z with
        | agg zs => exact ⟨zs, rfl, by simpa [ofV] using hze⟩
        | _ => cases hze
      obtain ⟨zs, rfl, rfl⟩ := hza
      obtain ⟨arr', hfill, hca⟩ := afill_spec (G := G) (w := w) (fun i => some (i * ie.size, ie.size)) ((List.range n).map fun k => (k * ie.size, ie.size)) (fun i q hq => by
          rw [List.getElem?_map] at hq
          obtain ⟨k, hk, rfl⟩ := Option.map_eq_some_iff.1 hq
          obtain ⟨_, hk⟩ := List.getElem?_eq_some_iff.1 hk
          rw [List.getElem_range] at hk
          rw [hk]) (parts.toList.map fun q => (q.1, ρ q.2)) (parts.toList.map fun q => (q.1, e q.2)) _ cs' zs (by simp)
        (fun i p q hp hq => by
          simp only [List.getElem?_map, Option.map_eq_some_iff] at hp hq
          obtain ⟨a, ha, rfl⟩ := hp
          obtain ⟨b, hb, rfl⟩ := hq
          obtain rfl := Option.some.inj (ha.symm.trans hb)
          exact ⟨rfl, he _⟩)
        ⟨by simp, fun i c v hc hv => by
          rw [List.getElem?_map, Array.getElem?_toList, hv] at hc
          obtain rfl := Option.some.inj hc
          exact .p _⟩ hf
      have hb : P.built t (parts.map fun (i, x) => (i, e x)).toList = some arr' := by
        unfold Program.built
        simp only [hi, hu, hzv, hie, Value.cells]
        simpa using hfill
      exact ⟨.agg arr', run_build w t _ arr' hb, .agg _ _ hca.1 hca.2⟩
    · cases hp
  · cases h
/-! ### slices made -/
/-- Rows of elements. -/
def RowsAs (G : Ghost) (w : World) (n : Nat) (es : List AV) (arr : Array Value) : Prop :=
  arr.size = es.length * n ∧ (∀ (i : Nat) x, es[i]? = some x → x.cells.length = n) ∧ ∀ (i j : Nat) c v, rowCell es i j = some c → arr[i * n + j]? = some v → Rep G w c v
theorem rowCell_lt {es : List AV} {i j n : Nat} {c : AV} (h : rowCell es i j = some c) (hn : ∀ (i : Nat) x, es[i]? = some x → x.cells.length = n) : i < es.length ∧ j < n ∧ i * n + j < es.length * n := by
  unfold rowCell at h
  obtain ⟨x, hx, hj⟩ := Option.bind_eq_some_iff.1 h
  have h1 := (List.getElem?_eq_some_iff.1 hx).1
  have h2 := (List.getElem?_eq_some_iff.1 hj).1
  rw [hn i x hx] at h2
  have : (i + 1) * n ≤ es.length * n := Nat.mul_le_mul_right _ h1
  rw [Nat.add_mul] at this
  exact ⟨h1, h2, by omega⟩
/-- A new row, that stays as it is. -/
theorem new_vsl {G σ w n es arr} (hw : SimW G σ w) (hr : RowsAs G w n es arr) (t : TypeId) {cap : Nat} (hcap : es.length ≤ cap) (w1 : World) (hb1 : Below w.heap.size w w1) :
    ∃ G', Le G w G' (w1.alloc (.cells arr t)) ∧ SimW G' σ (w1.alloc (.cells arr t)) ∧ Rep G' (w1.alloc (.cells arr t)) (.vsl es) (.slice (some ⟨w1.heap.size, 0, none⟩) es.length cap) := by
  have hb := hb1.trans ((below_alloc' w1 (.cells arr t)).mono hb1.size)
  have hl := Le.addSt hw hb (fun β _ => β = w1.heap.size) fun β o e => by subst e; exact hb1.size
  refine ⟨_, hl, hw.addSt hb _ (fun β o e => by subst e; exact ⟨hb1.size, by simp⟩), ?_⟩
  refine Rep.vsl es w1.heap.size 0 n cap (fun i j => arr.getD (i * n + j) undef) hcap hr.2.1 (fun i j c hc => ⟨.inr rfl, ?_⟩) (fun i j c hc => ?_)
  · obtain ⟨_, _, hlt⟩ := rowCell_lt hc hr.2.1
    rw [← hr.1] at hlt
    rw [cell_of_heap (heap_alloc_new w1 _)]
    simp [hlt]
  · obtain ⟨_, _, hlt⟩ := rowCell_lt hc hr.2.1
    rw [← hr.1] at hlt
    have := hr.2.2 i j c _ hc (Array.getElem?_eq_getElem hlt)
    simp only [Array.getD, hlt, dif_pos]
    exact this.mono hl
/-- A new row of the function's own; there may be room behind it. -/
theorem new_hsl {G σ w n es} {arr : Array Value} (hw : SimW G σ w) {cap : Nat} (hn : ∀ (i : Nat) x, es[i]? = some x → x.cells.length = n) (hcell : ∀ (i j : Nat) c v, rowCell es i j = some c → arr[i * n + j]? = some v → Rep G w c v)
    (hpos : 0 < es.length) (hcap : es.length ≤ cap) (hsz : cap * n ≤ arr.size) (t : TypeId) (w1 : World) (hb1 : Below w.heap.size w w1) :
    ∃ G', Le G w G' (w1.alloc (.cells arr t)) ∧ SimW G' (σ.addSl es) (w1.alloc (.cells arr t)) ∧ Rep G' (w1.alloc (.cells arr t)) (.hsl σ.next 0 es.length) (.slice (some ⟨w1.heap.size, 0, none⟩) es.length cap) := by
  have hb := hb1.trans ((below_alloc' w1 (.cells arr t)).mono hb1.size)
  have hl := Le.addSl hw hb (some (w1.heap.size, 0, n, cap))
  refine ⟨_, hl, hw.addSl (some (w1.heap.size, 0, n, cap)) hb (fun β q e => ?_) (fun _ => .inr ⟨w1.heap.size, 0, n, cap, arr, t, upd_same _ _ _, heap_alloc_new w1 _, ⟨hpos, hcap⟩, by omega, hn, fun i j c v hc hv => ?_⟩), ?_⟩
  · have := (Option.some.inj e); simp only [Prod.mk.injEq] at this; rw [← this.1]; exact hb1.size
  · exact (hcell i j c v hc (by simpa using hv)).mono hl
  · have := Rep.hsl (G := G.addSl σ.next (some (w1.heap.size, 0, n, cap))) (w := w1.alloc (.cells arr t)) σ.next 0 es.length w1.heap.size 0 n cap (upd_same _ _ _) (by omega)
    simpa using this
/-- No slice at all, as one of the function's own. -/
theorem new_nil {G σ w} (hw : SimW G σ w) (w1 : World) (hb1 : Below w.heap.size w w1) (a : Option Addr) :
    ∃ G', Le G w G' w1 ∧ SimW G' (σ.addSl []) w1 ∧ Rep G' w1 (.hsl σ.next 0 0) (.slice a 0 0) := by
  have hl := Le.addSl hw hb1 none
  exact ⟨_, hl, hw.addSl none hb1 (fun β q e => by cases e) (fun _ => .inl ⟨upd_same _ _ _, rfl⟩), .hnil _ _ (upd_same _ _ _)⟩
def afillR (n len : Nat) (es : List AV) : List (Nat × AV) → Option (List AV)
  | [] => some es
  | (i, x) :: r => if x.cells.length = n ∧ i < len ∧ x.okv = true then afillR n len (es.set i x) r else none
theorem afillR_length {n len : Nat} : ∀ {ps : List (Nat × AV)} {es es' : List AV}, afillR n len es ps = some es' → es'.length = es.length
  | [], es, es', h => by obtain rfl := Option.some.inj h; rfl
  | (i, x) :: ps, es, es', h => by
    unfold afillR at h
    obtain ⟨_, h⟩ := ite_some' h
    rw [afillR_length h]; simp
theorem afillR_spec {G w} {n len : Nat} : ∀ (ps : List (Nat × AV)) (qs : List (Nat × Value)) (es es' : List AV) (arr : Array Value), es.length = len →
    ps.length = qs.length → (∀ (i : Nat) p q, ps[i]? = some p → qs[i]? = some q → p.1 = q.1 ∧ Rep G w p.2 q.2) → RowsAs G w n es arr → afillR n len es ps = some es' → ∃ arr', Instr.fill (fun i => some (i * n, n)) arr qs = some arr' ∧ RowsAs G w n es' arr'
  | [], [], es, es', arr, _, _, _, hc, h => by obtain rfl := Option.some.inj h; exact ⟨arr, rfl, hc⟩
  | [], _ :: _, _, _, _, _, hl, _, _, _ => by cases hl
  | _ :: _, [], _, _, _, _, hl, _, _, _ => by cases hl
  | (i, x) :: ps, (j, v) :: qs, es, es', arr, hlen, hl, hr, hc, h => by
    obtain ⟨h1, h2⟩ := hr 0 (i, x) (j, v) rfl rfl
    have h1 : i = j := h1
    have h2 : Rep G w x v := h2
    subst h1
    unfold afillR at h
    obtain ⟨⟨c1, c2, c3⟩, h⟩ := ite_some' h
    obtain ⟨e1, e2, e3⟩ := rep_cells c3 h2
    have e1 : v.cells.size = x.cells.length := e1
    have hv0 : (i, v).2.cells = v.cells := rfl
    obtain ⟨r1, r2, r3⟩ := hc
    have hin : i * n + n ≤ arr.size := by
      have : (i + 1) * n ≤ es.length * n := Nat.mul_le_mul_right _ (by omega)
      rw [Nat.add_mul] at this; omega
    unfold Instr.fill
    have hcond2 : ¬ ((decide (v.cells.size ≠ n) || decide (i * n + v.cells.size > arr.size)) = true) := by simp; omega
    simp only [hcond2]
    have hfold : (Array.foldl (fun (cs : Array Value) (x : Value × Nat) => cs.setIfInBounds (i * n + x.2) x.1) arr v.cells.zipIdx) = (v.cells.toList.zipIdx 0).foldl (fun (cs : Array Value) (q : Value × Nat) => cs.setIfInBounds (i * n + q.2) q.1) arr := by
      rw [← Array.foldl_toList, Array.toList_zipIdx]
    refine afillR_spec ps qs (es.set i x) es' _ (by simpa using hlen) (by simpa using hl) (fun k p q hp hq => hr (k + 1) p q (by simpa using hp) (by simpa using hq)) ?_ h
    rw [hfold]
    refine ⟨by rw [fold_size]; simpa using r1, fun k z hz => ?_, fun k j c u hcc huu => ?_⟩
    · rw [List.getElem?_set] at hz
      split at hz
      · split at hz
        · obtain rfl := Option.some.inj hz; exact c1
        · cases hz
      · exact r2 k z hz
    · rw [fold_get (i * n) _ 0 _ _ (by simp; omega)] at huu
      simp only [Nat.add_zero, Array.length_toList, e1, c1] at huu
      unfold rowCell at hcc
      rw [List.getElem?_set] at hcc
      by_cases hki : i = k
      · subst hki
        rw [if_pos rfl, if_pos (by omega)] at hcc
        have hcc : x.cells[j]? = some c := hcc
        have hj := (List.getElem?_eq_some_iff.1 hcc).1
        rw [if_pos (by omega), show i * n + j - i * n = j by omega] at huu
        exact e2 j c u hcc (by simpa using huu)
      · rw [if_neg hki] at hcc
        have hj : j < n := by
          cases hz : es[k]? with
          | none => rw [hz] at hcc; cases hcc
          | some z =>
            rw [hz] at hcc
            have hcc : z.cells[j]? = some c := hcc
            rw [← r2 k z hz]; exact (List.getElem?_eq_some_iff.1 hcc).1
        have hne : ¬ (i * n ≤ k * n + j ∧ k * n + j < i * n + n) := by
          rcases Nat.lt_or_ge k i with hlt | hge
          · have : (k + 1) * n ≤ i * n := Nat.mul_le_mul_right _ hlt
            rw [Nat.add_mul] at this; omega
          · have : (i + 1) * n ≤ k * n := Nat.mul_le_mul_right _ (by omega)
            rw [Nat.add_mul] at this; omega
        rw [if_neg hne] at huu
        exact r3 k j c u hcc huu
def telemT (P : Program) (t : TypeId) : Option TypeId := match P.underlying t with | some (.slice e) => some e | _ => none
/-- The elements of a slice that is written out. -/
def abuildS (P : Program) (t : TypeId) (len : Nat) (ps : List (Nat × AV)) : Option (List AV) :=
  (telem P t).bind fun q => (telemT P t).bind fun e => (tzero P e).bind fun z => if z.cells.length = q.1 ∧ len * q.1 ≤ 16777216 ∧ 0 < q.1 ∧ z.okv = true then afillR q.1 len (List.replicate len z) ps else none
theorem ofV_cells (v : Value) : (ofV v).cells.length = v.cells.size := by cases v <;> simp [ofV, AV.cells, Value.cells]
theorem run_buildS {t : TypeId} {len : Nat} {ps : Array (Nat × Operand)} {es : List AV} (h : abuildS P t len (ps.toList.map fun q => (q.1, ρ q.2)) = some es) {G} {e : Operand → Value} {w} (he : ∀ x, Rep G w (ρ x) (e x)) :
    ∃ arr el n, (Instr.buildSlice t len (ps.map fun (i, x) => (i, e x))).run P w = .ok (.slice (some ⟨w.heap.size, 0, none⟩) es.length es.length) (w.alloc (.cells arr el)) ∧ RowsAs G w n es arr := by
  obtain ⟨⟨n, g, by_⟩, hq, h⟩ := Option.bind_eq_some_iff.1 h
  obtain ⟨el, hel, h⟩ := Option.bind_eq_some_iff.1 h
  obtain ⟨z, hz, h⟩ := Option.bind_eq_some_iff.1 h
  obtain ⟨⟨hzn, hsm, hpos, hzok⟩, h⟩ := ite_some' h
  have hzn : z.cells.length = n := hzn
  have hsm : len * n ≤ 16777216 := hsm
  have hpos : 0 < n := hpos
  have h : afillR n len (List.replicate len z) (ps.toList.map fun q => (q.1, ρ q.2)) = some es := h
  obtain ⟨e', i', h1, h2, h3, _⟩ := telem_spec hq
  have hee : e' = el := by simpa [telemT, h1] using hel
  subst hee
  obtain ⟨it, zv, hi, hzv, rfl⟩ := tzero_spec hz
  obtain rfl := Option.some.inj (h2.symm.trans hi)
  obtain ⟨i2, d2, t1, t2, t3, _⟩ := tsize_spec h3
  obtain rfl := Option.some.inj (h2.symm.trans t1)
  have hzs : zv.cells.size = n := by rw [← ofV_cells]; exact hzn
  have h0 : RowsAs G w n (List.replicate len (ofV zv)) ((Array.range (len * n)).map (zv.cells[· % zv.cells.size]!)) := by
    refine ⟨by simp, fun i x hx => ?_, fun i j c v hc hv => ?_⟩
    · rw [List.getElem?_replicate] at hx
      split at hx
      · obtain rfl := Option.some.inj hx; exact hzn
      · cases hx
    · obtain ⟨_, hj, hlt⟩ := rowCell_lt (n := n) hc (fun i x hx => by
        rw [List.getElem?_replicate] at hx
        split at hx
        · obtain rfl := Option.some.inj hx; exact hzn
        · cases hx)
      simp only [List.length_replicate] at hlt
      have hc' : (ofV zv).cells[j]? = some c := by
        unfold rowCell at hc
        obtain ⟨x, hx, hc⟩ := Option.bind_eq_some_iff.1 hc
        rw [List.getElem?_replicate] at hx
        split at hx
        · obtain rfl := Option.some.inj hx; exact hc
        · cases hx
      have hmod : (i * n + j) % n = j := by rw [Nat.mul_comm, Nat.mul_add_mod]; exact Nat.mod_eq_of_lt hj
      have hv' : v = zv.cells[j]! := by
        rw [Array.getElem?_map, Array.getElem?_range, if_pos hlt] at hv
        simp only [Option.map_some, Option.some.injEq, hzs, hmod] at hv
        exact hv.symm
      have hj' : j < zv.cells.size := by omega
      rw [getElem!_pos zv.cells j hj'] at hv'
      exact (rep_cells hzok (rep_ofV G w zv)).2.1 j c v hc' (by rw [hv']; exact Array.getElem?_eq_getElem hj')
  obtain ⟨arr', hfill, hrows⟩ := afillR_spec (G := G) (w := w) (n := n) (len := len) (ps.toList.map fun q => (q.1, ρ q.2)) (ps.toList.map fun q => (q.1, e q.2)) _ es _ (by simp) (by simp)
    (fun i p q hp hq => by
      simp only [List.getElem?_map, Option.map_eq_some_iff] at hp hq
      obtain ⟨a, ha, rfl⟩ := hp
      obtain ⟨b, hb, rfl⟩ := hq
      obtain rfl := Option.some.inj (ha.symm.trans hb)
      exact ⟨rfl, he _⟩) h0 h
  have hlen : es.length = len := by have := afillR_length h; simpa using this
  refine ⟨arr', e', n, ?_, hrows⟩
  rw [hlen]
  have hfill2 : Instr.fill (fun i => some (i * i'.size, i'.size)) ((Array.range (len * i'.size)).map (zv.cells[· % zv.cells.size]!)) (ps.map fun (i, x) => (i, e x)).toList = some arr' := by
    rw [t3]; simpa using hfill
  by_cases hl0 : len = 0
  · subst hl0
    have hp : ps = #[] := by
      cases hps : ps.toList with
      | nil => simpa using hps
      | cons q r => rw [hps] at h; simp [afillR] at h
    subst hp
    have : arr' = #[] := Array.eq_empty_of_size_eq_zero (by rw [hrows.1, hlen]; simp)
    subst this
    simp only [Instr.buildSlice, Sem.run_bind, run_underlying' h1, Result.andThen_ok, run_sizeOf' h3, Nat.zero_mul, if_neg (show ¬ (0 : Nat) > 2 ^ 24 by decide), if_true, Sem.run_pure]
    rw [show ((Array.range 0).map (fun x => (#[] : Array Value)[x % (#[] : Array Value).size]!)) = #[] from Array.eq_empty_of_size_eq_zero (by simp)]
    simp [Instr.fill, newRow]
  · have hnz : ¬ len * i'.size = 0 := by rw [t3]; exact Nat.mul_ne_zero hl0 (by omega)
    exact run_buildSlice w t e' len _ arr' i' zv h1 h2 hzv (by rw [t3]; omega) hnz hfill2
theorem opq_buildSlice_ro {t : TypeId} {len : Nat} {ps : Array (Nat × Operand)} (ho : o.op = .buildSlice t len ps) {es : List AV} (h : abuildS P t len (ps.toList.map fun q => (q.1, ρ q.2)) = some es) (hr : R (.vsl es) σ) : OpQ P o ρ σ R := by
  intro G e w he hw
  obtain ⟨arr, el, n, hrun, hrows⟩ := run_buildS h he
  obtain ⟨G', h1, h2, h3⟩ := new_vsl hw hrows el (Nat.le_refl _) w (Below.refl _ _)
  simp only [execOp, ho, Sem.run_bind, hrun, Result.andThen_ok, Sem.run_pure]
  exact ⟨_, G', σ, h1, h2, h3, hr⟩
theorem opq_buildSlice_mut {t : TypeId} {len : Nat} {ps : Array (Nat × Operand)} (ho : o.op = .buildSlice t len ps) {es : List AV} (h : abuildS P t len (ps.toList.map fun q => (q.1, ρ q.2)) = some es) (hr : R (.hsl σ.next 0 es.length) (σ.addSl es)) : OpQ P o ρ σ R := by
  intro G e w he hw
  obtain ⟨arr, el, n, hrun, hrows⟩ := run_buildS h he
  simp only [execOp, ho, Sem.run_bind, hrun, Result.andThen_ok, Sem.run_pure]
  by_cases hes : es = []
  · subst hes
    obtain ⟨G', h1, h2, h3⟩ := new_nil hw (w.alloc (.cells arr el)) (below_alloc' w _) (some ⟨w.heap.size, 0, none⟩)
    exact ⟨_, G', _, h1, h2, h3, hr⟩
  · obtain ⟨G', h1, h2, h3⟩ := new_hsl hw hrows.2.1 hrows.2.2 (List.length_pos_iff.2 hes) (Nat.le_refl _) (Nat.le_of_eq hrows.1.symm) el w (Below.refl _ _)
    exact ⟨_, G', _, h1, h2, h3, hr⟩
end Go.AL
