import Derived.Test.YtfpjojjgoelckaaDoorA4
/-! Operations, third part: lengths, indexes, cuts, boxes, stores, structs. -/
namespace Go.AL
open Go.RowKit (Below)
set_option linter.unusedVariables false
set_option linter.unusedSimpArgs false

variable {P : Program} {o : Oper} {ρ : Operand → AV} {σ : ASt} {R : AV → ASt → Prop}

theorem execOp_builtin (e : Operand → Value) {b : Builtin} {args : Array Operand} {ts : Array TypeId} (ho : o.op = .call { callee := .builtin b, args := args, argTypes := ts }) :
    execOp e o = builtin b ts o.type (args.map fun | .const _ => true | _ => false) (args.map e) := by
  simp only [execOp, ho, resolve]
  rfl

/-! ### len, min, max -/
def isIt : List (AV × AV) → Bool
  | [(.vsl [.agg [], .agg [.any]], _)] => true
  | _ => false
def alen (P : Program) (σ : ASt) (t : TypeId) : AV → Option Int
  | .p (.string s) => if isString P t = true then some s.size else none
  | .vsl xs => if isSlice P t = true then some xs.length else none
  | .hsl _ _ n => if isSlice P t = true then some n else none
  | .p (.slice _ n _) => if isSlice P t = true then some n else none
  | .map m => if isMapT P t = true then (σ.mp m).bind fun es => if isIt es = true then none else some (es.length : Int) else none
  | .p (.map none) => if isMapT P t = true then some 0 else none
  | _ => none
theorem isSlice_spec {t : TypeId} (h : isSlice P t = true) : ∃ e, P.underlying t = some (.slice e) := by
  unfold isSlice at h; split at h
  · exact ⟨_, by assumption⟩
  · cases h
theorem isString_spec {t : TypeId} (h : isString P t = true) : P.underlying t = some .string := by
  unfold isString at h; split at h
  · assumption
  · cases h
theorem isMapT_spec {t : TypeId} (h : isMapT P t = true) : ∃ k e, P.underlying t = some (.map k e) := by
  unfold isMapT at h; split at h
  · exact ⟨_, _, by assumption⟩
  · cases h
theorem ite_some' {α : Type} {c : Prop} [Decidable c] {b : Option α} {b' : α} (h : (if c then b else none) = some b') : c ∧ b = some b' := by
  split at h
  · rename_i hc; exact ⟨hc, h⟩
  · cases h
theorem run_getObj_map {w : World} {r : Nat} {es : Array MapEntry} {c : Nat} (h : w.heap[r]? = some (.map es c)) : (getObj r).run P w = .ok (.map es c) w := by
  simp [getObj, Sem.run, h]
theorem run_len_of {t ty : TypeId} {x : AV} {n : Int} (h : alen P σ t x = some n) {G w v} (hw : SimW G σ w) (hx : Rep G w x v) : (Builtin.len_ #[t] ty #[v]).run P w = .ok (.int .i64 n) w := by
  cases hx with
  | p =>
    cases v with
    | string s =>
      obtain ⟨ht, hn⟩ := ite_some' h
      obtain rfl := Option.some.inj hn
      simp [Builtin.len_, run_underlying' (isString_spec ht), goInt]
    | slice a l c =>
      obtain ⟨ht, hn⟩ := ite_some' h
      obtain rfl := Option.some.inj hn
      obtain ⟨e, he⟩ := isSlice_spec ht
      simp [Builtin.len_, run_underlying' he, goInt]
    | map r =>
      cases r with
      | some r => cases h
      | none =>
        obtain ⟨ht, hn⟩ := ite_some' h
        obtain rfl := Option.some.inj hn
        obtain ⟨k, e, he⟩ := isMapT_spec ht
        simp [Builtin.len_, run_underlying' he, goInt]
    | _ => cases h
  | vnil a cap =>
    obtain ⟨ht, hn⟩ := ite_some' h
    obtain rfl := Option.some.inj hn
    obtain ⟨e, he⟩ := isSlice_spec ht
    simp [Builtin.len_, run_underlying' he, goInt]
  | vsl xs =>
    obtain ⟨ht, hn⟩ := ite_some' h
    obtain rfl := Option.some.inj hn
    obtain ⟨e, he⟩ := isSlice_spec ht
    simp [Builtin.len_, run_underlying' he, goInt]
  | hsl =>
    obtain ⟨ht, hn⟩ := ite_some' h
    obtain rfl := Option.some.inj hn
    obtain ⟨e, he⟩ := isSlice_spec ht
    simp [Builtin.len_, run_underlying' he, goInt]
  | hend =>
    obtain ⟨ht, hn⟩ := ite_some' h
    obtain rfl := Option.some.inj hn
    obtain ⟨e, he⟩ := isSlice_spec ht
    simp [Builtin.len_, run_underlying' he, goInt]
  | hnil =>
    obtain ⟨ht, hn⟩ := ite_some' h
    obtain rfl := Option.some.inj hn
    obtain ⟨e, he⟩ := isSlice_spec ht
    simp [Builtin.len_, run_underlying' he, goInt]
  | map m μ g =>
    obtain ⟨ht, hn⟩ := ite_some' h
    obtain ⟨es, hm, hn⟩ := Option.bind_eq_some_iff.1 hn
    obtain ⟨hit, rfl⟩ : isIt es = false ∧ (es.length : Int) = n := by
      split at hn
      · cases hn
      · rename_i h; exact ⟨by simpa using h, Option.some.inj hn⟩
    obtain ⟨k, e, he⟩ := isMapT_spec ht
    obtain ⟨μ', ents, clock, h1, h2, h3, _⟩ : ∃ μ ents clock, G.mp m = some μ ∧ w.heap[μ]? = some (.map ents clock) ∧ ents.size = es.length ∧ True := by
      rcases hw.mp m es hm with ⟨μ, ents, clock, h1, h2, h3, _⟩ | ⟨μ, s, pos, _, _, rfl⟩
      · exact ⟨μ, ents, clock, h1, h2, h3, trivial⟩
      · cases hit
    obtain rfl := Option.some.inj (g.symm.trans h1)
    simp [Builtin.len_, run_underlying' he, goInt, run_getObj_map h2, h3]
  | _ => cases h
theorem opq_len {t : TypeId} {x : Operand} (ho : o.op = .call { callee := .builtin .len, args := #[x], argTypes := #[t] }) {n : Int} (h : alen P σ t (ρ x) = some n) (hr : R (.p (.int .i64 n)) σ) : OpQ P o ρ σ R := by
  refine opq_v (s := fun e => Builtin.len_ #[t] o.type #[e x]) (fun e => by rw [execOp_builtin e ho]; simp [builtin]) _ hr fun G e w he hw => ⟨_, run_len_of h hw (he x), .p _⟩

def amm (mx : Bool) : AV → AV → Option Value
  | .p (.int k a), .p (.int _ b) => some (.int k (if mx = true then (if b > a then b else a) else (if b < a then b else a)))
  | _, _ => none
theorem opq_mm {ts : Array TypeId} {x y : Operand} {mx : Bool} (ho : o.op = .call { callee := .builtin (if mx = true then .max else .min), args := #[x, y], argTypes := ts }) {v : Value} (h : amm mx (ρ x) (ρ y) = some v) (hr : R (.p v) σ) : OpQ P o ρ σ R := by
  refine opq_val (.p v) hr fun G e w he hw => ⟨v, ?_, .p v⟩
  rw [execOp_builtin e ho]
  have hx := he x
  have hy := he y
  generalize ρ x = cx at h hx
  generalize ρ y = cy at h hy
  simp only [Array.map, List.map_toArray]
  unfold amm at h
  split at h
  · generalize hvx : e x = vx at hx
    generalize hvy : e y = vy at hy
    cases hx; cases hy
    obtain rfl := Option.some.inj h
    cases mx
    · simp [builtin, Builtin.min_, Builtin.min2, hvx, hvy]
    · simp [builtin, Builtin.max_, Builtin.max2, hvx, hvy]
  · cases h

/-! ### one operand -/
def aun (op : UnOp) : AV → Option Value
  | .p (.int k n) => match op with
    | .neg => some (.int k (k.wrap (0 - n)))
    | _ => none
  | .p (.bool b) => match op with
    | .not => some (.bool !b)
    | _ => none
  | _ => none
theorem opq_unOp {op : UnOp} {t : TypeId} {x : Operand} (ho : o.op = .unOp op t x) {v : Value} (h : aun op (ρ x) = some v) (hr : R (.p v) σ) : OpQ P o ρ σ R := by
  refine opq_v (s := fun e => Op.unary op (e x)) (fun e => by simp only [execOp, ho]) (.p v) hr fun G e w he hw => ⟨v, ?_, .p v⟩
  have hx := he x
  generalize ρ x = cx at h hx
  generalize e x = vx at hx
  unfold aun at h
  split at h
  · cases hx
    split at h
    · obtain rfl := Option.some.inj h; rfl
    · cases h
  · cases hx
    split at h
    · obtain rfl := Option.some.inj h; rfl
    · cases h
  · cases h
def aconv (P : Program) (src dst : TypeId) : AV → Option Value
  | .p (.int _ n) => match P.underlying src, P.underlying dst with
    | some _, some (.int k) => some (.int k (k.wrap n))
    | _, _ => none
  | .p (.string s) => match P.underlying src, P.underlying dst with
    | some .string, some .string => some (.string s)
    | _, _ => none
  | _ => none
theorem opq_convert {src dst : TypeId} {x : Operand} (ho : o.op = .convert src dst x) {v : Value} (h : aconv P src dst (ρ x) = some v) (hr : R (.p v) σ) : OpQ P o ρ σ R := by
  refine opq_v (s := fun e => convert src dst (e x)) (fun e => by simp only [execOp, ho]) (.p v) hr fun G e w he hw => ⟨v, ?_, .p v⟩
  have hx := he x
  generalize ρ x = cx at h hx
  generalize e x = vx at hx
  unfold aconv at h
  split at h
  · cases hx
    split at h
    · rename_i d k h1 h2
      obtain rfl := Option.some.inj h
      simp only [convert, Sem.run_bind, run_underlying' h1, run_underlying' h2, Result.andThen_ok]
      cases d <;> rfl
    · cases h
  · cases hx
    split at h
    · rename_i h1 h2
      obtain rfl := Option.some.inj h
      simp only [convert, Sem.run_bind, run_underlying' h1, run_underlying' h2, Result.andThen_ok]
      rfl
    · cases h
  · cases h

/-! ### indexes -/
def aindexS (P : Program) (t : TypeId) : AV → AV → Option Value
  | .p (.string s), .p (.int _ i) => if isString P t = true then (if 0 ≤ i then (s.data.toList[i.toNat]?).map fun b => .int .u8 b.toNat else none) else none
  | _, _ => none
theorem opq_indexS {t : TypeId} {x i : Operand} (ho : o.op = .index t x i) {v : Value} (h : aindexS P t (ρ x) (ρ i) = some v) (hr : R (.p v) σ) : OpQ P o ρ σ R := by
  refine opq_v (s := fun e => Instr.index t (e x) (e i)) (fun e => by simp only [execOp, ho]) (.p v) hr fun G e w he hw => ⟨v, ?_, .p v⟩
  have hx := he x
  have hi := he i
  generalize ρ x = cx at h hx
  generalize e x = vx at hx
  generalize ρ i = ci at h hi
  generalize e i = vi at hi
  unfold aindexS at h
  split at h
  · rename_i s k n
    cases hx; cases hi
    obtain ⟨ht, h⟩ := ite_some' h
    obtain ⟨h0, h⟩ := ite_some' h
    obtain ⟨b, hb, rfl⟩ := Option.map_eq_some_iff.1 h
    have hb' : s[n.toNat]? = some b := by
      have h1 := (List.getElem?_eq_some_iff.1 hb)
      obtain ⟨hlt, he⟩ := h1
      have hlt' : n.toNat < s.size := by simpa using hlt
      rw [getElem?_pos s n.toNat hlt']
      exact congrArg some he
    simp only [Instr.index, asIntOf, Sem.run_bind, Sem.run_pure, Result.andThen_ok, run_underlying' (isString_spec ht), if_pos h0, hb']
  · cases h

def aindexI (P : Program) (σ : ASt) (t : TypeId) (x : AV) (k : Nat) : Option AV :=
  match x with
  | .vsl xs => (telem P t).bind fun q => (xs[k]?).bind fun y => if y.cells.length = q.1 then some (.vel xs k 0) else none
  | .hsl b off n => (telem P t).bind fun q => if k < n then (σ.sl b).bind fun xs => (xs[off + k]?).bind fun y => if y.cells.length = q.1 then some (.hel b (off + k) 0) else none else none
  | x => (tarr P t).bind fun q => if k < q.1 then ashift (k * q.2.1) x else none
def aindexAddr (P : Program) (σ : ASt) (t : TypeId) (x : AV) : AV → Option AV
  | .p (.int _ i) => if 0 ≤ i then aindexI P σ t x i.toNat else none
  | _ => none
theorem telem_spec {t n g by_} (h : telem P t = some (n, g, by_)) : ∃ e i, P.underlying t = some (.slice e) ∧ P.info? e = some i ∧ tsize P e = some (n, g) ∧ i.bytes = by_ := by
  unfold telem at h
  split at h
  · rename_i e he
    split at h
    · rename_i i n' g' hi hn
      simp only [Option.some.injEq, Prod.mk.injEq] at h
      obtain ⟨rfl, rfl, rfl⟩ := h
      exact ⟨e, i, he, hi, hn, rfl⟩
    · cases h
  · cases h
theorem tarr_spec {t l n g} (h : tarr P t = some (l, n, g)) : ∃ e, P.underlying t = some (.array l e) ∧ tsize P e = some (n, g) := by
  unfold tarr at h
  split at h
  · rename_i l' e he
    split at h
    · rename_i n' g' hn
      simp only [Option.some.injEq, Prod.mk.injEq] at h
      obtain ⟨rfl, rfl, rfl⟩ := h
      exact ⟨e, he, hn⟩
    · cases h
  · cases h
theorem aindexI_spec {t : TypeId} {x r : AV} {n : Int} (h : aindexI P σ t x n.toNat = some r) (h0 : 0 ≤ n) {G w v k} (hw : SimW G σ w) (hx : Rep G w x v) : ∃ u, (Instr.indexAt t v (.int k n)).run P w = .ok u w ∧ Rep G w r u := by
  unfold aindexI at h
  split at h
  · rename_i xs
    obtain ⟨⟨m, g, by_⟩, hq, h⟩ := Option.bind_eq_some_iff.1 h
    obtain ⟨y, hy, h⟩ := Option.bind_eq_some_iff.1 h
    obtain ⟨hl, h⟩ := ite_some' h
    obtain rfl := Option.some.inj h
    obtain ⟨e', i', h1, h2, h3, _⟩ := telem_spec hq
    have hlt := (List.getElem?_eq_some_iff.1 hy).1
    cases hx with
    | vnil => simp at hlt
    | vsl _ β o s cap val hcap hs hc hrr =>
      have hs' : s = m := (hs _ _ hy).symm.trans hl
      subst hs'
      refine ⟨.pointer (some ⟨β, o + n.toNat * s, none⟩), ?_, .vel xs n.toNat 0 β o s val hs hc hrr⟩
      have hc2 : 0 ≤ n ∧ n < (xs.length : Int) := ⟨h0, by omega⟩
      simp [Instr.indexAt, asIntOf, run_underlying' h1, hc2, run_sizeOf' h3, addr_add]
  · rename_i b off len
    obtain ⟨⟨m, g, by_⟩, hq, h⟩ := Option.bind_eq_some_iff.1 h
    obtain ⟨hlt, h⟩ := ite_some' h
    obtain ⟨xs, hxs, h⟩ := Option.bind_eq_some_iff.1 h
    obtain ⟨y, hy, h⟩ := Option.bind_eq_some_iff.1 h
    obtain ⟨hl, h⟩ := ite_some' h
    obtain rfl := Option.some.inj h
    obtain ⟨e', i', h1, h2, h3, _⟩ := telem_spec hq
    cases hx with
    | hsl _ _ _ β o s cap g hle =>
      rcases hw.sl b xs hxs with ⟨g1, _⟩ | ⟨β', o', s', cap', arr, el, g1, g2, g3, g4, g5, g6⟩
      · rw [g] at g1; cases g1
      · obtain ⟨rfl, rfl, rfl, rfl⟩ : β = β' ∧ o = o' ∧ s = s' ∧ cap = cap' := by rw [g] at g1; simpa using g1
        have hs' : s = m := (g5 _ _ hy).symm.trans hl
        subst hs'
        refine ⟨.pointer (some ⟨β, o + off * s + n.toNat * s, none⟩), ?_, ?_⟩
        · have hc2 : 0 ≤ n ∧ n < (len : Int) := ⟨h0, by omega⟩
          simp [Instr.indexAt, asIntOf, run_underlying' h1, hc2, run_sizeOf' h3, addr_add]
        · have : o + off * s + n.toNat * s = o + (off + n.toNat) * s + 0 := by rw [Nat.add_mul]; omega
          rw [this]
          exact .hel b (off + n.toNat) 0 β o s cap g
    | hend => omega
    | hnil => omega
  · obtain ⟨⟨l, m, g⟩, hq, h⟩ := Option.bind_eq_some_iff.1 h
    obtain ⟨hlt, h⟩ := ite_some' h
    obtain ⟨e', h1, h3⟩ := tarr_spec hq
    obtain ⟨β, o, rfl, hrep⟩ := ashift_spec h hx
    refine ⟨_, ?_, hrep⟩
    have hc2 : 0 ≤ n ∧ n < (l : Int) := ⟨h0, by have : n.toNat < l := hlt; omega⟩
    simp [Instr.indexAt, asIntOf, run_underlying' h1, Instr.sureAddr, hc2, run_sizeOf' h3, addr_add]
theorem opq_indexAddr {t : TypeId} {x i : Operand} (ho : o.op = .indexAddr t x i) {r : AV} (h : aindexAddr P σ t (ρ x) (ρ i) = some r) (hr : R r σ) : OpQ P o ρ σ R := by
  refine opq_v (s := fun e => Instr.indexAt t (e x) (e i)) (fun e => by simp only [execOp, ho]) r hr fun G e w he hw => ?_
  have hx := he x
  have hi := he i
  generalize ρ x = cx at h hx
  generalize e x = vx at hx
  generalize ρ i = ci at h hi
  generalize e i = vi at hi
  unfold aindexAddr at h
  split at h
  · cases hi
    obtain ⟨h0, h⟩ := ite_some' h
    exact aindexI_spec h h0 hw hx
  · cases h
end Go.AL
