import Derived.Test.YtfpjojjgoelckaaDoorA5
import Derived.Laws.StructEq
/-! `==` of structs. -/
namespace Go.AL
open Go.RowKit (Below)
set_option linter.unusedVariables false
set_option linter.unusedSimpArgs false

variable {P : Program} {o : Oper} {ρ : Operand → AV} {σ : ASt} {R : AV → ASt → Prop}

/-- What kind of type it is, for `==`. -/
def tleaf (P : Program) (t : TypeId) : Nat :=
  match P.underlying t with
  | some .bool => 1
  | some (.int _) => 2
  | some .string => 3
  | _ => 0
/-- The parts of a struct that may be compared. -/
def tflds (P : Program) (t : TypeId) : Option (List (TypeId × Nat)) :=
  match P.underlying t with
  | some (.struct fs) => if P.stoodInHeld t = false ∧ fs.toList.all (fun f => f.name != "_") = true then some (fs.toList.map fun f => (f.type, f.offset)) else none
  | _ => none
def teqok (P : Program) (t : TypeId) : Bool := !P.eqGuardType P.depth t
def aeqL (P : Program) (E : TypeId → AV → AV → Option Bool) (xs ys : List AV) : List (TypeId × Nat) → Option Bool
  | [] => some true
  | f :: fs => (tsize P f.1).bind fun ng => (aloadC xs f.2 ng.1 ng.2).bind fun a => (aloadC ys f.2 ng.1 ng.2).bind fun b => (E f.1 a b).bind fun r => (aeqL P E xs ys fs).map fun s => r && s
def aeqF (P : Program) : Nat → TypeId → AV → AV → Option Bool
  | 0, _, _, _ => none
  | d + 1, t, x, y =>
    match x, y with
    | .p (.int k a), .p (.int k' b) => if tleaf P t = 2 ∧ k = k' then some (decide (a = b)) else none
    | .p (.string a), .p (.string b) => if tleaf P t = 3 then some (decide (a = b)) else none
    | .p (.bool a), .p (.bool b) => if tleaf P t = 1 then some (a == b) else none
    | .agg xs, .agg ys => (tflds P t).bind (aeqL P (aeqF P d) xs ys)
    | _, _ => none
theorem tleaf_spec {t : TypeId} {k : Nat} (h : tleaf P t = k) (hk : k ≠ 0) : ∃ d, P.underlying t = some d ∧ ((k = 1 ∧ d = .bool) ∨ (k = 2 ∧ ∃ e, d = .int e) ∨ (k = 3 ∧ d = .string)) := by
  unfold tleaf at h
  split at h <;> rename_i hd
  · exact ⟨_, hd, by simp [← h]⟩
  · exact ⟨_, hd, by simp [← h]⟩
  · exact ⟨_, hd, by simp [← h]⟩
  · exact absurd h.symm hk
theorem aeqL_spec {G : Ghost} {w : World} {d : Nat} {E : TypeId → AV → AV → Option Bool} {xs ys : List AV} {us vs : Array Value}
    (hE : ∀ t x y r u v, E t x y = some r → Rep G w x u → Rep G w y v → (Op.equalIn d t u v).run P w = .ok r w)
    (h1 : xs.length = us.size) (h2 : ∀ (i : Nat) c v, xs[i]? = some c → us[i]? = some v → Rep G w c v) (h3 : ys.length = vs.size) (h4 : ∀ (i : Nat) c v, ys[i]? = some c → vs[i]? = some v → Rep G w c v) :
    ∀ (fs : List Field) (r : Bool), fs.all (fun f => f.name != "_") = true → aeqL P E xs ys (fs.map fun f => (f.type, f.offset)) = some r → (Op.eqFields d us vs fs).run P w = .ok r w
  | [], r, _, h => by
    obtain rfl := Option.some.inj h
    simp [Op.eqFields]
  | f :: fs, r, hn, h => by
    simp only [List.all_cons, Bool.and_eq_true, bne_iff_ne, ne_eq] at hn
    simp only [List.map_cons, aeqL, Option.bind_eq_some_iff, Option.map_eq_some_iff] at h
    obtain ⟨⟨n, g⟩, ht, a, ha, b, hb, r1, hr1, s, hs, rfl⟩ := h
    obtain ⟨u, hu, hu2⟩ := run_part_of ht ha h1 h2
    obtain ⟨v, hv, hv2⟩ := run_part_of ht hb h3 h4
    have e1 := hE _ _ _ _ _ _ hr1 hu2 hv2
    have e2 := aeqL_spec hE h1 h2 h3 h4 fs s hn.2 hs
    rw [Op.eqFields]
    simp only [if_pos (show f.name ≠ "_" from hn.1), Sem.run_bind, hu, hv, e1, Result.andThen_ok]
    cases r1
    · simp
    · simpa using e2
theorem aeqF_spec {G : Ghost} {w : World} : ∀ (d D : Nat), d ≤ D → ∀ (t : TypeId) (x y : AV) (r : Bool) (u v : Value), aeqF P d t x y = some r → Rep G w x u → Rep G w y v → (Op.equalIn D t u v).run P w = .ok r w
  | 0, _, _, _, _, _, _, _, _, h, _, _ => by cases h
  | d + 1, 0, hd, _, _, _, _, _, _, _, _, _ => by omega
  | d + 1, D + 1, hd, t, x, y, r, u, v, h, hx, hy => by
    unfold aeqF at h
    split at h
    · obtain ⟨⟨ht, rfl⟩, h0⟩ := ite_some' h
      obtain ⟨e, he, hk⟩ := tleaf_spec ht (by simp)
      obtain ⟨q, rfl⟩ : ∃ q, e = .int q := by simpa using hk
      obtain rfl := Option.some.inj h0
      clear h
      cases hx; cases hy
      rename_i k a b
      have hb : (a == b) = decide (a = b) := rfl
      simp only [Op.equalIn, Sem.run_bind, run_underlying' he, Result.andThen_ok, if_true, hb]
      rfl
    · obtain ⟨ht, h0⟩ := ite_some' h
      obtain ⟨e, he, hk⟩ := tleaf_spec ht (by simp)
      obtain rfl : e = .string := by simpa using hk
      obtain rfl := Option.some.inj h0
      clear h
      cases hx; cases hy
      rename_i a b
      have hb : (a == b) = decide (a = b) := by rw [beq_toListBytes, beq_toList]
      simp only [Op.equalIn, Sem.run_bind, run_underlying' he, Result.andThen_ok, hb]
      rfl
    · obtain ⟨ht, h0⟩ := ite_some' h
      obtain ⟨e, he, hk⟩ := tleaf_spec ht (by simp)
      obtain rfl : e = .bool := by simpa using hk
      obtain rfl := Option.some.inj h0
      clear h
      cases hx; cases hy
      simp only [Op.equalIn, Sem.run_bind, run_underlying' he, Result.andThen_ok]
      rfl
    · rename_i xs ys
      simp only [Option.bind_eq_some_iff] at h
      obtain ⟨fl, hfl, h⟩ := h
      unfold tflds at hfl
      split at hfl
      · rename_i fs hu
        obtain ⟨⟨hs, hn⟩, hf0⟩ := ite_some' hfl
        obtain rfl := Option.some.inj hf0
        cases hx with
        | agg _ us h1 h2 =>
          cases hy with
          | agg _ vs h3 h4 =>
            have hf : P.fieldsOf t = fs := by simp [Program.fieldsOf, hu]
            rw [run_equalIn_struct w D t us vs (by rw [hf]; exact hu) hs, hf]
            exact aeqL_spec (fun t x y r u v h hx hy => aeqF_spec d D (by omega) t x y r u v h hx hy) h1 h2 h3 h4 fs.toList r hn h
      · cases hfl
    · cases h
theorem run_eqGuard_agg {op : BinOp} {t : TypeId} {x y : Operand} {a b : Array Value} (h : teqok P t = true) (w : World) : (eqGuard op t x y (.agg a) (.agg b)).run P w = .ok () w := by
  have h' : P.eqGuardType P.depth t = false := by simpa [teqok] using h
  unfold eqGuard
  cases op <;> first
    | rfl
    | simp [h']
def afcmp (op : BinOp) (k : FloatKind) (x y : Nat) : Option Value :=
  match op with
  | .eql => some (.bool (k.format.order x y == some .eq))
  | .neq => some (.bool (k.format.order x y != some .eq))
  | .lss => some (.bool (k.format.order x y == some .lt))
  | .leq => some (.bool (k.format.order x y == some .lt || k.format.order x y == some .eq))
  | .gtr => some (.bool (k.format.order x y == some .gt))
  | .geq => some (.bool (k.format.order x y == some .gt || k.format.order x y == some .eq))
  | _ => none
theorem run_binOp_fcmp {op : BinOp} {k : FloatKind} {a b : Nat} {t : TypeId} {v : Value} (h : afcmp op k a b = some v) (w : World) : (binOp op t (.float k a) (.float k b)).run P w = .ok v w := by
  have hk : ∀ s, (if k ≠ k then (stuck "BinOp: operands of different kinds" : Sem Value) else s) = s := fun s => if_neg (by simp)
  cases op <;> simp only [afcmp, Option.some.injEq, reduceCtorEq] at h <;> (subst h; simp only [binOp, hk]; rfl)
/-- As `abin`, and structs, too. -/
def abinS (P : Program) (op : BinOp) (t : TypeId) (x y : AV) : Option Value :=
  match x, y with
  | .agg xs, .agg ys => if teqok P t = true then (match op with | .eql => (aeqF P 20 t (.agg xs) (.agg ys)).map .bool | .neq => (aeqF P 20 t (.agg xs) (.agg ys)).map fun b => .bool !b | _ => none) else none
  | .p (.float k a), .p (.float k' b) => if k = k' then afcmp op k a b else none
  | x, y => abin P op t x y
theorem opq_binOpS {op : BinOp} {t t2 : TypeId} {x y : Operand} (ho : o.op = .binOp op t x y t2) {v : Value} (h : abinS P op t (ρ x) (ρ y) = some v) (hc : tkind P t = 3 → isConstO y = true) (hr : R (.p v) σ) : OpQ P o ρ σ R := by
  unfold abinS at h
  split at h
  · rename_i xs ys hxe hye
    obtain ⟨ht, h⟩ := ite_some' h
    refine opq_v (s := fun e => do eqGuard op t x y (e x) (e y); binOp op t (e x) (e y)) (fun e => by simp only [execOp, ho]) (.p v) hr fun G e w he hw => ⟨v, ?_, .p v⟩
    have hx := he x
    have hy := he y
    rw [hxe] at hx
    rw [hye] at hy
    generalize e x = vx at hx
    generalize e y = vy at hy
    cases hx with
    | agg _ us h1 h2 =>
      cases hy with
      | agg _ vs h3 h4 =>
        simp only [Sem.run_bind, run_eqGuard_agg ht, Result.andThen_ok]
        split at h
        · simp only [Option.map_eq_some_iff] at h
          obtain ⟨r, hq, rfl⟩ := h
          have := aeqF_spec (P := P) (G := G) (w := w) 20 Op.maxDepth (by decide) t _ _ r _ _ hq (.agg _ us h1 h2) (.agg _ vs h3 h4)
          simp [binOp, Op.equal, this]
        · simp only [Option.map_eq_some_iff] at h
          obtain ⟨r, hq, rfl⟩ := h
          have := aeqF_spec (P := P) (G := G) (w := w) 20 Op.maxDepth (by decide) t _ _ r _ _ hq (.agg _ us h1 h2) (.agg _ vs h3 h4)
          simp [binOp, Op.equal, this]
        · cases h
  · rename_i k a k' b hxe hye
    obtain ⟨rfl, h0⟩ := ite_some' h
    refine opq_v (s := fun e => do eqGuard op t x y (e x) (e y); binOp op t (e x) (e y)) (fun e => by simp only [execOp, ho]) (.p v) hr fun G e w he hw => ⟨v, ?_, .p v⟩
    have hx := he x
    have hy := he y
    rw [hxe] at hx
    rw [hye] at hy
    generalize e x = vx at hx
    generalize e y = vy at hy
    cases hx; cases hy
    simp only [Sem.run_bind]
    rw [run_eqGuard (by intros; contradiction) (by intros; contradiction)]
    exact run_binOp_fcmp h0 w
  · exact opq_binOp ho h hc hr
end Go.AL
