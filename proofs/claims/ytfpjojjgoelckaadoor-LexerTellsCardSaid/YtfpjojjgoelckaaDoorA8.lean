import Derived.Test.YtfpjojjgoelckaaDoorA7
import Derived.Laws.Append
/-! Operations, sixth part: cuts, append. -/
namespace Go.AL
open Go.RowKit (Below)
set_option linter.unusedVariables false
set_option linter.unusedSimpArgs false

variable {P : Program} {o : Oper} {ρ : Operand → AV} {σ : ASt} {R : AV → ASt → Prop}

/-! ### cuts -/
def abound (d : Nat) : Option AV → Option Nat
  | none => some d
  | some (.p (.int _ i)) => if 0 ≤ i then some i.toNat else none
  | some _ => none
def BoundAs (G : Ghost) (w : World) : Option AV → Option Value → Prop
  | none, none => True
  | some a, some v => Rep G w a v
  | _, _ => False
theorem run_sliceBound {G w} {a : Option AV} {v : Option Value} (h : BoundAs G w a v) {d k y : Nat} (hk : abound d a = some k) (hle : k ≤ y) (c : BoundsCode) :
    (v = none ∧ d = k) ∨ ∃ u, v = some u ∧ (Instr.sliceBound u y c).run P w = .ok k w := by
  cases a with
  | none =>
    cases v with
    | none => exact .inl ⟨rfl, Option.some.inj hk⟩
    | some v => exact h.elim
  | some a =>
    cases v with
    | none => exact h.elim
    | some v =>
      refine .inr ⟨v, rfl, ?_⟩
      cases a with
      | p x =>
        cases x with
        | int q i =>
          obtain ⟨h0, hk⟩ := ite_some' hk
          obtain rfl := Option.some.inj hk
          cases h
          have hc : 0 ≤ i ∧ i ≤ (y : Int) := ⟨h0, by omega⟩
          simp [Instr.sliceBound, asIntOf, hc]
        | _ => cases hk
      | _ => cases hk
theorem run_sliceBounds {G w} {lo hi : Option AV} {vlo vhi : Option Value} (h1 : BoundAs G w lo vlo) (h2 : BoundAs G w hi vhi) {len cap l h : Nat} (hl : abound 0 lo = some l) (hh : abound len hi = some h) (hle : l ≤ h) (hcap : h ≤ cap) (s : Bool) :
    (Instr.sliceBounds s len cap vlo vhi none).run P w = .ok (l, h, cap) w := by
  rcases run_sliceBound (P := P) h2 hh hcap (if s then .sliceAcap else .sliceAlen) with ⟨rfl, rfl⟩ | ⟨u, rfl, hr⟩ <;> rcases run_sliceBound (P := P) h1 hl hle .sliceB with ⟨rfl, rfl⟩ | ⟨u', rfl, hr'⟩
  · simp [Instr.sliceBounds]
  · simp [Instr.sliceBounds, hr']
  · simp [Instr.sliceBounds, hr]
  · simp [Instr.sliceBounds, hr, hr']

def aslice (P : Program) (σ : ASt) (t : TypeId) (x : AV) (lo hi : Option AV) : Option AV :=
  match x with
  | .p (.string s) => if isString P t = true then (abound 0 lo).bind fun l => (abound s.size hi).bind fun h => if l ≤ h ∧ h ≤ s.size then some (.p (.string (s.extract l h))) else none else none
  | .vsl xs => (telem P t).bind fun q => (abound 0 lo).bind fun l => (abound xs.length hi).bind fun h =>
      if l ≤ h ∧ h ≤ xs.length ∧ (∀ y ∈ xs[l]?, y.cells.length = q.1) then some (.vsl ((xs.take h).drop l)) else none
  | .hsl b off n => (telem P t).bind fun q => (abound 0 lo).bind fun l => (abound n hi).bind fun h =>
      if l ≤ h ∧ h ≤ n then (if l = 0 then some (.hsl b off h) else (σ.sl b).bind fun xs => (xs[off]?).bind fun y => if y.cells.length = q.1 then some (.hsl b (off + l) (h - l)) else none) else none
  | _ => none
theorem rowCell_cut (xs : List AV) (l h i j : Nat) (c : AV) (hc : rowCell ((xs.take h).drop l) i j = some c) : rowCell xs (l + i) j = some c ∧ l + i < h := by
  unfold rowCell at *
  obtain ⟨x, hx, hj⟩ := Option.bind_eq_some_iff.1 hc
  rw [List.getElem?_drop, List.getElem?_take] at hx
  split at hx
  · rename_i hlt
    exact ⟨by rw [hx]; exact hj, hlt⟩
  · cases hx
theorem opq_slice {t : TypeId} {x : Operand} {lo hi : Option Operand} (ho : o.op = .slice t x lo hi none) {r : AV} (h : aslice P σ t (ρ x) (lo.map ρ) (hi.map ρ) = some r) (hr : R r σ) : OpQ P o ρ σ R := by
  refine opq_v (s := fun e => Instr.sliceAt t (e x) (lo.map e) (hi.map e) none) (fun e => by simp only [execOp, ho]; rfl) r hr fun G e w he hw => ?_
  have hx := he x
  have b1 : BoundAs G w (lo.map ρ) (lo.map e) := by cases lo with | none => trivial | some l => exact he l
  have b2 : BoundAs G w (hi.map ρ) (hi.map e) := by cases hi with | none => trivial | some l => exact he l
  generalize ρ x = cx at h hx
  generalize e x = vx at hx
  generalize lo.map ρ = al at h b1
  generalize hi.map ρ = ah at h b2
  generalize lo.map e = vl at b1
  generalize hi.map e = vh at b2
  unfold aslice at h
  split at h
  · rename_i s
    obtain ⟨ht, h⟩ := ite_some' h
    obtain ⟨l, hl, h⟩ := Option.bind_eq_some_iff.1 h
    obtain ⟨k, hk, h⟩ := Option.bind_eq_some_iff.1 h
    obtain ⟨⟨h1, h2⟩, h⟩ := ite_some' h
    obtain rfl := Option.some.inj h
    cases hx
    refine ⟨.string (s.extract l k), ?_, .p _⟩
    have := run_sliceBounds (P := P) b1 b2 hl hk h1 h2 false
    simp [Instr.sliceAt, Instr.slice, run_underlying' (isString_spec ht), this]
  · rename_i xs
    obtain ⟨⟨n, g, by_⟩, hq, h⟩ := Option.bind_eq_some_iff.1 h
    obtain ⟨l, hl, h⟩ := Option.bind_eq_some_iff.1 h
    obtain ⟨k, hk, h⟩ := Option.bind_eq_some_iff.1 h
    obtain ⟨⟨h1, h2, h3⟩, h⟩ := ite_some' h
    obtain rfl := Option.some.inj h
    obtain ⟨e', i', t1, t2, t3, _⟩ := telem_spec hq
    cases hx with
    | vnil a cap =>
      simp only [List.length_nil, Nat.le_zero] at h2 hk
      subst h2
      obtain rfl : l = 0 := by omega
      have := run_sliceBounds (P := P) b1 b2 hl hk (Nat.le_refl _) (Nat.zero_le cap) true
      simp only [Instr.sliceAt, Instr.slice, Sem.run_bind, run_underlying' t1, Result.andThen_ok, this, run_sizeOf' t3, Sem.run_pure]
      exact ⟨_, rfl, .vnil _ _⟩
    | vsl _ β o s cap val hcap hs hc hrr =>
      have := run_sliceBounds (P := P) b1 b2 hl hk h1 (Nat.le_trans h2 hcap) true
      simp only [Instr.sliceAt, Instr.slice, Sem.run_bind, run_underlying' t1, Result.andThen_ok, this, run_sizeOf' t3, Sem.run_pure]
      refine ⟨_, rfl, ?_⟩
      by_cases hlk : l = k
      · subst hlk
        have : (xs.take l).drop l = [] := by simp [List.drop_eq_nil_iff]
        rw [this, Nat.sub_self]
        exact .vnil _ _
      · have hne : ¬ cap = l := by omega
        rw [if_neg hne]
        have hlt : l < xs.length := by omega
        have hs' : s = n := (hs l _ (List.getElem?_eq_getElem hlt)).symm.trans (h3 _ (by rw [List.getElem?_eq_getElem hlt]; rfl))
        subst hs'
        have hlen : ((xs.take k).drop l).length = k - l := by simp; omega
        have hcap2 : ((xs.take k).drop l).length ≤ cap - l := by rw [hlen]; exact Nat.sub_le_sub_right (Nat.le_trans h2 hcap) l
        simp only [Option.map_some, addr_add]
        rw [← hlen]
        refine Rep.vsl _ β (o + l * s) s (cap - l) (fun i j => val (l + i) j) hcap2 (fun i x hx => ?_) (fun i j c hcc => ?_) (fun i j c hcc => hrr _ _ _ (rowCell_cut _ _ _ _ _ _ hcc).1)
        · rw [List.getElem?_drop, List.getElem?_take] at hx
          split at hx
          · exact hs _ _ hx
          · cases hx
        · have := hc _ _ _ (rowCell_cut _ _ _ _ _ _ hcc).1
          rw [show o + l * s + i * s + j = o + (l + i) * s + j by rw [Nat.add_mul]; omega]
          exact this
  · rename_i b off m
    obtain ⟨⟨n, g, by_⟩, hq, h⟩ := Option.bind_eq_some_iff.1 h
    obtain ⟨l, hl, h⟩ := Option.bind_eq_some_iff.1 h
    obtain ⟨k, hk, h⟩ := Option.bind_eq_some_iff.1 h
    obtain ⟨⟨h1, h2⟩, h⟩ := ite_some' h
    obtain ⟨e', i', t1, t2, t3, _⟩ := telem_spec hq
    cases hx with
    | hsl _ _ _ β o s cap gb hle =>
      have := run_sliceBounds (P := P) b1 b2 hl hk h1 (show k ≤ cap - off by omega) true
      simp only [Instr.sliceAt, Instr.slice, Sem.run_bind, run_underlying' t1, Result.andThen_ok, this, run_sizeOf' t3, Sem.run_pure]
      refine ⟨_, rfl, ?_⟩
      by_cases hl0 : l = 0
      · subst hl0
        rw [if_pos rfl] at h
        obtain rfl := Option.some.inj h
        by_cases hcz : cap - off = 0
        · rw [if_pos hcz, hcz, show k - 0 = 0 by omega, show k = 0 by omega]
          exact .hend b off _ β o s cap gb (by omega)
        · rw [if_neg hcz]
          simp only [Option.map_some, addr_add, Nat.zero_mul, Nat.add_zero, Nat.sub_zero]
          exact .hsl b off k β o s cap gb (by omega)
      · rw [if_neg hl0] at h
        obtain ⟨xs, hxs, h⟩ := Option.bind_eq_some_iff.1 h
        obtain ⟨y, hy, h⟩ := Option.bind_eq_some_iff.1 h
        obtain ⟨hyl, h⟩ := ite_some' h
        obtain rfl := Option.some.inj h
        rcases hw.sl b xs hxs with ⟨g1, _⟩ | ⟨β', o', s', cap', arr, el, g1, g2, g3, g4, g5, g6⟩
        · rw [gb] at g1; cases g1
        · obtain ⟨rfl, rfl, rfl, rfl⟩ : β = β' ∧ o = o' ∧ s = s' ∧ cap = cap' := by rw [gb] at g1; simpa using g1
          have hs' : s = n := (g5 _ _ hy).symm.trans hyl
          subst hs'
          by_cases hcl : cap - off = l
          · rw [if_pos hcl, show k - l = 0 by omega, show cap - off - l = 0 by omega]
            exact .hend b (off + l) _ β o s cap gb (by omega)
          · rw [if_neg hcl]
            simp only [Option.map_some, addr_add]
            have e1 : o + off * s + l * s = o + (off + l) * s := by rw [Nat.add_mul]; omega
            have e2 : cap - off - l = cap - (off + l) := by omega
            rw [e1, e2]
            exact .hsl b (off + l) (k - l) β o s cap gb (by omega)
    | hend _ _ a β o s cap gb hle =>
      obtain rfl : k = 0 := by omega
      obtain rfl : l = 0 := by omega
      have := run_sliceBounds (P := P) b1 b2 hl hk (Nat.le_refl _) (Nat.le_refl 0) true
      simp only [Instr.sliceAt, Instr.slice, Sem.run_bind, run_underlying' t1, Result.andThen_ok, this, run_sizeOf' t3, Sem.run_pure]
      rw [if_pos rfl] at h
      obtain rfl := Option.some.inj h
      refine ⟨_, rfl, ?_⟩
      first | rw [if_pos rfl] | rw [if_pos trivial]
      exact .hend b off a β o s cap gb hle
    | hnil _ a gb =>
      obtain rfl : k = 0 := by omega
      obtain rfl : l = 0 := by omega
      have := run_sliceBounds (P := P) b1 b2 hl hk (Nat.le_refl _) (Nat.le_refl 0) true
      simp only [Instr.sliceAt, Instr.slice, Sem.run_bind, run_underlying' t1, Result.andThen_ok, this, run_sizeOf' t3, Sem.run_pure]
      rw [if_pos rfl] at h
      obtain rfl := Option.some.inj h
      refine ⟨_, rfl, ?_⟩
      first | rw [if_pos rfl] | rw [if_pos trivial]
      exact .hnil b a gb
  · cases h
end Go.AL
