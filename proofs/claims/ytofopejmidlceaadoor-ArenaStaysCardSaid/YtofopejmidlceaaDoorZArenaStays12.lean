/- Parts of the proof of ArenaStays: the logic, contracts, plain laws. -/
import Derived.Test.YtofopejmidlceaaDoorZArenaStays11
import Derived.Shelf.SlIter.Nil
import Derived.Shelf.SlIterI.Nil
import Derived.Lib.SlicesCompact
import Derived.Laws.MakeOwn
import Derived.Lib.ItoaNum
/-! delete. -/
namespace Go.AL
set_option linter.unusedVariables false
set_option linter.unusedSimpArgs false
variable {P : Program} {σ : ASt} {R : AV → ASt → Prop} {D : List Deferred} {Q : Exit → List AV → ASt → Prop} {fr : List AV} {ops : Array Oper} {o : Oper} {ρ : Operand → AV} {rest : List Oper}
def amdel (d : TypeDesc) (k : AV) (es : List (AV × AV)) : Option (List (AV × AV)) := (amfind d k es 0).map fun r => match r with
  | none => es
  | some (j, _) => es.eraseIdx j
theorem opq_mapDel {t t2 : TypeId} {m k : Operand} (ho : o.op = .call { callee := .builtin .delete, args := #[m, k], argTypes := #[t, t2] }) {d : TypeDesc} {el : TypeId} (ht : tmap P t = some (d, el)) {b : Nat} (hm : ρ m = .map b) {es es' : List (AV × AV)} (hb : σ.mp b = some es) {kv : Value} (hk : ρ k = .p kv)
    (hf : amdel d (.p kv) es = some es') (hr : R (.p undef) { σ with mp := upd σ.mp b (some es') }) : OpQ P o ρ σ R := by
  obtain ⟨kt, u1, u2, u3⟩ := tmap_spec ht
  intro G e w he hw
  have hm' := he m
  rw [hm] at hm'
  have hk' := he k
  rw [hk] at hk'
  obtain ⟨r, hfd, rfl⟩ := Option.map_eq_some_iff.1 hf
  obtain ⟨μ, ents, clock, g1, g2, g3, g4, g5⟩ := mp_map (hw.mp b es hb) hfd
  generalize hem : e m = vm at hm'
  generalize hek : e k = vk at hk'
  cases hk'
  obtain ⟨μ', rfl, g⟩ : ∃ μ', vm = .map (some μ') ∧ G.mp b = some μ' := by cases hm'; exact ⟨_, rfl, by assumption⟩
  obtain rfl := Option.some.inj (g.symm.trans g1)
  have hfn := findNow_spec (G := G) (w := w) es ents.toList 0 r (by simp [g3]) (fun n k x e a c => by
    have := g4 n k x e a (by simpa using c)
    exact ⟨this.1, this.2.1⟩) hfd
  have key : ∃ ents' clock', (execOp e o).run P w = ((setObj μ' (.map ents' clock')).run P w).andThen (fun _ w' => .ok (.value (.tuple #[])) w') ∧ ents'.size = (match r with | none => es | some (j, _) => es.eraseIdx j).length ∧
      (∀ (i : Nat) k' x' (e' : MapEntry), (match r with | none => es | some (j, _) => es.eraseIdx j)[i]? = some (k', x') → ents'[i]? = some e' → Rep G w k' e'.key ∧ Rep G w x' e'.val ∧ e'.born < clock') ∧ (∀ (i j : Nat) (e e' : MapEntry), ents'[i]? = some e → ents'[j]? = some e' → e.born = e'.born → i = j) := by
    cases r with
    | none =>
      refine ⟨ents, clock, ?_, g3, g4, g5⟩
      rw [execOp_builtin e ho]
      simp [builtin, Builtin.delete_, run_underlying' u1, hem, hek, run_getObj_map g2, run_checkKey u2 u3, run_findKey u2 hfn]
      cases Sem.run P (setObj μ' (.map ents clock)) w <;> rfl
    | some jy =>
      obtain ⟨j, y⟩ := jy
      obtain ⟨e0, _, he0, hre, hfn⟩ := hfn
      have hj : j < es.length := by
        obtain ⟨_, hes, _⟩ := amfind_key es 0 j y hfd
        exact (List.getElem?_eq_some_iff.1 (by simpa using hes)).1
      have hje : j < ents.size := by omega
      have hget : ∀ i : Nat, (ents.eraseIdxIfInBounds j)[i]? = if i < j then ents[i]? else ents[i + 1]? := fun i => by
        rw [Array.eraseIdxIfInBounds_eq, dif_pos hje, Array.getElem?_eraseIdx]
      have hgl : ∀ i : Nat, (es.eraseIdx j)[i]? = if i < j then es[i]? else es[i + 1]? := fun i => List.getElem?_eraseIdx
      refine ⟨ents.eraseIdxIfInBounds j, clock, ?_, ?_, ?_, ?_⟩
      · rw [execOp_builtin e ho]
        simp [builtin, Builtin.delete_, run_underlying' u1, hem, hek, run_getObj_map g2, run_checkKey u2 u3, run_findKey u2 hfn]
        cases Sem.run P (setObj μ' (.map (ents.eraseIdxIfInBounds j) clock)) w <;> rfl
      · rw [Array.eraseIdxIfInBounds_eq, dif_pos hje, Array.size_eraseIdx, List.length_eraseIdx, if_pos hj, g3]
      · intro i k' x' e' a c
        simp only at a
        rw [hgl] at a
        rw [hget] at c
        split at a
        · rename_i hi; rw [if_pos hi] at c; exact g4 i k' x' e' a c
        · rename_i hi; rw [if_neg hi] at c; exact g4 (i + 1) k' x' e' a c
      · intro i i' e1 e2 h1 h2 h3
        rw [hget] at h1 h2
        split at h1 <;> split at h2
        · exact g5 i i' e1 e2 h1 h2 h3
        · have := g5 i (i' + 1) e1 e2 h1 h2 h3; omega
        · have := g5 (i + 1) i' e1 e2 h1 h2 h3; omega
        · have := g5 (i + 1) (i' + 1) e1 e2 h1 h2 h3; omega
  obtain ⟨ents', clock', run, k1, k2, k3⟩ := key
  obtain ⟨w', hset, htouch, hh⟩ := run_setObj (P := P) (o' := .map ents' clock') g2
  rw [run, hset, Result.andThen_ok]
  have hown : Owns G σ μ' (1, b) := .mp b μ' es hb g
  have hl := Le.touch hw hown htouch
  exact ⟨_, G, _, hl, hw.touch_mp hb g htouch (fun hl => .inl ⟨μ', ents', clock', g, hh, k1, fun i k' x' e' a c => ⟨(k2 i k' x' e' a c).1.mono hl, (k2 i k' x' e' a c).2.1.mono hl, (k2 i k' x' e' a c).2.2⟩, k3⟩), .p _, hr⟩
theorem awl_mapDel {t t2 : TypeId} {m k : Operand} (mu : List Nat) (ho : o.op = .call { callee := .builtin .delete, args := #[m, k], argTypes := #[t, t2] }) (hw : awanted ops o fr = some true) {d : TypeDesc} {el : TypeId} (ht : tmap P t = some (d, el)) {b : Nat} (hm : aev fr m = .map b) {es es' : List (AV × AV)} (hb : σ.mp b = some es)
    {kv : Value} (hk : aev fr k = .p kv) (hf : amdel d (.p kv) es = some es') (hk2 : Shut (ARun P D ops Q mu rest (aput fr o.dst (.p undef)) { σ with mp := upd σ.mp b (some es') })) : AWL P D ops Q (o :: rest) fr σ :=
  awl_cons hw (opq_mapDel ho ht hm hb hk hf (awl_run' mu hk2))
end Go.AL
/-! Methods on a variable that holds a map. -/
namespace Go.AL
set_option linter.unusedVariables false
set_option linter.unusedSimpArgs false
variable {P : Program} {σ : ASt} {R : AV → ASt → Prop} {D : List Deferred} {Q : Exit → List AV → ASt → Prop} {fr : List AV} {ops : Array Oper} {o : Oper} {rest : List Oper}
/-- The variable number 0, with the map number 1. -/
def tbS (es : List (AV × AV)) : ASt := ⟨fun i => if i = 0 then some [.map 1] else none, fun i => if i = 1 then some es else none, fun _ => none, 2⟩
@[simp] theorem tbS_bx (es : List (AV × AV)) (i : Nat) : (tbS es).bx i = if i = 0 then some [.map 1] else none := rfl
@[simp] theorem tbS_mp (es : List (AV × AV)) (i : Nat) : (tbS es).mp i = if i = 1 then some es else none := rfl
@[simp] theorem tbS_sl (es : List (AV × AV)) (i : Nat) : (tbS es).sl i = none := rfl
@[simp] theorem tbS_next (es : List (AV × AV)) : (tbS es).next = 2 := rfl
/-- By its address it hands back r, and leaves es'. -/
def TC (P : Program) (f : FuncId) (args : List AV) (es : List (AV × AV)) (r : AV) (es' : List (AV × AV)) : Prop := ACall P f (.ptr 0 0 :: args) (tbS es) fun r' σ' => r' = r ∧ σ'.bx 0 = some [.map 1] ∧ σ'.mp 1 = some es'
theorem TC.call {f : FuncId} {args : List AV} {es es' : List (AV × AV)} {r : AV} {b m : Nat} (h : TC P f args es r es') (ha : ∀ a ∈ args, Cl a) (hr : Cl r) (hes : ∀ p ∈ es, Cl p.1 ∧ Cl p.2) (hes' : ∀ p ∈ es', Cl p.1 ∧ Cl p.2)
    (hne : b ≠ m) (hb : σ.bx b = some [.map m]) (hm : σ.mp m = some es) (z1 : σ.mp b = none) (z2 : σ.sl b = none) (z3 : σ.bx m = none) (z4 : σ.sl m = none) :
    ACall P f (.ptr b 0 :: args) σ fun r' σ' => r' = r ∧ σ' = { σ with mp := upd σ.mp m (some es') } := by
  refine acall_ok fun hok => ?_
  have hbn : b < σ.next := by
    rcases Nat.lt_or_ge b σ.next with h' | h'
    · exact h'
    · rw [hok.bx b h'] at hb; cases hb
  have hmn : m < σ.next := by
    rcases Nat.lt_or_ge m σ.next with h' | h'
    · exact h'
    · rw [hok.mp m h'] at hm; cases hm
  obtain ⟨ρ, hρ⟩ : ∃ ρ, ρ = ridx [b, m] σ.next := ⟨_, rfl⟩
  have r0 : ρ 0 = b := by rw [hρ]; rfl
  have r1 : ρ 1 = m := by rw [hρ]; rfl
  have h0 : ACall P f (.ptr 0 0 :: args) (tbS es) fun r' σ' => r' = r ∧ σ'.bx = (tbS es').bx ∧ σ'.mp = (tbS es').mp ∧ σ'.sl = (tbS es').sl :=
    ACall.low h fun r' τ ⟨e1, e2, e3⟩ => ⟨⟨(tbS es').bx, (tbS es').mp, (tbS es').sl, τ.next⟩, {
      bx := fun i cs e => by
        simp only [tbS_bx] at e
        split at e
        · rename_i hi; subst hi; rw [e2]; exact e
        · cases e
      mp := fun i cs e => by
        simp only [tbS_mp] at e
        split at e
        · rename_i hi; subst hi; rw [e3]; exact e
        · cases e
      sl := fun _ _ e => by cases e
      next := Nat.le_refl _ }, e1, rfl, rfl, rfl⟩
  have h1 := ACall.frame1 (σ := σ) [b, m] (h := h0) rfl ⟨fun i hi => by
      have : ¬ i = 0 := by have : 2 ≤ i := hi; omega
      simp [this], fun i hi => by
      have : ¬ i = 1 := by have : 2 ≤ i := hi; omega
      simp [this], fun _ _ => rfl⟩ (by intro x hx; simp at hx; rcases hx with rfl | rfl <;> assumption) (by simpa using hne) (fun i cs e => by
      simp only [tbS_bx] at e
      split at e
      · rename_i hi; subst hi
        obtain rfl := Option.some.inj e
        rw [← hρ]; simp [rens, ren, r0, r1, hb]
      · cases e) (fun i xs e => by
      simp only [tbS_mp] at e
      split at e
      · rename_i hi; subst hi
        obtain rfl := Option.some.inj e
        rw [← hρ, r1, hm]
        refine congrArg some ?_
        conv => lhs; rw [← List.map_id es]
        exact List.map_congr_left fun p hp => by rw [renE, ren_closed _ (hes p hp).1, ren_closed _ (hes p hp).2]; rfl
      · cases e) (fun i xs e => by cases e) (fun r' τ ⟨e1, e2, e3, e4⟩ => by
      subst e1
      refine ⟨.of_cl hr, fun i cs e hi c hc => ?_, fun i es e hi p hp => ?_, fun i xs e hi => by rw [e4] at e; cases e⟩
      · rw [e2] at e
        simp only [tbS_bx] at e
        split at e
        · obtain rfl := Option.some.inj e
          obtain rfl := List.mem_singleton.1 hc
          intro π hπ
          simp only [ren]
          rw [hπ 1 (by simp)]
        · cases e
      · rw [e3] at e
        simp only [tbS_mp] at e
        split at e
        · obtain rfl := Option.some.inj e
          exact ⟨.of_cl (hes' p hp).1, .of_cl (hes' p hp).2⟩
        · cases e)
  rw [← hρ] at h1
  have ea : rens ρ (.ptr 0 0 :: args) = .ptr b 0 :: args := by
    simp only [rens, ren, r0]
    rw [rens_cl ha]
  rw [ea] at h1
  refine h1.mono fun r' σ' ⟨rc, τ, ⟨e1, e2, e3, e4⟩, e5, e6⟩ => ?_
  subst e1
  refine ⟨by rw [e5, ren_closed _ hr], ?_⟩
  rw [e6]
  unfold back1
  have hmb : ¬ m = b := fun e => hne e.symm
  have f0 : ∀ x, rfind x [b, m] 0 = if x = b then some 0 else if x = m then some 1 else none := fun x => by
    simp only [rfind]
  have esE : es'.map (renE ρ) = es' := by
    conv => rhs; rw [← List.map_id es']
    exact List.map_congr_left fun p hp => by rw [renE, ren_closed _ (hes' p hp).1, ren_closed _ (hes' p hp).2]; rfl
  rw [← hρ]
  congr 1
  · funext x
    rw [f0, e2]
    by_cases q1 : x = b
    · subst q1; simp [rens, ren, r1, hb]
    · by_cases q2 : x = m
      · subst q2; simp [hmb, z3]
      · simp [q1, q2]
  · funext x
    rw [f0, e3]
    by_cases q1 : x = b
    · subst q1; simp [upd, hne, z1]
    · by_cases q2 : x = m
      · subst q2; simp [hmb, upd, esE]
      · simp [q1, q2, upd]
  · funext x
    rw [f0, e4]
    by_cases q1 : x = b
    · subst q1; simp [z2]
    · by_cases q2 : x = m
      · subst q2; simp [hmb, z4]
      · simp [q1, q2]
end Go.AL
/-! slices.Sorted over a map's keys: texts. -/
namespace Go.AL
open Go.Proofs Go.Maps Go.WideElems
open Go.WideShapes (sorted_perm)
open Go.RowKit (Below)
set_option linter.unusedVariables false
set_option linter.unusedSimpArgs false
variable {P : Program} {σ : ASt}
abbrev kRd : Value → Option (DataW Unit × List MemPlace) := fun _ => some (.lit (.bool true), [])
end Go.AL
/-! slices.Sorted over a map's keys: whole numbers. -/
namespace Go.AL
open Go.Proofs Go.Maps Go.WideElems
open Go.WideShapes (sorted_perm)
open Go.RowKit (Below)
set_option linter.unusedVariables false
set_option linter.unusedSimpArgs false
variable {P : Program} {σ : ASt}
def sortI (ns : List Int) : List Int := ns.mergeSort leI
theorem owns_keysI {G : Ghost} {w : World} {m μ : Nat} {kt : TypeId} (hkt : P.underlying kt = some (.int .i64)) {es : List (AV × AV)} {ns : List Int} (hk : es.map Prod.fst = ns.map fun s => .p (.int .i64 s)) (hnd : ns.Nodup) (hsz : ∀ s ∈ ns, (Lit.int .i64 s).wf = true) (hl : ns.length ≤ maxLen) (hg : G.mp m = some μ) (h : MpOK G w m es) :
    ∃ D0, w.ownsMap P kt kRd μ ns.length D0 ∧ (intKeys D0).Perm ns ∧ Maps.size D0 = ns.length := by
  rcases h with ⟨μ', ents, clock, h1, h2, h3, h4, h5⟩ | ⟨μ', o, fr, h1, h2, h3, h4⟩
  · obtain rfl := Option.some.inj (hg.symm.trans h1)
    have hlen : es.length = ns.length := by have := congrArg List.length hk; simpa using this
    have hkey : ∀ (i : Nat) e, ents[i]? = some e → ∃ s, ns[i]? = some s ∧ e.key = .int .i64 s ∧ e.born < clock := fun i e he => by
      have hi : i < es.length := by have := (Array.getElem?_eq_some_iff.1 he).1; omega
      obtain ⟨⟨k, x⟩, hx⟩ : ∃ p, es[i]? = some p := ⟨_, List.getElem?_eq_getElem hi⟩
      have hk' := congrArg (·[i]?) hk
      simp only [List.getElem?_map, hx, Option.map_some] at hk'
      cases hn : ns[i]? with
      | none => rw [hn] at hk'; cases hk'
      | some s =>
        rw [hn] at hk'
        simp only [Option.map_some, Option.some.injEq] at hk'
        subst hk'
        obtain ⟨a, _, b⟩ := h4 i _ x e hx he
        generalize e.key = q at a
        cases a
        exact ⟨s, rfl, rfl, b⟩
    have hmem : ∀ e ∈ ents.toList, ∃ s, s ∈ ns ∧ e.key = .int .i64 s ∧ e.born < clock := fun e he => by
      obtain ⟨i, hi, rfl⟩ := List.getElem_of_mem he
      obtain ⟨s, a, b, c⟩ := hkey i ents.toList[i] (by simp at hi; simp [hi])
      exact ⟨s, List.mem_of_getElem? a, b, c⟩
    have hks : ents.toList.map (·.key) = ns.map (Value.int .i64) := by
      refine List.ext_getElem? fun i => ?_
      simp only [List.getElem?_map, Array.getElem?_toList]
      cases he : ents[i]? with
      | none =>
        have : ns[i]? = none := by
          rw [List.getElem?_eq_none_iff]
          have := Array.getElem?_eq_none_iff.1 he
          omega
        rw [this]; rfl
      | some e =>
        obtain ⟨s, a, b, _⟩ := hkey i e he
        rw [a]; simp [b]
    have hrd : ∀ e ∈ ents.toList, rd P kt kRd e = some (.int .i64 (match e.key with | .int _ s => s | _ => 0), .lit (.bool true)) := fun e he => by
      obtain ⟨s, hs, e1, _⟩ := hmem e he
      have hm := hsz s hs
      simp [rd, keyOf, hkt, mapKey, e1, hm]
    have F : Fit P kt kRd ents clock := ⟨by omega, ⟨fun e he => (hmem e he).choose_spec.2.2, by
        rw [List.Nodup, List.pairwise_map]
        refine List.pairwise_iff_getElem.2 fun i j hi hj hij e => ?_
        have := h5 i j ents.toList[i] ents.toList[j] (by simp at hi; simp [hi]) (by simp at hj; simp [hj]) e
        omega, by
        rw [hks]
        exact List.Pairwise.map _ (fun a b h e => h (Value.int.inj e).2) hnd⟩, fun e he => ⟨_, hrd e he⟩⟩
    refine ⟨_, ⟨ents, clock, h2, F, by omega, rfl⟩, ?_, ?_⟩
    · refine ((sorted_perm _).map _).trans ?_
      rw [List.map_map]
      have : ents.toList.map ((fun p => Go.intOf p.1) ∘ rg P kt kRd) = (ents.toList.map (·.key)).map fun v => match v with | .int _ s => s | _ => 0 := by
        rw [List.map_map]
        refine List.map_congr_left fun e he => ?_
        simp [rg, hrd e he, Go.intOf]
      rw [this, hks, List.map_map]
      have h2 : ns.map ((fun v => match v with | .int _ s => s | _ => 0) ∘ Value.int .i64) = ns := by
        conv => rhs; rw [← List.map_id ns]
        exact List.map_congr_left fun s _ => rfl
      rw [h2]
    · rw [Maps.size_eq, (sorted_perm _).length_eq, List.length_map, Array.length_toList]
      omega
  · exfalso
    subst h4
    cases ns with
    | nil => simp [obE] at hk
    | cons s ns => simp [obE] at hk
end Go.AL
/-! What is handed back, closed to some depth: variables, maps and slices of the function's own stay as they are. -/
namespace Go.AL
open Go.RowKit (Below)
set_option linter.unusedVariables false
set_option linter.unusedSimpArgs false
variable {P : Program} {σ : ASt} {R : AV → ASt → Prop} {D : List Deferred} {Q : Exit → List AV → ASt → Prop} {fr : List AV}
end Go.AL
/-! Slices of one's own, under contracts of the kit's that speak of rows. -/
namespace Go.AL
open Go.Proofs Go.Maps Go.WideElems Go.Sort
open Go.RowKit (Below)
set_option linter.unusedVariables false
set_option linter.unusedSimpArgs false
variable {P : Program} {σ : ASt} {R : AV → ASt → Prop}
/-- A slice that owns a row is a slice of one's own. -/
theorem own_row {G : Ghost} {w w' : World} {t : TypeId} {s : Nat} {v : Value} {n : Nat} {vals : List Value} {xs : List AV} (hw : SimW G σ w) (hbl : Below w.heap.size w w') (hrow : w'.ownsRow w.heap.size t s v n vals) (hnil : n = 0 → v = .slice none 0 0) (hn : xs.length = n)
    (hs : ∀ (i : Nat) x, xs[i]? = some x → x.cells.length = s) (hx : ∀ (i j : Nat) c, rowCell xs i j = some c → ∃ u, vals[i * s + j]? = some u ∧ c = .p u) :
    ∃ G', Le G w G' w' ∧ SimW G' (σ.addSl xs) w' ∧ Rep G' w' (.hsl σ.next 0 n) v := by
  by_cases h0 : n = 0
  · obtain rfl : xs = [] := List.eq_nil_of_length_eq_zero (by omega)
    rw [hnil h0]
    subst h0
    exact new_nil hw w' hbl none
  obtain ⟨hlen, hrow⟩ := hrow
  rcases hrow with ⟨rfl, h0'⟩ | ⟨g, cap, cur, rfl, hge, hheap, hnc, hcap, hcs, htake⟩
  · exact absurd h0' h0
  · have hl := Le.addSl hw hbl (some (g, 0, s, cap))
    refine ⟨_, hl, hw.addSl _ hbl (fun β q e => by cases e; exact hge) (fun hl => .inr ⟨g, 0, s, cap, cur, t, upd_same _ _ _, hheap, ⟨by omega, by omega⟩, ⟨by omega, by unfold maxLen at hcap; omega⟩, hs, fun i j c u hc hu => ?_⟩), ?_⟩
    · obtain ⟨u', h1, rfl⟩ := hx i j c hc
      obtain ⟨hi, hj, hlt⟩ := rowCell_lt hc hs
      rw [← htake, List.getElem?_take_of_lt (by rw [← hn]; exact hlt), Array.getElem?_toList] at h1
      rw [Nat.zero_add, h1] at hu
      obtain rfl := Option.some.inj hu
      exact .p _
    · have := Rep.hsl (G := G.addSl σ.next (some (g, 0, s, cap))) (w := w') σ.next 0 n g 0 s cap (upd_same _ _ _) (by omega)
      simpa using this
/-! ### in place -/
theorem rowCell_one {xs : List AV} (h : ∀ x ∈ xs, x.cells = [x]) (i j : Nat) : rowCell xs i j = if j = 0 then xs[i]? else none := by
  unfold rowCell
  cases hx : xs[i]? with
  | none => simp
  | some x =>
    simp only [Option.bind_some]
    rw [h x (List.mem_of_getElem? hx)]
    cases j <;> simp
/-! ### the library's contracts -/
end Go.AL
/-! slices.Sorted over a map's keys, as a slice of one's own; over a map that stays, too. -/
namespace Go.AL
open Go.Proofs Go.Maps Go.WideElems
open Go.WideShapes (sorted_perm)
open Go.RowKit (Below)
set_option linter.unusedVariables false
set_option linter.unusedSimpArgs false
variable {P : Program} {σ : ASt} {R : AV → ASt → Prop} {D : List Deferred} {Q : Exit → List AV → ASt → Prop} {fr : List AV} {ops : Array Oper}
/-- The shelf's contract of slices.Sorted, over the iterator fI with a box that holds a map. -/
def SortsKeysN (P : Program) (fS fI : FuncId) (kt : TypeId) : Prop :=
  ∀ (Bm b nn : Nat) (D0 : DataW Unit) (w : World), Bm < w.heap.size → w.cell? ⟨Bm, 0, none⟩ = some (.map (some b)) → w.ownsMap P kt kRd b nn D0 → Maps.size D0 ≤ maxLen → Maps.size D0 * 8 ≤ 140737488355328 →
    Calls P fS #[.func (.func fI) #[] #[.pointer (some ⟨Bm, 0, none⟩)]] w fun e w' => ∃ (v : Value) (ss : List Int), e = .returned v ∧ ss.Perm (intKeys D0) ∧
      w'.ownsRow w.heap.size kt 1 v ss.length ((ss.mergeSort leI).map encZ) ∧ (v = .slice none 0 0 ↔ ss = []) ∧ Below w.heap.size w w'
theorem owns_keysE {w : World} {μ clock : Nat} {kt : TypeId} {ents : Array MapEntry} (hkt : P.underlying kt = some (.int .i64)) {ns : List Int} (h2 : w.heap[μ]? = some (.map ents clock)) (h3 : ents.size = ns.length) (hnd : ns.Nodup) (hsz : ∀ s ∈ ns, (Lit.int .i64 s).wf = true) (hl : ns.length ≤ maxLen)
    (hkey : ∀ (i : Nat) e, ents[i]? = some e → ∃ s, ns[i]? = some s ∧ e.key = .int .i64 s ∧ e.born < clock) (h5 : ∀ (i j : Nat) (e e' : MapEntry), ents[i]? = some e → ents[j]? = some e' → e.born = e'.born → i = j) :
    ∃ D0, w.ownsMap P kt kRd μ ns.length D0 ∧ (intKeys D0).Perm ns ∧ Maps.size D0 = ns.length := by
  have hmem : ∀ e ∈ ents.toList, ∃ s, s ∈ ns ∧ e.key = .int .i64 s ∧ e.born < clock := fun e he => by
    obtain ⟨i, hi, rfl⟩ := List.getElem_of_mem he
    obtain ⟨s, a, b, c⟩ := hkey i ents.toList[i] (by simp at hi; simp [hi])
    exact ⟨s, List.mem_of_getElem? a, b, c⟩
  have hks : ents.toList.map (·.key) = ns.map (Value.int .i64) := by
    refine List.ext_getElem? fun i => ?_
    simp only [List.getElem?_map, Array.getElem?_toList]
    cases he : ents[i]? with
    | none =>
      have : ns[i]? = none := by
        rw [List.getElem?_eq_none_iff]
        have := Array.getElem?_eq_none_iff.1 he
        omega
      rw [this]; rfl
    | some e =>
      obtain ⟨s, a, b, _⟩ := hkey i e he
      rw [a]; simp [b]
  have hrd : ∀ e ∈ ents.toList, rd P kt kRd e = some (.int .i64 (match e.key with | .int _ s => s | _ => 0), .lit (.bool true)) := fun e he => by
    obtain ⟨s, hs, e1, _⟩ := hmem e he
    have hm := hsz s hs
    simp [rd, keyOf, hkt, mapKey, e1, hm]
  have F : Fit P kt kRd ents clock := ⟨by omega, ⟨fun e he => (hmem e he).choose_spec.2.2, by
      rw [List.Nodup, List.pairwise_map]
      refine List.pairwise_iff_getElem.2 fun i j hi hj hij e => ?_
      have := h5 i j ents.toList[i] ents.toList[j] (by simp at hi; simp [hi]) (by simp at hj; simp [hj]) e
      omega, by
      rw [hks]
      exact List.Pairwise.map _ (fun a b h e => h (Value.int.inj e).2) hnd⟩, fun e he => ⟨_, hrd e he⟩⟩
  refine ⟨_, ⟨ents, clock, h2, F, by omega, rfl⟩, ?_, ?_⟩
  · refine ((sorted_perm _).map _).trans ?_
    rw [List.map_map]
    have : ents.toList.map ((fun p => Go.intOf p.1) ∘ rg P kt kRd) = (ents.toList.map (·.key)).map fun v => match v with | .int _ s => s | _ => 0 := by
      rw [List.map_map]
      refine List.map_congr_left fun e he => ?_
      simp [rg, hrd e he, Go.intOf]
    rw [this, hks, List.map_map]
    have h2 : ns.map ((fun v => match v with | .int _ s => s | _ => 0) ∘ Value.int .i64) = ns := by
      conv => rhs; rw [← List.map_id ns]
      exact List.map_congr_left fun s _ => rfl
    rw [h2]
  · rw [Maps.size_eq, (sorted_perm _).length_eq, List.length_map, Array.length_toList]
    omega
/-- The map that a variable holds: its own, or one that stays. -/
def HoldsKeys (σ : ASt) (ns : List Int) (c : AV) : Prop :=
  (∃ m es, c = .map m ∧ σ.mp m = some es ∧ es.map Prod.fst = ns.map fun s => .p (.int .i64 s)) ∨ ∃ vs, c = .vmp (ns.map fun s => .p (.int .i64 s)) vs
theorem owns_keysH {G : Ghost} {w : World} {kt : TypeId} (hkt : P.underlying kt = some (.int .i64)) {ns : List Int} {c : AV} {v : Value} (hw : SimW G σ w) (hc : HoldsKeys σ ns c) (hr : Rep G w c v) (hnd : ns.Nodup) (hsz : ∀ s ∈ ns, (Lit.int .i64 s).wf = true) (hl : ns.length ≤ maxLen) :
    ∃ μ D0, v = .map (some μ) ∧ w.ownsMap P kt kRd μ ns.length D0 ∧ (intKeys D0).Perm ns ∧ Maps.size D0 = ns.length := by
  rcases hc with ⟨m, es, rfl, hm, hk⟩ | ⟨vs, rfl⟩
  · obtain ⟨μ, rfl, g⟩ : ∃ μ, v = .map (some μ) ∧ G.mp m = some μ := by cases hr; exact ⟨_, rfl, by assumption⟩
    obtain ⟨D0, h1, h2, h3⟩ := owns_keysI (P := P) (kt := kt) hkt hk hnd hsz hl g (hw.mp m es hm)
    exact ⟨μ, D0, rfl, h1, h2, h3⟩
  · generalize hks : ns.map (fun s => (.p (.int .i64 s) : AV)) = ks at hr
    cases hr with
    | vmp _ _ μ clock ents h1 h2 h3 h4 h5 h6 h7 h8 =>
      have hlen : ks.length = ns.length := by rw [← hks, List.length_map]
      obtain ⟨D0, k1, k2, k3⟩ := owns_keysE (P := P) (kt := kt) hkt (ns := ns) h2 (by omega) hnd hsz hl (fun i e he => by
        have hi : i < ns.length := by have := (Array.getElem?_eq_some_iff.1 he).1; omega
        have := h5 i (.p (.int .i64 ns[i])) e (by rw [← hks]; simp [hi]) he
        refine ⟨ns[i], List.getElem?_eq_getElem hi, ?_, h7 i e he⟩
        generalize e.key = q at this
        cases this; rfl) h8
      exact ⟨μ, D0, rfl, k1, k2, k3⟩
theorem acall_sortedN {fS fI : FuncId} {kt : TypeId} (hS : SortsKeysN P fS fI kt) (hkt : P.underlying kt = some (.int .i64)) {k : Nat} {c : AV} {ns : List Int} (hb : σ.bx k = some [c]) (hc : HoldsKeys σ ns c) (hnd : ns.Nodup) (hsz : ∀ s ∈ ns, (Lit.int .i64 s).wf = true) (hl : ns.length ≤ 1000000) :
    ACall P fS [.fn (.func fI) [] [.ptr k 0]] σ fun r τ => r = .hsl σ.next 0 ns.length ∧ τ = σ.addSl ((sortI ns).map fun s => .p (.int .i64 s)) := by
  intro G w vs hv hw
  obtain ⟨hv1, hv2⟩ := hv
  obtain ⟨v0, rfl⟩ : ∃ v0, vs = #[v0] := by
    obtain ⟨l⟩ := vs
    match l, hv1 with
    | [v0], _ => exact ⟨v0, rfl⟩
  have hr := hv2 0 _ v0 rfl rfl
  obtain ⟨β, arr, el, hβ, harr, u, hcell, hlt, hu⟩ : ∃ β arr el, G.bx k = some β ∧ w.heap[β]? = some (.cells arr el (0, 0)) ∧ ∃ u, arr[0]? = some u ∧ β < w.heap.size ∧ Rep G w c u := by
    obtain ⟨β, arr, el, g1, g2, g3, g4⟩ := hw.bx k _ hb
    obtain ⟨v, hv⟩ : ∃ v, arr[0]? = some v := ⟨_, Array.getElem?_eq_getElem (by rw [g3]; simp)⟩
    exact ⟨β, arr, el, g1, g2, v, hv, (Array.getElem?_eq_some_iff.1 g2).1, g4 0 _ v rfl hv⟩
  obtain rfl : v0 = .func (.func fI) #[] #[.pointer (some ⟨β, 0, none⟩)] := by
    cases hr with
    | fn f aa bs us vs h1 h2 h3 h4 =>
      obtain rfl : us = #[] := Array.eq_empty_of_size_eq_zero h1.symm
      obtain ⟨x, rfl⟩ : ∃ x, vs = #[x] := by
        obtain ⟨l⟩ := vs
        match l, h2 with
        | [v0], _ => exact ⟨v0, rfl⟩
      have hx := h4 0 _ x rfl rfl
      cases hx with
      | ptr _ _ β' h =>
        obtain rfl := Option.some.inj (h.symm.trans hβ)
        rfl
  obtain ⟨μ, D0, rfl, hown, hperm, hsize⟩ := owns_keysH (P := P) (kt := kt) hkt hw hc hu hnd hsz (by unfold maxLen; omega)
  refine Calls.mono (hS β μ _ D0 w hlt (by simp [World.cell?, harr, hcell]) hown (by rw [hsize]; unfold maxLen; omega) (by rw [hsize]; omega)) fun e w' he => ?_
  obtain ⟨v, ss, rfl, hp, hrow, hnil, hbl⟩ := he
  have hpp := hp.trans hperm
  have hsort : ss.mergeSort leI = ns.mergeSort leI := mergeSort_of_perm_i hpp
  have hlen : ss.length = ns.length := hpp.length_eq
  rw [hsort, hlen] at hrow
  obtain ⟨G', h1, h2, h3⟩ := own_row (xs := (sortI ns).map fun s => .p (.int .i64 s)) hw hbl hrow (fun h0 => hnil.2 (List.eq_nil_of_length_eq_zero (by omega))) (by rw [List.length_map, sortI, List.length_mergeSort]) (fun i x hx => by
    rw [List.getElem?_map] at hx
    obtain ⟨_, _, rfl⟩ := Option.map_eq_some_iff.1 hx
    rfl) (fun i j c h => by
    rw [rowCell_one (by intro x hx; obtain ⟨z, _, rfl⟩ := List.mem_map.1 hx; rfl)] at h
    split at h
    · rename_i hj
      subst hj
      rw [List.getElem?_map] at h
      obtain ⟨z, hz, rfl⟩ := Option.map_eq_some_iff.1 h
      refine ⟨encZ z, ?_, rfl⟩
      rw [Nat.mul_one, Nat.add_zero, List.getElem?_map, show ns.mergeSort leI = sortI ns from rfl, hz]; rfl
    · cases h)
  exact ⟨_, G', _, h1, h2, h3, rfl, rfl⟩
/-! ### a call that turns memory, in a region that draws -/
theorem zl_acall {mu imp : List Nat} {l : List Oper} {K : List AV → ASt → Prop} {i : Nat} {old : List ASt} {pd : List Pend} {o : Oper} {rest : List Oper} {f : Operand} {aa : Array Operand} {ts : Array TypeId} (hz : zst mu imp o = true) (ho : o.op = .call { callee := .value f, args := aa, argTypes := ts }) (hg : o.guard = none)
    {F : FuncId} {first cap : List AV} (hf : acallee (aev fr f) = some (F, first, cap)) (hc : callable P F = true) {args : List AV} (ha : first ++ aa.toList.map (aev fr) ++ cap = args) {r : AV} {τ : ASt} (h : ACall P F args σ fun r' τ' => r' = r ∧ τ' = τ)
    (hk2 : pendOk P mu imp l (old.length + 1) τ pd ∧ Shut (ZRun P mu imp l K (i + 1) rest (aput fr o.dst r) τ (σ :: old) pd)) : ZS P mu imp l K i (o :: rest) fr σ old pd := by
  intro hok
  unfold ZL; rw [if_pos hz]
  refine ⟨_, _, yldT_opq hg fun ρ hρ => ?_, pendOk_yld hok hk2.1, zl_run hk2.2.out hok⟩
  have h1 : ρ f = aev fr f := hρ f (by rw [ho]; simp [Op.operands, Call.operands])
  have h2 : aa.toList.map ρ = aa.toList.map (aev fr) := List.map_congr_left fun x hx => hρ x (by rw [ho]; simp [Op.operands, Call.operands]; exact .inr (by simpa using hx))
  exact opq_call ho (by rw [h1]; exact hf) hc (by rw [h2, ha]; exact h)
end Go.AL
/-! An empty slice's value; clear of a slice; maps by whole numbers. -/
namespace Go.AL
open Go.RowKit (Below)
set_option linter.unusedVariables false
set_option linter.unusedSimpArgs false
variable {P : Program} {σ : ASt} {R : AV → ASt → Prop} {D : List Deferred} {Q : Exit → List AV → ASt → Prop} {fr : List AV} {ops : Array Oper} {o : Oper} {rest : List Oper} {ρ : Operand → AV}
/-- An empty slice is nil, or it is not. -/
theorem aw_vsl0 {c : Code} (i : Nat) (hi : fr[i]? = some (.vsl [])) (h : ∀ a cap, AW P D c Q (fr.set i (.p (.slice a 0 cap))) σ) : AW P D c Q fr σ := by
  intro r1 r2 G a w hs
  have hl : i < a.tmps.toList.length := by rw [← hs.tmps.1]; exact (List.getElem?_eq_some_iff.1 hi).1
  obtain ⟨v, hv⟩ : ∃ v, a.tmps.toList[i]? = some v := ⟨_, List.getElem?_eq_getElem hl⟩
  have hr := hs.tmps.2 i _ v hi hv
  have key : ∃ a0 cap, v = .slice a0 0 cap := by
    generalize hx : ([] : List AV) = xs at hr
    cases hr with
    | vnil a cap => exact ⟨_, _, rfl⟩
    | vsl _ β o s cap val hcap hs h hr => subst hx; exact ⟨_, _, rfl⟩
  obtain ⟨a0, cap, rfl⟩ := key
  refine h a0 cap r1 r2 G a w ⟨⟨by simpa using hs.tmps.1, fun j c u hc hu => ?_⟩, hs.defers, hs.w⟩
  rw [List.getElem?_set] at hc
  split at hc
  · rename_i e
    subst e
    split at hc
    · obtain rfl := Option.some.inj hc
      obtain rfl := Option.some.inj (hv.symm.trans hu)
      exact .p _
    · cases hc
  · exact hs.tmps.2 j c u hc hu
/-! ### maps by whole numbers -/
variable {α : Type}
def esK (f : α → AV) (M : List (Int × α)) : List (AV × AV) := M.map fun p => (.p (.int .i64 p.1), f p.2)
def ixK : List (Int × α) → Int → Nat → Option Nat
  | [], _, _ => none
  | (a, _) :: l, n, i => if a = n then some i else ixK l n (i + 1)
def gotK : List (Int × α) → Int → Option α
  | [], _ => none
  | (a, h) :: l, n => if a = n then some h else gotK l n
def putK (M : List (Int × α)) (n : Int) (x : α) : List (Int × α) := match ixK M n 0 with | none => M ++ [(n, x)] | some j => M.set j (n, x)
theorem esK_len (f : α → AV) (M : List (Int × α)) : (esK f M).length = M.length := List.length_map _
theorem ixK_spec (n : Int) : ∀ (l : List (Int × α)) (i : Nat), match ixK l n i with
    | none => gotK l n = none
    | some j => i ≤ j ∧ ∃ h, gotK l n = some h ∧ l[j - i]? = some (n, h)
  | [], i => rfl
  | (a, h) :: l, i => by
    have ih := ixK_spec n l (i + 1)
    rw [ixK, gotK]
    by_cases e : a = n
    · rw [if_pos e, if_pos e]
      exact ⟨Nat.le_refl _, h, rfl, by simp [e]⟩
    · rw [if_neg e, if_neg e]
      cases hq : ixK l n (i + 1) with
      | none => rw [hq] at ih; exact ih
      | some j =>
        rw [hq] at ih
        obtain ⟨h1, h', h2, h3⟩ := ih
        exact ⟨by omega, h', h2, by rw [show j - i = (j - (i + 1)) + 1 by omega]; exact h3⟩
theorem find_esK (f : α → AV) (d0 : α) (k : IntKind) (n : Int) : ∀ (M : List (Int × α)) (i : Nat), amfind (.int k) (.p (.int .i64 n)) (esK f M) i = some ((ixK M n i).map fun j => (j, f ((gotK M n).getD d0)))
  | [], i => rfl
  | (a, h) :: L, i => by
    have ih := find_esK f d0 k n L (i + 1)
    have e : esK f ((a, h) :: L) = (.p (.int .i64 a), f h) :: esK f L := rfl
    rw [e, amfind, ixK, gotK]
    by_cases hc : a = n
    · subst hc; simp [akey]
    · have hc' : ¬ n = a := fun e => hc e.symm
      simp [akey, hc, hc', ih]
theorem ixK_some (M : List (Int × α)) (n : Int) : (ixK M n 0).isSome = (gotK M n).isSome := by
  have := ixK_spec n M 0
  cases hq : ixK M n 0 with
  | none => rw [hq] at this; simp only at this; rw [this]; rfl
  | some j => rw [hq] at this; obtain ⟨_, v, hv, _⟩ := this; rw [hv]; rfl
theorem ixK_none {M : List (Int × α)} {n : Int} (h : ixK M n 0 = none) : gotK M n = none := by
  have := ixK_spec n M 0
  rw [h] at this; exact this
theorem put_esK (f : α → AV) (k : IntKind) (M : List (Int × α)) (n : Int) (x : α) : amput (.int k) (.p (.int .i64 n)) (f x) (esK f M) = some (esK f (putK M n x)) := by
  rw [amput, find_esK f x, putK]
  cases hq : ixK M n 0 with
  | none => simp [esK]
  | some j => simp [esK, List.map_set]
theorem isIt_esK (f : α → AV) (M : List (Int × α)) : isIt (esK f M) = false := by cases M <;> rfl
theorem gotK_put (M : List (Int × α)) (n m : Int) (x : α) : gotK (putK M n x) m = if n = m then some x else gotK M m := by
  unfold putK
  have key : ∀ (M : List (Int × α)) (i : Nat), gotK (match ixK M n i with | none => M ++ [(n, x)] | some j => M.set (j - i) (n, x)) m = if n = m then some x else gotK M m := by
    intro M
    induction M with
    | nil => intro i; simp [ixK, gotK]
    | cons p M ih =>
      obtain ⟨a, h⟩ := p
      intro i
      rw [ixK]
      by_cases e : a = n
      · subst e
        simp [gotK]
        split <;> rfl
      · rw [if_neg e]
        have ih := ih (i + 1)
        have hs := ixK_spec n M (i + 1)
        cases hq : ixK M n (i + 1) with
        | none =>
          rw [hq] at ih
          simp only [List.cons_append, gotK] at ih ⊢
          rw [ih]
          by_cases e2 : a = m
          · subst e2
            have : ¬ n = a := fun h => e h.symm
            simp [this]
          · simp [e2]
        | some j =>
          rw [hq] at ih hs
          simp only at ih hs ⊢
          rw [show j - i = (j - (i + 1)) + 1 by omega, List.set_cons_succ, gotK, ih, gotK]
          by_cases e2 : a = m
          · subst e2
            have : ¬ n = a := fun h => e h.symm
            simp [this]
          · simp [e2]
  exact key M 0
theorem keys_put (M : List (Int × α)) (n : Int) (x : α) : (putK M n x).map Prod.fst = if (gotK M n).isSome = true then M.map Prod.fst else M.map Prod.fst ++ [n] := by
  unfold putK
  have hs := ixK_spec n M 0
  cases hq : ixK M n 0 with
  | none => rw [hq] at hs; simp only at hs; simp [hs]
  | some j =>
    rw [hq] at hs
    obtain ⟨_, h, h1, h2⟩ := hs
    simp only [h1, Option.isSome_some, if_true, List.map_set]
    simp only [Nat.sub_zero] at h2
    refine List.ext_getElem? fun i => ?_
    rw [List.getElem?_set]
    split
    · rename_i e
      subst e
      split
      · rw [List.getElem?_map, h2]; rfl
      · rename_i e; rw [List.getElem?_eq_none (by omega)]
    · rfl
theorem gotK_mem {M : List (Int × α)} {n : Int} : (gotK M n).isSome = true ↔ n ∈ M.map Prod.fst := by
  induction M with
  | nil => simp [gotK]
  | cons p M ih =>
    obtain ⟨a, h⟩ := p
    rw [gotK]
    by_cases e : a = n
    · subst e; simp
    · have : ¬ n = a := fun h => e h.symm
      simp only [if_neg e, ih, List.map_cons, List.mem_cons, this, false_or]
theorem nodup_put {M : List (Int × α)} (h : (M.map Prod.fst).Nodup) (n : Int) (x : α) : ((putK M n x).map Prod.fst).Nodup := by
  rw [keys_put]
  split
  · exact h
  · rename_i hn
    have : n ∉ M.map Prod.fst := fun hm => hn (gotK_mem.2 hm)
    rw [List.nodup_append]
    refine ⟨h, by simp, ?_⟩
    intro a ha b hb
    simp at hb
    subst hb
    exact fun e => this (e ▸ ha)
end Go.AL
/-! clear of a slice of one's own. -/
namespace Go.AL
open Go.RowKit (Below)
set_option linter.unusedVariables false
set_option linter.unusedSimpArgs false
variable {P : Program} {σ : ASt} {R : AV → ASt → Prop} {D : List Deferred} {Q : Exit → List AV → ASt → Prop} {fr : List AV} {ops : Array Oper} {o : Oper} {rest : List Oper} {ρ : Operand → AV}
end Go.AL
/-! Maps of one's own, and append onto nil, in regions that draw. -/
namespace Go.AL
open Go.RowKit (Below)
set_option linter.unusedVariables false
set_option linter.unusedSimpArgs false
variable {P : Program} {σ : ASt} {R : AV → ASt → Prop} {D : List Deferred} {Q : Exit → List AV → ASt → Prop} {fr : List AV} {ops : Array Oper} {o : Oper} {rest : List Oper} {ρ : Operand → AV}
theorem opq_lookupQ {t : TypeId} {m k : Operand} {ok : Bool} (ho : o.op = .lookup t m k ok) {d : TypeDesc} {el : TypeId} (ht : tmap P t = some (d, el)) {b : Nat} (hm : ρ m = .map b) {es : List (AV × AV)} (hb : σ.mp b = some es)
    {kv : Value} (hk : ρ k = .p kv) {r : Option (Nat × AV)} (hf : amfind d (.p kv) es 0 = some r) {x : AV} (h1 : ∀ j y, r = some (j, y) → x = y) (h2 : r = none → tzero P el = some x) (hr : R (if ok = true then .tup [x, .p (.bool r.isSome)] else x) σ) : OpQ P o ρ σ R := by
  cases r with
  | none => exact opq_lookup ho ht hm hb hk hf (h2 rfl) hr
  | some q => obtain ⟨j, y⟩ := q; exact opq_lookup ho ht hm hb hk hf (h1 j y rfl) hr
theorem awl_lookupW {t : TypeId} {m k : Operand} {ok : Bool} (mu : List Nat) (ho : o.op = .lookup t m k ok) (hw : awanted ops o fr = some true) {d : TypeDesc} {el : TypeId} (ht : tmap P t = some (d, el)) {b : Nat} (hm : aev fr m = .map b) {es : List (AV × AV)} (hb : σ.mp b = some es)
    {kv : Value} (hk : aev fr k = .p kv) {r : Option (Nat × AV)} (hf : amfind d (.p kv) es 0 = some r) {x : AV} (h1 : ∀ j y, r = some (j, y) → x = y) (h2 : r = none → tzero P el = some x)
    (hk2 : Shut (ARun P D ops Q mu rest (aput fr o.dst (if ok = true then .tup [x, .p (.bool r.isSome)] else x)) σ)) : AWL P D ops Q (o :: rest) fr σ :=
  awl_cons hw (opq_lookupQ ho ht hm hb hk hf h1 h2 (awl_run' mu hk2))
theorem yl_lookup {K : List AV → Prop} {t : TypeId} {m k : Operand} {ok : Bool} (ho : o.op = .lookup t m k ok) (hg : o.guard = none) {d : TypeDesc} {el : TypeId} (ht : tmap P t = some (d, el)) {b : Nat} (hm : aev fr m = .map b) {es : List (AV × AV)} (hb : σ.mp b = some es) {kv : Value} (hk : aev fr k = .p kv)
    {r : Option (Nat × AV)} (hf : amfind d (.p kv) es 0 = some r) {x : AV} (h1 : ∀ j y, r = some (j, y) → x = y) (h2 : r = none → tzero P el = some x)
    (hk2 : Shut (YRun P ops σ K rest (aput fr o.dst (if ok = true then .tup [x, .p (.bool r.isSome)] else x)))) : YL P ops σ K (o :: rest) fr :=
  ⟨_, yld_opq hg fun ρ hρ => opq_lookupQ ho ht ((hρ m (by simp [ho, Op.operands])).trans hm) hb ((hρ k (by simp [ho, Op.operands])).trans hk) hf h1 h2 ⟨rfl, rfl⟩, yl_run hk2.out⟩
theorem zl_lookup {mu imp : List Nat} {l : List Oper} {K : List AV → ASt → Prop} {i : Nat} {pd : List Pend} {t : TypeId} {m k : Operand} {ok : Bool} (hz : zst mu imp o = false) (ho : o.op = .lookup t m k ok) (hg : o.guard = none) {d : TypeDesc} {el : TypeId} (ht : tmap P t = some (d, el)) {b : Nat} (hm : aev fr m = .map b) {es : List (AV × AV)} (hb : σ.mp b = some es) {kv : Value} (hk : aev fr k = .p kv)
    {r : Option (Nat × AV)} (hf : amfind d (.p kv) es 0 = some r) {x : AV} (h1 : ∀ j y, r = some (j, y) → x = y) (h2 : r = none → tzero P el = some x) {X : AV} (hX : X = if ok = true then .tup [x, .p (.bool r.isSome)] else x)
    (hk2 : Shut (ZRun P mu imp l K (i + 1) rest (aput fr o.dst X) σ [] (⟨i, o, fr, none, X⟩ :: pd))) : ZS P mu imp l K i (o :: rest) fr σ [] pd := by
  intro hok
  unfold ZL; rw [if_neg (by rw [hz]; decide)]
  subst hX
  refine ⟨_, .inr ⟨yld_opq hg fun ρ hρ => opq_lookupQ ho ht ((hρ m (by simp [ho, Op.operands])).trans hm) hb ((hρ k (by simp [ho, Op.operands])).trans hk) hf h1 h2 ⟨rfl, rfl⟩, fun j τ hj => by simp at hj, zl_run hk2.out fun p hp => ?_⟩⟩
  rcases List.mem_cons.1 hp with rfl | hp
  · exact hg
  · exact hok p hp
end Go.AL
/-! Passes by goto. -/
namespace Go.AL
set_option linter.unusedVariables false
set_option linter.unusedSimpArgs false
variable {P : Program} {σ : ASt} {D : List Deferred} {Q : Exit → List AV → ASt → Prop} {fr : List AV}
theorem jumpA_mono {l : Nat} {J J' : List AV → ASt → Prop} (h : ∀ fr σ, J fr σ → J' fr σ) (e : Exit) (fr : List AV) (σ : ASt) (hj : jumpA l J Q e fr σ) : jumpA l J' Q e fr σ := by
  cases e with
  | goto l' => exact ⟨hj.1, h _ _ hj.2⟩
  | _ => exact hj
/-- Behind a label, again and again, less each time. -/
theorem aw_scope_loop {c B : Code} (l : Nat) (ks : List Nat) (I : Nat → List AV → ASt → Prop) (hf : findLabel c l = some (.seq .skip B))
    (pass : ∀ n fr σ, I n fr σ → AW P D B (jumpA l (fun fr' σ' => ∃ m, m < n ∧ ∃ τ, ASt.Le τ σ' ∧ I m (keep ks 0 fr') τ) Q) fr σ)
    (first : (∀ n fr σ, (∃ τ, ASt.Le τ σ ∧ I n (keep ks 0 fr) τ) → AW P D B (jumpA l (fun fr' σ' => ∃ n, ∃ τ, ASt.Le τ σ' ∧ I n (keep ks 0 fr') τ) Q) fr σ) →
      AW P D c (jumpA l (fun fr' σ' => ∃ n, ∃ τ, ASt.Le τ σ' ∧ I n (keep ks 0 fr') τ) Q) fr σ) : AW P D (.scope c) Q fr σ := by
  have key : ∀ n fr σ, (∃ τ, ASt.Le τ σ ∧ I n (keep ks 0 fr) τ) → AW P D B (jumpA l (fun fr' σ' => ∃ m, m < n ∧ ∃ τ, ASt.Le τ σ' ∧ I m (keep ks 0 fr') τ) Q) fr σ :=
    fun n fr σ ⟨τ, hl, hI⟩ => aw_weak hl (aw_keep ks (pass n _ τ hI))
  refine aw_scope_jumps l (fun n fr σ => ∃ τ, ASt.Le τ σ ∧ I n (keep ks 0 fr) τ) hf (first fun n fr σ h => ?_) fun n fr σ h => aw_seq (aw_skip (key n fr σ h))
  exact AW.mono (jumpA_mono fun fr σ ⟨m, _, h⟩ => ⟨m, h⟩) (key n fr σ h)
end Go.AL
/-! Nil, taken as an empty slice of the function's own. -/
namespace Go.AL
open Go.RowKit (Below)
set_option linter.unusedVariables false
set_option linter.unusedSimpArgs false
variable {P : Program} {σ : ASt} {D : List Deferred} {Q : Exit → List AV → ASt → Prop} {fr : List AV}
theorem aw_nilH {c : Code} {i : Nat} (hi : fr[i]? = some (.p (.slice none 0 0))) (h : AW P D c Q (fr.set i (.hsl σ.next 0 0)) (σ.addSl [])) : AW P D c Q fr σ := by
  intro r iR G a w hs
  obtain ⟨G', h1, h2, h3⟩ := new_nil hs.w w (Below.refl _ _) none
  have hr := hs.tmps.mono h1
  refine wp_mono (h r iR G' a w ⟨⟨by simpa using hr.1, fun j c v hc hv => ?_⟩, hs.defers.mono h1, h2⟩) fun e a w h => lift_le h1 h
  rw [List.getElem?_set] at hc
  split at hc
  · rename_i e
    subst e
    split at hc
    · obtain rfl := Option.some.inj hc
      have := hr.2 i _ v hi hv
      cases this
      exact h3
    · cases hc
  · exact hr.2 j c v hc hv
end Go.AL
/-! make of a slice. -/
namespace Go.AL
open Go.RowKit (Below)
set_option linter.unusedVariables false
set_option linter.unusedSimpArgs false
variable {P : Program} {σ : ASt} {R : AV → ASt → Prop} {D : List Deferred} {Q : Exit → List AV → ASt → Prop} {fr : List AV} {ops : Array Oper} {o : Oper} {rest : List Oper}
end Go.AL
/-! arena: what nodes have in one text, plainly. -/
namespace Go.AL
open Go.Proofs
set_option linter.unusedSimpArgs false
set_option linter.unusedVariables false
def dval (l : List UInt8) : Nat := l.foldl (fun a c => 10 * a + (c.toNat - 48)) 0
theorem dval_app (l : List UInt8) (c : UInt8) : dval (l ++ [c]) = 10 * dval l + (c.toNat - 48) := by simp [dval]
theorem ofNat48 {d : Nat} (h : d < 10) : (UInt8.ofNat (48 + d)).toNat = 48 + d := by
  rw [UInt8.toNat_ofNat']; omega
theorem dec_dval (u : Nat) : dval (Lib.decDigits u) = u := by
  induction u using Nat.strongRecOn with
  | ind u ih =>
    rw [Lib.decDigits]
    split
    · rename_i h
      have := ofNat48 h
      simp only [dval, List.foldl_cons, List.foldl_nil, this]
      omega
    · rename_i h
      rw [dval_app, ih (u / 10) (by omega), ofNat48 (Nat.mod_lt _ (by decide))]
      omega
theorem dec_digit (u : Nat) : ∀ c ∈ Lib.decDigits u, 48 ≤ c.toNat ∧ c.toNat ≤ 57 := by
  induction u using Nat.strongRecOn with
  | ind u ih =>
    rw [Lib.decDigits]
    split
    · rename_i h
      intro c hc
      obtain rfl := List.mem_singleton.1 hc
      rw [ofNat48 h]; omega
    · rename_i h
      intro c hc
      rcases List.mem_append.1 hc with hc | hc
      · exact ih (u / 10) (by omega) c hc
      · obtain rfl := List.mem_singleton.1 hc
        rw [ofNat48 (Nat.mod_lt _ (by decide))]
        have := Nat.mod_lt u (y := 10) (by decide)
        omega
theorem itoa_noSp (n : Int) : ∀ c ∈ Lib.itoa n, c ≠ 32 := by
  intro c hc
  unfold Lib.itoa at hc
  have key : ∀ u, c ∈ Lib.decDigits u → c ≠ 32 := fun u h e => by
    subst e
    have := (dec_digit u _ h).1
    revert this; decide
  split at hc
  · rcases List.mem_cons.1 hc with rfl | hc
    · decide
    · exact key _ hc
  · exact key _ hc
theorem itoa_inj {a b : Int} (h : Lib.itoa a = Lib.itoa b) : a = b := by
  unfold Lib.itoa at h
  have hd : ∀ (u : Nat) (l : List UInt8), Lib.decDigits u ≠ 45 :: l := fun u l e => by
    have := (dec_digit u 45 (by rw [e]; simp)).1
    revert this; decide
  split at h
  · split at h
    · have := congrArg dval (List.cons.inj h).2
      rw [dec_dval, dec_dval] at this
      omega
    · exact (hd _ _ h.symm).elim
  · split at h
    · exact (hd _ _ h).elim
    · have := congrArg dval h
      rw [dec_dval, dec_dval] at this
      omega
theorem sp_inj : ∀ {a b x y : List UInt8}, (∀ c ∈ a, c ≠ 32) → (∀ c ∈ b, c ≠ 32) → a ++ 32 :: x = b ++ 32 :: y → a = b ∧ x = y
  | [], [], x, y, _, _, h => ⟨rfl, (List.cons.inj h).2⟩
  | [], c :: b, x, y, _, hb, h => by
    have := (List.cons.inj h).1
    exact (hb c (by simp) this.symm).elim
  | c :: a, [], x, y, ha, _, h => by
    have := (List.cons.inj h).1
    exact (ha c (by simp) this).elim
  | c :: a, d :: b, x, y, ha, hb, h => by
    obtain ⟨h1, h2⟩ := List.cons.inj h
    obtain ⟨h3, h4⟩ := sp_inj (fun c hc => ha c (List.mem_cons_of_mem _ hc)) (fun c hc => hb c (List.mem_cons_of_mem _ hc)) h2
    exact ⟨by rw [h1, h3], h4⟩
/-- Numbers, each with a blank behind. -/
def flatI (l : List Int) : List UInt8 := l.flatMap fun n => Lib.itoa n ++ [32]
theorem flatI_inj : ∀ {l l' : List Int} {t t' : List UInt8}, l.length = l'.length → flatI l ++ t = flatI l' ++ t' → l = l' ∧ t = t'
  | [], [], t, t', _, h => ⟨rfl, h⟩
  | a :: l, b :: l', t, t', hl, h => by
    have e : ∀ (a : Int) (l : List Int) (t : List UInt8), flatI (a :: l) ++ t = Lib.itoa a ++ 32 :: (flatI l ++ t) := fun a l t => by simp [flatI]
    rw [e, e] at h
    obtain ⟨h1, h2⟩ := sp_inj (itoa_noSp a) (itoa_noSp b) h
    obtain ⟨h3, h4⟩ := flatI_inj (by simpa using hl) h2
    exact ⟨by rw [itoa_inj h1, h3], h4⟩
  | [], _ :: _, _, _, hl, _ => by cases hl
  | _ :: _, [], _, _, hl, _ => by cases hl
/-- A node: kind, refs, nums, text. -/
structure Nd where
  k : Int
  refs : List Int
  nums : List Int
  text : ByteArray
deriving DecidableEq
def nmInts (x : Nd) : List Int := x.k :: (x.refs.length : Int) :: (x.nums.length : Int) :: (x.refs ++ x.nums)
def nmL (x : Nd) : List UInt8 := flatI (nmInts x) ++ x.text.data.toList
/-- The name of a node. -/
def nmB (x : Nd) : ByteArray := ⟨(nmL x).toArray⟩
theorem nmB_inj {x y : Nd} (h : nmB x = nmB y) : x = y := by
  have h : nmL x = nmL y := by
    have := congrArg (fun b : ByteArray => b.data.toList) h
    simpa [nmB] using this
  have e : ∀ x : Nd, nmL x = flatI [x.k, (x.refs.length : Int), (x.nums.length : Int)] ++ (flatI (x.refs ++ x.nums) ++ x.text.data.toList) := fun x => by simp [nmL, nmInts, flatI]
  rw [e, e] at h
  obtain ⟨h1, h2⟩ := flatI_inj (l := [x.k, (x.refs.length : Int), (x.nums.length : Int)]) (l' := [y.k, (y.refs.length : Int), (y.nums.length : Int)]) rfl h
  simp only [List.cons.injEq, and_true] at h1
  obtain ⟨hk, hr, hn⟩ := h1
  obtain ⟨h3, h4⟩ := flatI_inj (by simp; omega) h2
  obtain ⟨h5, h6⟩ := List.append_inj h3 (by omega)
  obtain ⟨k, r, n, t⟩ := x
  obtain ⟨k', r', n', t'⟩ := y
  simp only at hk h5 h6 h4
  subst hk h5 h6
  have : t = t' := by
    cases t; cases t'
    congr 1
    exact Array.toList_inj.1 h4
  rw [this]
end Go.AL
/-! Methods on a variable that holds a number, two maps, and a number. -/
namespace Go.AL
set_option linter.unusedVariables false
set_option linter.unusedSimpArgs false
variable {P : Program} {σ : ASt} {R : AV → ASt → Prop} {D : List Deferred} {Q : Exit → List AV → ASt → Prop} {fr : List AV} {ops : Array Oper} {o : Oper} {rest : List Oper}
/-- The variable number 0, with the maps number 1 and 2. -/
def arS (a : Int) (es fs : List (AV × AV)) (c : Int) : ASt := ⟨fun i => if i = 0 then some [.p (.int .i64 a), .map 1, .map 2, .p (.int .i64 c)] else none, fun i => if i = 1 then some es else if i = 2 then some fs else none, fun _ => none, 3⟩
section
variable (a : Int) (es fs : List (AV × AV)) (c : Int) (i : Nat)
@[simp] theorem arS_bx : (arS a es fs c).bx i = if i = 0 then some [.p (.int .i64 a), .map 1, .map 2, .p (.int .i64 c)] else none := rfl
@[simp] theorem arS_mp : (arS a es fs c).mp i = if i = 1 then some es else if i = 2 then some fs else none := rfl
@[simp] theorem arS_sl : (arS a es fs c).sl i = none := rfl
@[simp] theorem arS_next : (arS a es fs c).next = 3 := rfl
end
/-- By its address it hands back r, and leaves es', fs', c'. -/
def AC (P : Program) (f : FuncId) (args : List AV) (a : Int) (es fs : List (AV × AV)) (c : Int) (r : AV) (es' fs' : List (AV × AV)) (c' : Int) : Prop :=
  ACall P f (.ptr 0 0 :: args) (arS a es fs c) fun r' σ' => r' = r ∧ σ'.bx 0 = some [.p (.int .i64 a), .map 1, .map 2, .p (.int .i64 c')] ∧ σ'.mp 1 = some es' ∧ σ'.mp 2 = some fs'
def clM (es : List (AV × AV)) : Prop := ∀ p ∈ es, Cl p.1 ∧ Cl p.2
theorem renM {es : List (AV × AV)} (h : clM es) (ρ : Nat → Nat) : es.map (renE ρ) = es := by
  conv => rhs; rw [← List.map_id es]
  exact List.map_congr_left fun p hp => by rw [renE, ren_closed _ (h p hp).1, ren_closed _ (h p hp).2]; rfl
def ASt.ar (σ : ASt) (b m1 m2 : Nat) (a : Int) (es fs : List (AV × AV)) (c : Int) : ASt :=
  { σ with bx := upd σ.bx b (some [.p (.int .i64 a), .map m1, .map m2, .p (.int .i64 c)]), mp := upd (upd σ.mp m1 (some es)) m2 (some fs) }
/-- It lies there. -/
structure ArAt (σ : ASt) (b m1 m2 : Nat) (a : Int) (es fs : List (AV × AV)) (c : Int) : Prop where
  bx : σ.bx b = some [.p (.int .i64 a), .map m1, .map m2, .p (.int .i64 c)]
  p1 : σ.mp m1 = some es
  p2 : σ.mp m2 = some fs
  n1 : b ≠ m1
  n2 : b ≠ m2
  n3 : m1 ≠ m2
  zb : σ.mp b = none ∧ σ.sl b = none
  z1 : σ.bx m1 = none ∧ σ.sl m1 = none
  z2 : σ.bx m2 = none ∧ σ.sl m2 = none
theorem AC.call {f : FuncId} {args : List AV} {a : Int} {es fs es' fs' : List (AV × AV)} {c c' : Int} {r : AV} {b m1 m2 : Nat} (h : AC P f args a es fs c r es' fs' c') (ha : ∀ a ∈ args, Cl a) (hr : Cl r) (hes : clM es) (hfs : clM fs) (hes' : clM es') (hfs' : clM fs') (at_ : ArAt σ b m1 m2 a es fs c) :
    ACall P f (.ptr b 0 :: args) σ fun r' σ' => r' = r ∧ σ' = σ.ar b m1 m2 a es' fs' c' := by
  obtain ⟨hb, hm1, hm2, n1, n2, n3, ⟨zb1, zb2⟩, ⟨z11, z12⟩, ⟨z21, z22⟩⟩ := at_
  refine acall_ok fun hok => ?_
  have hbn : b < σ.next := by
    rcases Nat.lt_or_ge b σ.next with h' | h'
    · exact h'
    · rw [hok.bx b h'] at hb; cases hb
  have hm1n : m1 < σ.next := by
    rcases Nat.lt_or_ge m1 σ.next with h' | h'
    · exact h'
    · rw [hok.mp m1 h'] at hm1; cases hm1
  have hm2n : m2 < σ.next := by
    rcases Nat.lt_or_ge m2 σ.next with h' | h'
    · exact h'
    · rw [hok.mp m2 h'] at hm2; cases hm2
  obtain ⟨ρ, hρ⟩ : ∃ ρ, ρ = ridx [b, m1, m2] σ.next := ⟨_, rfl⟩
  have r0 : ρ 0 = b := by rw [hρ]; rfl
  have r1 : ρ 1 = m1 := by rw [hρ]; rfl
  have r2 : ρ 2 = m2 := by rw [hρ]; rfl
  have h0 : ACall P f (.ptr 0 0 :: args) (arS a es fs c) fun r' σ' => r' = r ∧ σ'.bx = (arS a es' fs' c').bx ∧ σ'.mp = (arS a es' fs' c').mp ∧ σ'.sl = (arS a es' fs' c').sl :=
    ACall.low h fun r' τ ⟨e1, e2, e3, e4⟩ => ⟨⟨(arS a es' fs' c').bx, (arS a es' fs' c').mp, (arS a es' fs' c').sl, τ.next⟩, {
      bx := fun i cs e => by
        simp only [arS_bx] at e
        split at e
        · rename_i hi; subst hi; rw [e2]; exact e
        · cases e
      mp := fun i cs e => by
        simp only [arS_mp] at e
        split at e
        · rename_i hi; subst hi; rw [e3]; exact e
        · split at e
          · rename_i hi; subst hi; rw [e4]; exact e
          · cases e
      sl := fun _ _ e => by cases e
      next := Nat.le_refl _ }, e1, rfl, rfl, rfl⟩
  have h1 := ACall.frame1 (σ := σ) [b, m1, m2] (h := h0) rfl ⟨fun i hi => by
      have : ¬ i = 0 := by have : 3 ≤ i := hi; omega
      simp [this], fun i hi => by
      have h1 : ¬ i = 1 := by have : 3 ≤ i := hi; omega
      have h2 : ¬ i = 2 := by have : 3 ≤ i := hi; omega
      simp [h1, h2], fun _ _ => rfl⟩ (by intro x hx; simp at hx; rcases hx with rfl | rfl | rfl <;> assumption) (by simp [n1, n2, n3]) (fun i cs e => by
      simp only [arS_bx] at e
      split at e
      · rename_i hi; subst hi
        obtain rfl := Option.some.inj e
        rw [← hρ]; simp [rens, ren, r0, r1, r2, hb]
      · cases e) (fun i xs e => by
      simp only [arS_mp] at e
      split at e
      · rename_i hi; subst hi
        obtain rfl := Option.some.inj e
        rw [← hρ, r1, hm1, renM hes]
      · split at e
        · rename_i hi; subst hi
          obtain rfl := Option.some.inj e
          rw [← hρ, r2, hm2, renM hfs]
        · cases e) (fun i xs e => by cases e) (fun r' τ ⟨e1, e2, e3, e4⟩ => by
      subst e1
      refine ⟨.of_cl hr, fun i cs e hi c hc => ?_, fun i es e hi p hp => ?_, fun i xs e hi => by rw [e4] at e; cases e⟩
      · rw [e2] at e
        simp only [arS_bx] at e
        split at e
        · obtain rfl := Option.some.inj e
          simp only [List.mem_cons, List.not_mem_nil, or_false] at hc
          intro π hπ
          rcases hc with rfl | rfl | rfl | rfl
          · rfl
          · simp only [ren]; rw [hπ 1 (by simp)]
          · simp only [ren]; rw [hπ 2 (by simp)]
          · rfl
        · cases e
      · rw [e3] at e
        simp only [arS_mp] at e
        split at e
        · obtain rfl := Option.some.inj e
          exact ⟨.of_cl (hes' p hp).1, .of_cl (hes' p hp).2⟩
        · split at e
          · obtain rfl := Option.some.inj e
            exact ⟨.of_cl (hfs' p hp).1, .of_cl (hfs' p hp).2⟩
          · cases e)
  rw [← hρ] at h1
  have ea : rens ρ (.ptr 0 0 :: args) = .ptr b 0 :: args := by
    simp only [rens, ren, r0]
    rw [rens_cl ha]
  rw [ea] at h1
  refine h1.mono fun r' σ' ⟨rc, τ, ⟨e1, e2, e3, e4⟩, e5, e6⟩ => ?_
  subst e1
  refine ⟨by rw [e5, ren_closed _ hr], ?_⟩
  rw [e6]
  unfold back1 ASt.ar
  have n1' : ¬ m1 = b := fun e => n1 e.symm
  have n2' : ¬ m2 = b := fun e => n2 e.symm
  have n3' : ¬ m2 = m1 := fun e => n3 e.symm
  have f0 : ∀ x, rfind x [b, m1, m2] 0 = if x = b then some 0 else if x = m1 then some 1 else if x = m2 then some 2 else none := fun x => by
    simp only [rfind]
  rw [← hρ]
  congr 1
  · funext x
    rw [f0, e2]
    by_cases q1 : x = b
    · subst q1; simp [rens, ren, r1, r2, upd]
    · by_cases q2 : x = m1
      · subst q2; simp [n1', z11, upd]
      · by_cases q3 : x = m2
        · subst q3; simp [n2', n3', z21, upd]
        · simp [q1, q2, q3, upd]
  · funext x
    rw [f0, e3]
    by_cases q1 : x = b
    · subst q1; simp [upd, n1, n2, zb1]
    · by_cases q2 : x = m1
      · subst q2; simp [n1', n3, upd, renM hes']
      · by_cases q3 : x = m2
        · subst q3; simp [n2', n3', upd, renM hfs']
        · simp [q1, q2, q3, upd]
  · funext x
    rw [f0, e4]
    by_cases q1 : x = b
    · subst q1; simp [zb2]
    · by_cases q2 : x = m1
      · subst q2; simp [n1', z12]
      · by_cases q3 : x = m2
        · subst q3; simp [n2', n3', z22]
        · simp [q1, q2, q3]
/-- Such a call, next in a run. -/
theorem awl_ar {f : Operand} {aa : Array Operand} {ts : Array TypeId} (mu : List Nat) (ho : o.op = .call { callee := .value f, args := aa, argTypes := ts }) (hw : awanted ops o fr = some true)
    {F : FuncId} {first cap : List AV} (hf : acallee (aev fr f) = some (F, first, cap)) (hc : callable P F = true) {args : List AV} {a : Int} {es fs es' fs' : List (AV × AV)} {c c' : Int} {r : AV} {b m1 m2 : Nat} (h : AC P F args a es fs c r es' fs' c') (he : first ++ aa.toList.map (aev fr) ++ cap = .ptr b 0 :: args)
    (ha : ∀ a ∈ args, Cl a) (hr : Cl r) (hes : clM es) (hfs : clM fs) (hes' : clM es') (hfs' : clM fs') (at_ : ArAt σ b m1 m2 a es fs c)
    (hk : Shut (ARun P D ops Q mu rest (aput fr o.dst r) (σ.ar b m1 m2 a es' fs' c'))) : AWL P D ops Q (o :: rest) fr σ :=
  awl_cons hw (opq_call ho hf hc (by rw [he]; exact (h.call ha hr hes hfs hes' hfs' at_).mono fun r' τ' ⟨e1, e2⟩ => by subst e1; subst e2; exact awl_run' mu hk))
theorem ac_in {f : FuncId} {fn : Func} {cd : Code} {n : Nat} {args : List AV} {a : Int} {es fs es' fs' : List (AV × AV)} {c c' : Int} {r : AV} {K : Prop} (hf : P.funcs[f]? = some fn) (hn : fn.ntmps = n) (hb : fn.body = some cd) (k : K)
    (h : K → AW P [] cd (RetQ P fn fun r' σ' => r' = r ∧ σ'.bx 0 = some [.p (.int .i64 a), .map 1, .map 2, .p (.int .i64 c')] ∧ σ'.mp 1 = some es' ∧ σ'.mp 2 = some fs') ((.ptr 0 0 :: args) ++ List.replicate (n - (.ptr 0 0 :: args : List AV).length) (.p undef)) (arS a es fs c) := by intro k; simp only [List.length_cons, List.length_nil, List.cons_append, List.nil_append, List.replicate]; exact k) : AC P f args a es fs c r es' fs' c' :=
  acall_of hf hn hb (h k)
end Go.AL
