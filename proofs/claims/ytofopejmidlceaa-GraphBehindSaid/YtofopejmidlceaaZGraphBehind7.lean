/- Parts of the proof of GraphBehind: the logic, contracts, plain laws. -/
import Derived.Test.YtofopejmidlceaaZGraphBehind6
import Derived.Deep.Slices
/-! Maps. -/
namespace Go.AL
open Go.RowKit (Below)
set_option linter.unusedVariables false
set_option linter.unusedSimpArgs false
variable {P : Program} {σ : ASt} {R : AV → ASt → Prop} {o : Oper} {ρ : Operand → AV} {D : List Deferred} {Q : Exit → List AV → ASt → Prop} {fr : List AV} {ops : Array Oper}
/-- A key's kind, and the elements' type. -/
def tmap (P : Program) (t : TypeId) : Option (TypeDesc × TypeId) :=
  match P.underlying t with
  | some (.map k e) => match P.underlying k with
    | some .string => some (.string, e)
    | some .bool => some (.bool, e)
    | some (.int ik) => some (.int ik, e)
    | _ => none
  | _ => none
def keyD : TypeDesc → Bool
  | .string | .bool | .int _ => true
  | _ => false
theorem tmap_spec {t : TypeId} {d : TypeDesc} {el : TypeId} (h : tmap P t = some (d, el)) : ∃ k, P.underlying t = some (.map k el) ∧ P.underlying k = some d ∧ keyD d = true := by
  unfold tmap at h
  split at h
  · rename_i k e hk
    split at h
    · rename_i hd; simp only [Option.some.injEq, Prod.mk.injEq] at h; obtain ⟨rfl, rfl⟩ := h; exact ⟨k, hk, hd, rfl⟩
    · rename_i hd; simp only [Option.some.injEq, Prod.mk.injEq] at h; obtain ⟨rfl, rfl⟩ := h; exact ⟨k, hk, hd, rfl⟩
    · rename_i ik hd; simp only [Option.some.injEq, Prod.mk.injEq] at h; obtain ⟨rfl, rfl⟩ := h; exact ⟨k, hk, hd, rfl⟩
    · cases h
  · cases h
theorem run_checkKey {k : TypeId} {d : TypeDesc} (hk : P.underlying k = some d) (hd : keyD d = true) (b : Bool) (n : Nat) (v : Value) (w : World) : (Instr.checkKey b (n + 1) k v).run P w = .ok () w := by
  unfold Instr.checkKey
  rw [Sem.run_bind, run_underlying' hk, Result.andThen_ok]
  cases d <;> first | (cases v <;> rfl) | cases hd
/-- Are two keys one? -/
def akey (d : TypeDesc) (a b : AV) : Option Bool :=
  match d, a, b with
  | .int _, .p (.int k a), .p (.int k' b) => if k = k' then some (decide (a = b)) else none
  | .string, .p (.string a), .p (.string b) => some (decide (a = b))
  | .bool, .p (.bool a), .p (.bool b) => some (decide (a = b))
  | _, _, _ => none
theorem beq_bytes (a b : ByteArray) : (a == b) = decide (a = b) := by
  obtain ⟨x⟩ := a
  obtain ⟨y⟩ := b
  show (x == y) = _
  rw [Bool.eq_iff_iff]
  simp
theorem akey_spec {d : TypeDesc} {x : Value} {k : AV} {b : Bool} (h : akey d (.p x) k = some b) : ∃ y, k = .p y ∧ Instr.sameNow d x y = some b ∧ (b = true → x = y) := by
  unfold akey at h
  split at h
  · rename_i hx; cases hx
    split at h
    · rename_i hk; subst hk
      obtain rfl := Option.some.inj h
      exact ⟨_, rfl, by simp [Instr.sameNow]; rfl, fun hh => by rw [of_decide_eq_true hh]⟩
    · cases h
  · rename_i hx; cases hx
    obtain rfl := Option.some.inj h
    exact ⟨_, rfl, by simp [Instr.sameNow, beq_bytes], fun hh => by rw [of_decide_eq_true hh]⟩
  · rename_i hx; cases hx
    obtain rfl := Option.some.inj h
    exact ⟨_, rfl, by simp [Instr.sameNow]; rfl, fun hh => by rw [of_decide_eq_true hh]⟩
  · cases h
def amfind (d : TypeDesc) (k : AV) : List (AV × AV) → Nat → Option (Option (Nat × AV))
  | [], _ => some none
  | e :: es, i =>
    match akey d k e.1 with
    | some true => some (some (i, e.2))
    | some false => amfind d k es (i + 1)
    | none => none
theorem findNow_spec {G : Ghost} {w : World} {d : TypeDesc} {kv : Value} : ∀ (es : List (AV × AV)) (ents : List MapEntry) (i : Nat) (r : Option (Nat × AV)), es.length = ents.length →
    (∀ (n : Nat) k x (e : MapEntry), es[n]? = some (k, x) → ents[n]? = some e → Rep G w k e.key ∧ Rep G w x e.val) → amfind d (.p kv) es i = some r →
    match r with
    | none => Instr.findNow d kv ents i = some none
    | some (j, x) => ∃ e, i ≤ j ∧ ents[j - i]? = some e ∧ Rep G w x e.val ∧ Instr.findNow d kv ents i = some (some (j, e.val))
  | [], [], i, r, _, _, h => by
    obtain rfl := Option.some.inj h
    rfl
  | (k, x) :: es, e :: ents, i, r, hl, hr, h => by
    obtain ⟨h1, h2⟩ := hr 0 k x e rfl rfl
    have hk : ∀ b, akey d (.p kv) k = some b → Instr.sameNow d kv e.key = some b := by
      intro b hb
      obtain ⟨y, rfl, hs, _⟩ := akey_spec hb
      cases h1
      exact hs
    unfold amfind at h
    simp only at h
    cases hq : akey d (.p kv) k with
    | none => rw [hq] at h; cases h
    | some b =>
      rw [hq] at h
      have hb := hk b hq
      cases b with
      | true =>
        obtain rfl := Option.some.inj h
        refine ⟨e, Nat.le_refl _, by simp, h2, ?_⟩
        unfold Instr.findNow
        rw [hb]
      | false =>
        have ih := findNow_spec es ents (i + 1) r (by simpa using hl) (fun n k x e a b => hr (n + 1) k x e a b) h
        cases r with
        | none =>
          show Instr.findNow d kv (e :: ents) i = some none
          unfold Instr.findNow
          rw [hb]
          exact ih
        | some jx =>
          obtain ⟨j, y⟩ := jx
          obtain ⟨e', hij, he, hre, hf⟩ := ih
          refine ⟨e', by omega, ?_, hre, ?_⟩
          · rw [show j - i = (j - (i + 1)) + 1 by omega]; exact he
          · unfold Instr.findNow
            rw [hb]
            exact hf
theorem run_findKey {k : TypeId} {d : TypeDesc} (hk : P.underlying k = some d) {kv : Value} {ents : List MapEntry} {r : Option (Nat × Value)} (h : Instr.findNow d kv ents 0 = some r) (w : World) : (Instr.findKey k kv ents).run P w = .ok r w := by
  simp [Instr.findKey, run_underlying' hk, h]
theorem opq_makeMap {t : TypeId} (ho : o.op = .makeMap t none) (hr : R (.map σ.next) (σ.addMp [])) : OpQ P o ρ σ R := by
  intro G e w he hw
  have hb := below_alloc' w (.map #[] 0)
  have run : (execOp e o).run P w = .ok (.value (.map (some w.heap.size))) (w.alloc (.map #[] 0)) := by
    simp only [execOp, ho, Instr.makeMap, Option.map_none]
    rfl
  rw [run]
  exact ⟨_, _, _, Le.addMp hw hb w.heap.size, hw.addMp hb (Nat.le_refl _) (fun _ => .inl ⟨w.heap.size, #[], 0, upd_same _ _ _, heap_alloc_new w _, rfl, by simp, by simp⟩), .map _ _ (upd_same _ _ _), hr⟩
theorem mp_map {G : Ghost} {w : World} {b : Nat} {es : List (AV × AV)} {d : TypeDesc} {kv : Value} {r : Option (Nat × AV)} (h : MpOK G w b es) (hf : amfind d (.p kv) es 0 = some r) :
    ∃ μ ents clock, G.mp b = some μ ∧ w.heap[μ]? = some (.map ents clock) ∧ ents.size = es.length ∧
    (∀ (i : Nat) k x (e : MapEntry), es[i]? = some (k, x) → ents[i]? = some e → Rep G w k e.key ∧ Rep G w x e.val ∧ e.born < clock) ∧ (∀ (i j : Nat) (e e' : MapEntry), ents[i]? = some e → ents[j]? = some e' → e.born = e'.born → i = j) := by
  rcases h with h | ⟨μ, ob, ofr, _, _, _, rfl⟩
  · exact h
  · unfold obE amfind at hf
    have : akey d (.p kv) noV = none := by unfold akey; cases d <;> cases kv <;> rfl
    simp only [this] at hf
    cases hf
theorem run_setObj {w : World} {r : Nat} {es : Array MapEntry} {c : Nat} {o' : Obj} (h : w.heap[r]? = some (.map es c)) : ∃ w', (setObj r o').run P w = .ok () w' ∧ Touch w w' r ∧ w'.heap[r]? = some o' := by
  refine ⟨{ w with heap := w.heap.set! r o' }, ?_, ⟨rfl, rfl, rfl, by simp, fun k hk => ?_⟩, ?_⟩
  · simp [setObj, Sem.run, h]
  · simp [Array.getElem?_setIfInBounds_ne (fun e => hk e.symm)]
  · obtain ⟨hr, _⟩ := Array.getElem?_eq_some_iff.1 h
    simp [hr]
theorem opq_lookup {t : TypeId} {m k : Operand} {ok : Bool} (ho : o.op = .lookup t m k ok) {d : TypeDesc} {el : TypeId} (ht : tmap P t = some (d, el)) {b : Nat} (hm : ρ m = .map b) {es : List (AV × AV)} (hb : σ.mp b = some es) {kv : Value} (hk : ρ k = .p kv)
    {r : Option (Nat × AV)} (hf : amfind d (.p kv) es 0 = some r) {x : AV} (hx : match r with | some (_, y) => x = y | none => tzero P el = some x) (hr : R (if ok = true then .tup [x, .p (.bool r.isSome)] else x) σ) : OpQ P o ρ σ R := by
  obtain ⟨kt, u1, u2, u3⟩ := tmap_spec ht
  intro G e w he hw
  have hm' := he m
  rw [hm] at hm'
  have hk' := he k
  rw [hk] at hk'
  obtain ⟨μ, ents, clock, g1, g2, g3, g4, g5⟩ := mp_map (hw.mp b es hb) hf
  generalize hem : e m = vm at hm'
  generalize hek : e k = vk at hk'
  cases hk'
  obtain ⟨μ', rfl, g⟩ : ∃ μ', vm = .map (some μ') ∧ G.mp b = some μ' := by cases hm'; exact ⟨_, rfl, by assumption⟩
  obtain rfl := Option.some.inj (g.symm.trans g1)
  have hf := findNow_spec (G := G) (w := w) es ents.toList 0 r (by simp [g3]) (fun n k x e a c => by
    have := g4 n k x e a (by simpa using c)
    exact ⟨this.1, this.2.1⟩) hf
  have key : ∃ v, (execOp e o).run P w = .ok (.value (if ok = true then .tuple #[v, .bool r.isSome] else v)) w ∧ Rep G w x v := by
    cases r with
    | none =>
      obtain ⟨i, v, hi, hv, rfl⟩ := tzero_spec hx
      refine ⟨v, ?_, rep_ofV G w v⟩
      simp [execOp, ho, Instr.lookup, run_underlying' u1, hem, hek, run_getObj_map g2, run_checkKey u2 u3, run_findKey u2 hf, run_zeroValue' hi hv]
    | some jy =>
      obtain ⟨j, y⟩ := jy
      obtain ⟨e', _, he', hre, hf⟩ := hf
      have hx' : x = y := hx
      refine ⟨e'.val, ?_, by rw [hx']; exact hre⟩
      simp [execOp, ho, Instr.lookup, run_underlying' u1, hem, hek, run_getObj_map g2, run_checkKey u2 u3, run_findKey u2 hf]
  obtain ⟨v, run, hrep⟩ := key
  rw [run]
  refine ⟨_, G, σ, Le.refl _ _, hw, ?_, hr⟩
  cases ok with
  | false => exact hrep
  | true =>
    refine .tup _ _ rfl fun i c u a c' => ?_
    match i, a, c' with
    | 0, a, c' => cases a; cases c'; exact hrep
    | 1, a, c' => cases a; cases c'; exact .p _
theorem keyStays {d : TypeDesc} {x : Value} (hd : ∃ b, Instr.sameNow d x x = some b) (w : World) : (Instr.keyThatStays x x).run P w = .ok x w := by
  have : Instr.sameBits 10000 x x = true := by
    obtain ⟨b, h⟩ := hd
    unfold Instr.sameNow at h
    split at h
    · simp [Instr.sameBits]
    · simp [Instr.sameBits, beq_bytes]
    · simp [Instr.sameBits]
    · cases h
  simp [Instr.keyThatStays, this]
/-- A key's value put, new or in place. -/
def amput (d : TypeDesc) (k x : AV) (es : List (AV × AV)) : Option (List (AV × AV)) :=
  (amfind d k es 0).map fun r => match r with
    | none => es ++ [(k, x)]
    | some (j, _) => es.set j (k, x)
theorem amfind_key {d : TypeDesc} {kv : Value} : ∀ (es : List (AV × AV)) (i j : Nat) (x : AV), amfind d (.p kv) es i = some (some (j, x)) → i ≤ j ∧ es[j - i]? = some (.p kv, x) ∧ Instr.sameNow d kv kv = some true
  | [], i, j, x, h => by cases h
  | (k, x0) :: es, i, j, x, h => by
    unfold amfind at h
    simp only at h
    cases hq : akey d (.p kv) k with
    | none => rw [hq] at h; cases h
    | some b =>
      rw [hq] at h
      cases b with
      | true =>
        simp only [Option.some.injEq, Prod.mk.injEq] at h
        obtain ⟨rfl, rfl⟩ := h
        obtain ⟨y, rfl, hs, he⟩ := akey_spec hq
        obtain rfl := he rfl
        exact ⟨Nat.le_refl _, by simp, hs⟩
      | false =>
        obtain ⟨h1, h2, h3⟩ := amfind_key es (i + 1) j x h
        exact ⟨by omega, by rw [show j - i = (j - (i + 1)) + 1 by omega]; exact h2, h3⟩
theorem opq_mapPut {t : TypeId} {m k x : Operand} (ho : o.op = .insert t m k x ∨ o.op = .mapUpdate t m k x) {d : TypeDesc} {el : TypeId} (ht : tmap P t = some (d, el)) {b : Nat} (hm : ρ m = .map b) {es es' : List (AV × AV)} (hb : σ.mp b = some es) {kv : Value} (hk : ρ k = .p kv)
    (hf : amput d (.p kv) (ρ x) es = some es') (hr : R (.p undef) { σ with mp := upd σ.mp b (some es') }) : OpQ P o ρ σ R := by
  obtain ⟨kt, u1, u2, u3⟩ := tmap_spec ht
  intro G e w he hw
  have hm' := he m
  rw [hm] at hm'
  have hk' := he k
  rw [hk] at hk'
  have hx' := he x
  obtain ⟨r, hfd, rfl⟩ := Option.map_eq_some_iff.1 hf
  obtain ⟨μ, ents, clock, g1, g2, g3, g4, g5⟩ := mp_map (hw.mp b es hb) hfd
  generalize hem : e m = vm at hm'
  generalize hek : e k = vk at hk'
  generalize hex : e x = vx at hx'
  cases hk'
  obtain ⟨μ', rfl, g⟩ : ∃ μ', vm = .map (some μ') ∧ G.mp b = some μ' := by cases hm'; exact ⟨_, rfl, by assumption⟩
  obtain rfl := Option.some.inj (g.symm.trans g1)
  have hfn := findNow_spec (G := G) (w := w) es ents.toList 0 r (by simp [g3]) (fun n k x e a c => by
    have := g4 n k x e a (by simpa using c)
    exact ⟨this.1, this.2.1⟩) hfd
  have key : ∃ ents' clock', (execOp e o).run P w = ((setObj μ' (.map ents' clock')).run P w).andThen (fun _ w' => .ok .skip w') ∧ ents'.size = (match r with | none => es ++ [(AV.p kv, ρ x)] | some (j, _) => es.set j (AV.p kv, ρ x)).length ∧
      (∀ (i : Nat) k' x' (e' : MapEntry), (match r with | none => es ++ [(AV.p kv, ρ x)] | some (j, _) => es.set j (AV.p kv, ρ x))[i]? = some (k', x') → ents'[i]? = some e' → Rep G w k' e'.key ∧ Rep G w x' e'.val ∧ e'.born < clock') ∧ (∀ (i j : Nat) (e e' : MapEntry), ents'[i]? = some e → ents'[j]? = some e' → e.born = e'.born → i = j) := by
    cases r with
    | none =>
      refine ⟨ents.push { key := kv, val := vx, born := clock }, clock + 1, ?_, by simp [g3], ?_, ?_⟩
      · rcases ho with ho | ho <;> simp [execOp, ho, Instr.mapUpdate, run_underlying' u1, hem, hek, hex, run_getObj_map g2, run_checkKey u2 u3, run_findKey u2 hfn]
      · intro i k' x' e' a c
        simp only at a
        rw [Array.getElem?_push] at c
        split at c
        · rename_i hi
          obtain rfl := Option.some.inj c
          subst hi
          rw [List.getElem?_append_right (by omega)] at a
          simp [g3] at a
          obtain ⟨rfl, rfl⟩ := a
          exact ⟨.p _, hx', by simp⟩
        · rename_i hi
          have hlt : i < ents.size := (Array.getElem?_eq_some_iff.1 c).1
          rw [List.getElem?_append_left (by omega)] at a
          obtain ⟨q1, q2, q3⟩ := g4 i k' x' e' a c
          exact ⟨q1, q2, by omega⟩
      · intro i j e1 e2 h1 h2 h3
        have old : ∀ (i : Nat) (e : MapEntry), ents[i]? = some e → e.born < clock := fun i e h => by
          have hi : i < es.length := by have := (Array.getElem?_eq_some_iff.1 h).1; omega
          exact (g4 i es[i].1 es[i].2 e (by rw [List.getElem?_eq_getElem hi]) h).2.2
        rw [Array.getElem?_push] at h1 h2
        split at h1
        · split at h2
          · omega
          · obtain rfl := Option.some.inj h1
            have := old _ _ h2
            simp at h3; omega
        · split at h2
          · obtain rfl := Option.some.inj h2
            have := old _ _ h1
            simp at h3; omega
          · exact g5 i j e1 e2 h1 h2 h3
    | some jy =>
      obtain ⟨j, y⟩ := jy
      obtain ⟨e0, _, he0, hre, hfn⟩ := hfn
      obtain ⟨_, hes, hsame⟩ := amfind_key es 0 j y hfd
      simp only [Nat.sub_zero] at he0 hes
      have he0' : ents[j]? = some e0 := by simpa using he0
      obtain ⟨q1, q2, q3⟩ := g4 j _ _ e0 hes he0'
      obtain rfl : kv = e0.key := by cases q1; rfl
      refine ⟨ents.modify j fun e => { e with key := e0.key, val := vx }, clock, ?_, by simp [g3], ?_, ?_⟩
      · rcases ho with ho | ho <;> simp [execOp, ho, Instr.mapUpdate, run_underlying' u1, hem, hek, hex, run_getObj_map g2, run_checkKey u2 u3, run_findKey u2 hfn, he0', keyStays ⟨_, hsame⟩]
      · intro i k' x' e' a c
        simp only at a
        rw [Array.getElem?_modify] at c
        split at c
        · rename_i hi
          subst hi
          rw [he0'] at c
          obtain rfl := Option.some.inj c
          have hlt : j < es.length := (List.getElem?_eq_some_iff.1 hes).1
          rw [List.getElem?_set_self hlt] at a
          simp only [Option.some.injEq, Prod.mk.injEq] at a
          obtain ⟨rfl, rfl⟩ := a
          exact ⟨.p _, hx', q3⟩
        · rename_i hi
          rw [List.getElem?_set_ne hi] at a
          exact g4 i k' x' e' a c
      · intro i j' e1 e2 h1 h2 h3
        have old : ∀ (i : Nat) (e : MapEntry), (ents.modify j fun e => { e with key := e0.key, val := vx })[i]? = some e → ∃ e', ents[i]? = some e' ∧ e'.born = e.born := fun i e h => by
          rw [Array.getElem?_modify] at h
          split at h
          · rename_i hi; subst hi
            rw [he0'] at h
            obtain rfl := Option.some.inj h
            exact ⟨e0, he0', rfl⟩
          · exact ⟨e, h, rfl⟩
        obtain ⟨a1, b1, c1⟩ := old _ _ h1
        obtain ⟨a2, b2, c2⟩ := old _ _ h2
        exact g5 i j' a1 a2 b1 b2 (by rw [c1, c2, h3])
  obtain ⟨ents', clock', run, k1, k2, k3⟩ := key
  obtain ⟨w', hset, htouch, hh⟩ := run_setObj (P := P) (o' := .map ents' clock') g2
  rw [run, hset, Result.andThen_ok]
  have hown : Owns G σ μ' (1, b) := .mp b μ' es hb g
  have hl := Le.touch hw hown htouch
  exact ⟨_, G, _, hl, hw.touch_mp hb g htouch (fun hl => .inl ⟨μ', ents', clock', g, hh, k1, fun i k' x' e' a c => ⟨(k2 i k' x' e' a c).1.mono hl, (k2 i k' x' e' a c).2.1.mono hl, (k2 i k' x' e' a c).2.2⟩, k3⟩), .p _, hr⟩
@[simp] theorem upd_upd {α : Type} (f : Nat → Option α) (b : Nat) (x y : Option α) : upd (upd f b x) b y = upd f b y := by
  funext k; unfold upd; split <;> rfl
theorem awl_makeMap {rest : List Oper} {t : TypeId} (mu : List Nat) (ho : o.op = .makeMap t none) (hw : awanted ops o fr = some true)
    (hk : Shut (ARun P D ops Q mu rest (aput fr o.dst (.map σ.next)) (σ.addMp []))) : AWL P D ops Q (o :: rest) fr σ :=
  awl_cons hw (opq_makeMap ho (awl_run' mu hk))
theorem awl_mapPut {rest : List Oper} {t : TypeId} {m k x : Operand} (mu : List Nat) (ho : o.op = .insert t m k x ∨ o.op = .mapUpdate t m k x) (hw : awanted ops o fr = some true) {d : TypeDesc} {el : TypeId} (ht : tmap P t = some (d, el)) {b : Nat} (hm : aev fr m = .map b) {es es' : List (AV × AV)} (hb : σ.mp b = some es)
    {kv : Value} (hk : aev fr k = .p kv) (hf : amput d (.p kv) (aev fr x) es = some es') (hk2 : Shut (ARun P D ops Q mu rest (aput fr o.dst (.p undef)) { σ with mp := upd σ.mp b (some es') })) : AWL P D ops Q (o :: rest) fr σ :=
  awl_cons hw (opq_mapPut ho ht hm hb hk hf (awl_run' mu hk2))
end Go.AL
/-! Regions that draw their order, in which one variable is made and filled: the others leave all as it is, whenever they come. -/
namespace Go.AL
set_option linter.unusedVariables false
set_option linter.unusedSimpArgs false
variable {P : Program} {σ σ1 σ2 : ASt} {R : AV → ASt → Prop} {D : List Deferred} {Q : Exit → List AV → ASt → Prop} {fr : List AV} {ops : Array Oper} {A S : Nat}
/-- An operation that turns memory. -/
def YldT (P : Program) (ops : Array Oper) (σ τ : ASt) (o : Oper) (fr : List AV) (r : AV) : Prop :=
  ∀ G (a : Act) w, (∀ t ∈ o.looksAt ops, Rep G w (fget fr t) (a.eval (.tmp t))) → SimW G σ w →
    Region.wanted o (yielded ops a.tmps) = true ∧ OutcN P G w (fun r' σ' => r' = r ∧ σ' = τ) ((execOp a.eval o).run P w)
theorem YldT.put {τ : ASt} {o : Oper} {r : AV} {d : Option Tmp} {v : AV} (hd : ∀ x, d = some x → x ∉ o.looksAt ops) : YldT P ops σ τ o (aput fr d v) r ↔ YldT P ops σ τ o fr r := by
  have e : ∀ t ∈ o.looksAt ops, fget (aput fr d v) t = fget fr t := by
    intro t ht
    cases d with
    | none => rfl
    | some x => exact fget_fset_ne fr x t v fun e => hd x rfl (e ▸ ht)
  constructor
  · intro h G a w ha hw
    exact h G a w (fun t ht => by rw [e t ht]; exact ha t ht) hw
  · intro h G a w ha hw
    exact h G a w (fun t ht => by rw [← e t ht]; exact ha t ht) hw
/-- Number i, of which A makes, and S fills. -/
def Y2 (P : Program) (ops : Array Oper) (A S : Nat) (σ σ1 σ2 : ASt) (i : Nat) (o : Oper) (fr : List AV) (r : AV) : Prop :=
  (i = A ∧ YldT P ops σ σ1 o fr r) ∨ (i = S ∧ YldT P ops σ1 σ2 o fr r) ∨ (i ≠ A ∧ i ≠ S ∧ Yld P ops σ o fr r ∧ Yld P ops σ1 o fr r ∧ Yld P ops σ2 o fr r)
theorem Y2.put {i : Nat} {o : Oper} {r : AV} {d : Option Tmp} {v : AV} (hd : ∀ x, d = some x → x ∉ o.looksAt ops) : Y2 P ops A S σ σ1 σ2 i o (aput fr d v) r ↔ Y2 P ops A S σ σ1 σ2 i o fr r := by
  unfold Y2
  rw [YldT.put hd, YldT.put hd, Yld.put hd, Yld.put hd, Yld.put hd]
/-- What memory is, by what is done. -/
def st2 (A S : Nat) (σ σ1 σ2 : ASt) (listed : Array Bool) : ASt := if listed.getD S true = true then σ2 else if listed.getD A true = true then σ1 else σ
/-! ### how it is shown -/
theorem yldT_opq {τ : ASt} {o : Oper} {r : AV} (hg : o.guard = none) (h : ∀ ρ, (∀ x ∈ o.op.operands, ρ x = aev fr x) → OpQ P o ρ σ fun r' σ' => r' = r ∧ σ' = τ) : YldT P ops σ τ o fr r := by
  intro G a w ha hw
  exact ⟨by simp [Region.wanted, hg], h (only o (aev fr)) (fun x hx => (only_eq x hx).symm) G a.eval w (only_rep ha) hw⟩
end Go.AL
/-! Arguments that are slices. -/
namespace Go.AL
open Go.RowKit (Below)
set_option linter.unusedVariables false
theorem cell_lt {W : World} {β o : Nat} {v : Value} (h : W.cell? ⟨β, o, none⟩ = some v) : β < W.heap.size := by
  rcases Nat.lt_or_ge β W.heap.size with h' | h'
  · exact h'
  · unfold World.cell? at h; simp [Array.getElem?_eq_none h'] at h
end Go.AL
/-! What is handed back, closed: slices of the function's own stay as they are; no slice is the empty one. -/
namespace Go.AL
open Go.RowKit (Below)
set_option linter.unusedVariables false
set_option linter.unusedSimpArgs false
variable {P : Program} {σ : ASt} {R : AV → ASt → Prop}
def clo0 (σ : ASt) : AV → AV
  | .p (.slice none 0 _) => .vsl []
  | .hsl b off n => match σ.sl b with
    | some xs => if off + n ≤ xs.length then .vsl ((xs.drop off).take n) else .any
    | none => .hsl b off n
  | v => v
def clo1 (σ : ASt) : AV → AV
  | .agg cs => .agg (cs.map (clo0 σ))
  | v => clo0 σ v
def clo (σ : ASt) : AV → AV
  | .tup cs => .tup (cs.map (clo1 σ))
  | v => clo1 σ v
theorem clo_rep {G G' w} (f0 : ∀ v u, Rep G w v u → Rep G' w (clo0 σ v) u) : ∀ v u, Rep G w v u → Rep G' w (clo σ v) u := by
  have f1 : ∀ v u, Rep G w v u → Rep G' w (clo1 σ v) u := by
    intro v u hr
    by_cases hv : ∃ cs, v = .agg cs
    · obtain ⟨cs, rfl⟩ := hv
      cases hr with
      | agg _ vs hs h =>
        refine .agg _ vs (by simpa using hs) fun i c v hc hv => ?_
        rw [List.getElem?_map] at hc
        obtain ⟨c', hc', rfl⟩ := Option.map_eq_some_iff.1 hc
        exact f0 _ _ (h i c' v hc' hv)
    · have : clo1 σ v = clo0 σ v := by cases v <;> first | rfl | exact absurd ⟨_, rfl⟩ hv
      rw [this]; exact f0 v u hr
  intro v u hr
  by_cases hv : ∃ cs, v = .tup cs
  · obtain ⟨cs, rfl⟩ := hv
    cases hr with
    | tup _ vs hs h =>
      refine .tup _ vs (by simpa using hs) fun i c v hc hv => ?_
      rw [List.getElem?_map] at hc
      obtain ⟨c', hc', rfl⟩ := Option.map_eq_some_iff.1 hc
      exact f1 _ _ (h i c' v hc' hv)
  · have : clo σ v = clo1 σ v := by cases v <;> first | rfl | exact absurd ⟨_, rfl⟩ hv
    rw [this]; exact f1 v u hr
def ASt.noSl (σ : ASt) : ASt := { σ with sl := fun _ => none }
theorem noSl_le (σ : ASt) : (σ.noSl).Le σ := ⟨fun _ _ h => h, fun _ _ h => h, fun _ _ h => (nomatch h), Nat.le_refl _⟩
theorem SimW.close {G σ w} (h : SimW G σ w) : ∃ G', Le G w G' w ∧ SimW G' σ.noSl w ∧ ∀ v u, Rep G w v u → Rep G' w (clo σ v) u := by
  obtain ⟨q, hq⟩ : ∃ q : Nat → Nat → Prop, q = fun γ _ => ∃ b xs r, σ.sl b = some xs ∧ G.sl b = some (some (γ, r)) := ⟨_, rfl⟩
  have hqo : ∀ γ o, q γ o → ∃ b, Owns G σ γ (2, b) := fun γ o e => by
    rw [hq] at e; obtain ⟨b, xs, r, h1, h2⟩ := e; exact ⟨b, .sl b γ r xs h1 h2⟩
  have hl : Le G w (G.addSt q) w := ⟨rfl, fun _ _ e => e, fun _ _ e => e, fun _ _ e => e, fun _ _ e => .inl e, fun γ o e => e.imp id fun e => by
    obtain ⟨b, hb⟩ := hqo γ o e; exact ⟨(h.own _ _ hb).1, (h.own _ _ hb).2.2⟩, fun _ _ _ => rfl, Below.refl _ _⟩
  refine ⟨_, hl, ?_, clo_rep fun v u hr => ?_⟩
  · have hw := h.less (noSl_le σ)
    have hown : ∀ γ k, Owns (G.addSt q) σ.noSl γ k → Owns G σ γ k ∧ k.1 ≠ 2 := by
      intro γ k hk
      cases hk with
      | bx b' β' cs2 h2 g2 => exact ⟨.bx _ _ cs2 h2 g2, by simp⟩
      | mp b' β' cs2 h2 g2 => exact ⟨.mp _ _ cs2 h2 g2, by simp⟩
      | sl b' β' r cs2 h2 g2 => cases h2
    refine ⟨hw.base, fun b' cs e => (hw.bx b' cs e).mono hl fun _ _ => rfl, fun b' cs e => (hw.mp b' cs e).mono hl fun _ _ => rfl, fun b' cs e => (nomatch e), fun γ k hk => ?_, fun γ o e => ?_, hw.fresh⟩
    · have hk1 := hown γ k hk
      refine ⟨(h.own γ k hk1.1).1, fun k' hk' => (h.own γ k hk1.1).2.1 k' (hown _ _ hk').1, fun o e => ?_⟩
      rcases e with e | e
      · exact (h.own γ k hk1.1).2.2 o e
      · obtain ⟨b, hb⟩ := hqo γ o e
        have := (h.own γ _ hk1.1).2.1 _ hb
        exact hk1.2 (by rw [← this])
    · rcases e with e | e
      · exact h.stIn _ _ e
      · obtain ⟨b, hb⟩ := hqo γ o e; exact h.own_lt hb
  · have hr0 := hr.mono hl
    by_cases hv : ∃ cap, v = .p (.slice none 0 cap)
    · obtain ⟨cap, rfl⟩ := hv
      cases hr
      exact .vnil none cap
    by_cases hv2 : ∃ b off n, v = .hsl b off n
    · obtain ⟨b, off, n, rfl⟩ := hv2
      simp only [clo0]
      cases hb : σ.sl b with
      | none => exact hr0
      | some xs =>
        simp only
        split
        · rename_i hin
          have hS := h.sl b xs hb
          cases hr with
          | hsl _ _ _ β' o' s' cap' g hle =>
            rcases hS with ⟨g1, rfl⟩ | ⟨β, o, s, cap, arr, el, g1, g2, g3, g4, g5, g6⟩
            · rw [g1] at g; cases g
            obtain ⟨rfl, rfl, rfl, rfl⟩ : β = β' ∧ o = o' ∧ s = s' ∧ cap = cap' := by rw [g] at g1; simpa using g1.symm
            have hlen : ((xs.drop off).take n).length = n := by simp; omega
            have hc0 : n ≤ cap - off := by omega
            have hc1 : ((xs.drop off).take n).length ≤ cap - off := by rw [hlen]; exact hc0
            have hin2 : ∀ i j c, rowCell ((xs.drop off).take n) i j = some c → rowCell xs (off + i) j = some c ∧ o + (off + i) * s + j < arr.size := by
              intro i j c hc
              obtain ⟨hc2, hi⟩ := rowCell_seg _ _ _ _ _ _ hc
              obtain ⟨h1, h2, h3⟩ := rowCell_lt hc2 g5
              have : xs.length * s ≤ cap * s := Nat.mul_le_mul_right _ g3.2
              exact ⟨hc2, by omega⟩
            have key := Rep.vsl (G := G.addSt q) (w := w) ((xs.drop off).take n) β (o + off * s) s (cap - off) (fun i j => arr.getD (o + (off + i) * s + j) undef) hc1 (fun i x hx => by
              rw [List.getElem?_take] at hx
              split at hx
              · rw [List.getElem?_drop] at hx; exact g5 _ _ hx
              · cases hx) (fun i j c hc => ⟨.inr (by rw [hq]; exact ⟨b, xs, _, hb, g1⟩), by
              obtain ⟨_, hlt⟩ := hin2 i j c hc
              have e : o + off * s + i * s + j = o + (off + i) * s + j := by rw [Nat.add_mul]; omega
              rw [cell_of_heap g2, e]
              simp [hlt]⟩) (fun i j c hc => by
              obtain ⟨hc2, hlt⟩ := hin2 i j c hc
              have := g6 (off + i) j c _ hc2 (Array.getElem?_eq_getElem hlt)
              simp only [Array.getD, hlt, dif_pos]
              exact this.mono hl)
            rw [hlen] at key; exact key
          | hend _ _ a β' o' s' cap' g hle => simp only [List.take_zero]; exact .vnil _ _
          | hnil _ a g => simp only [List.take_zero]; exact .vnil _ _
        · exact .any _
    · have : clo0 σ v = v := by
        cases v with
        | p x =>
          cases x <;> first | rfl | skip
          rename_i a n c
          cases a with
          | none => cases n with
            | zero => exact absurd ⟨_, rfl⟩ hv
            | succ n => rfl
          | some a => rfl
        | hsl b off n => exact absurd ⟨_, _, _, rfl⟩ hv2
        | _ => rfl
      rw [this]; exact hr0
theorem Fin.close {r : AV} (h : Fin R (clo σ r) σ.noSl) : Fin R r σ := by
  intro G w v hw hr
  obtain ⟨G', h1, h2, h3⟩ := hw.close
  obtain ⟨r', G2, σ2, k1, k2, k3, k4⟩ := h G' w v h2 (h3 _ _ hr)
  exact ⟨r', G2, σ2, h1.trans k1, k2, k3, k4⟩
attribute [simp] clo clo1 clo0
end Go.AL
