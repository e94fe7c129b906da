/- Parts of the proof of MonoTells: the logic, contracts, plain laws. -/
import Derived.Test.YtadahjmamgidnaaZMonoTells8
import Derived.Test.YtadahjmamgidnaaZMonoTells7
/-! Maps. -/
namespace Go.AL
open Go.RowKit (Below)
set_option linter.unusedVariables false
set_option linter.unusedSimpArgs false

variable {P : Program} {σ : ASt} {R : AV → ASt → Prop} {o : Oper} {ρ : Operand → AV} {D : List Deferred} {Q : Exit → List AV → ASt → Prop} {fr : List AV} {ops : Array Oper}

/-- A key's kind, and the elements' type. -/
def tmap (P : Program) (t : TypeId) : Option (TypeDesc × TypeId) :=
  match P.underlying t with
  | some (.map k e) => match P.underlying k with
    | some .string => some (.string, e)
    | some .bool => some (.bool, e)
    | some (.int ik) => some (.int ik, e)
    | _ => none
  | _ => none
def keyD : TypeDesc → Bool
  | .string | .bool | .int _ => true
  | _ => false
theorem tmap_spec {t : TypeId} {d : TypeDesc} {el : TypeId} (h : tmap P t = some (d, el)) : ∃ k, P.underlying t = some (.map k el) ∧ P.underlying k = some d ∧ keyD d = true := by
  unfold tmap at h
  split at h
  · rename_i k e hk
    split at h
    · rename_i hd; simp only [Option.some.injEq, Prod.mk.injEq] at h; obtain ⟨rfl, rfl⟩ := h; exact ⟨k, hk, hd, rfl⟩
    · rename_i hd; simp only [Option.some.injEq, Prod.mk.injEq] at h; obtain ⟨rfl, rfl⟩ := h; exact ⟨k, hk, hd, rfl⟩
    · rename_i ik hd; simp only [Option.some.injEq, Prod.mk.injEq] at h; obtain ⟨rfl, rfl⟩ := h; exact ⟨k, hk, hd, rfl⟩
    · cases h
  · cases h
theorem run_checkKey {k : TypeId} {d : TypeDesc} (hk : P.underlying k = some d) (hd : keyD d = true) (b : Bool) (n : Nat) (v : Value) (w : World) : (Instr.checkKey b (n + 1) k v).run P w = .ok () w := by
  unfold Instr.checkKey
  rw [Sem.run_bind, run_underlying' hk, Result.andThen_ok]
  cases d <;> first | (cases v <;> rfl) | cases hd
/-- Are two keys one? -/
def akey (d : TypeDesc) (a b : AV) : Option Bool :=
  match d, a, b with
  | .int _, .p (.int k a), .p (.int k' b) => if k = k' then some (decide (a = b)) else none
  | .string, .p (.string a), .p (.string b) => some (decide (a = b))
  | .bool, .p (.bool a), .p (.bool b) => some (decide (a = b))
  | _, _, _ => none
theorem beq_bytes (a b : ByteArray) : (a == b) = decide (a = b) := by
  obtain ⟨x⟩ := a
  obtain ⟨y⟩ := b
  show (x == y) = _
  rw [Bool.eq_iff_iff]
  simp
theorem akey_spec {d : TypeDesc} {x : Value} {k : AV} {b : Bool} (h : akey d (.p x) k = some b) : ∃ y, k = .p y ∧ Instr.sameNow d x y = some b ∧ (b = true → x = y) := by
  unfold akey at h
  split at h
  · rename_i hx; cases hx
    split at h
    · rename_i hk; subst hk
      obtain rfl := Option.some.inj h
      exact ⟨_, rfl, by simp [Instr.sameNow]; rfl, fun hh => by rw [of_decide_eq_true hh]⟩
    · cases h
  · rename_i hx; cases hx
    obtain rfl := Option.some.inj h
    exact ⟨_, rfl, by simp [Instr.sameNow, beq_bytes], fun hh => by rw [of_decide_eq_true hh]⟩
  · rename_i hx; cases hx
    obtain rfl := Option.some.inj h
    exact ⟨_, rfl, by simp [Instr.sameNow]; rfl, fun hh => by rw [of_decide_eq_true hh]⟩
  · cases h
def amfind (d : TypeDesc) (k : AV) : List (AV × AV) → Nat → Option (Option (Nat × AV))
  | [], _ => some none
  | e :: es, i =>
    match akey d k e.1 with
    | some true => some (some (i, e.2))
    | some false => amfind d k es (i + 1)
    | none => none
theorem findNow_spec {G : Ghost} {w : World} {d : TypeDesc} {kv : Value} : ∀ (es : List (AV × AV)) (ents : List MapEntry) (i : Nat) (r : Option (Nat × AV)), es.length = ents.length →
    (∀ (n : Nat) k x (e : MapEntry), es[n]? = some (k, x) → ents[n]? = some e → Rep G w k e.key ∧ Rep G w x e.val) → amfind d (.p kv) es i = some r →
    match r with
    | none => Instr.findNow d kv ents i = some none
    | some (j, x) => ∃ e, i ≤ j ∧ ents[j - i]? = some e ∧ Rep G w x e.val ∧ Instr.findNow d kv ents i = some (some (j, e.val))
  | [], [], i, r, _, _, h => by
    obtain rfl := Option.some.inj h
    rfl
  | (k, x) :: es, e :: ents, i, r, hl, hr, h => by
    obtain ⟨h1, h2⟩ := hr 0 k x e rfl rfl
    have hk : ∀ b, akey d (.p kv) k = some b → Instr.sameNow d kv e.key = some b := by
      intro b hb
      obtain ⟨y, rfl, hs, _⟩ := akey_spec hb
      cases h1
      exact hs
    unfold amfind at h
    simp only at h
    cases hq : akey d (.p kv) k with
    | none => rw [hq] at h; cases h
    | some b =>
      rw [hq] at h
      have hb := hk b hq
      cases b with
      | true =>
        obtain rfl := Option.some.inj h
        refine ⟨e, Nat.le_refl _, by simp, h2, ?_⟩
        unfold Instr.findNow
        rw [hb]
      | false =>
        have ih := findNow_spec es ents (i + 1) r (by simpa using hl) (fun n k x e a b => hr (n + 1) k x e a b) h
        cases r with
        | none =>
          show Instr.findNow d kv (e :: ents) i = some none
          unfold Instr.findNow
          rw [hb]
          exact ih
        | some jx =>
          obtain ⟨j, y⟩ := jx
          obtain ⟨e', hij, he, hre, hf⟩ := ih
          refine ⟨e', by omega, ?_, hre, ?_⟩
          · rw [show j - i = (j - (i + 1)) + 1 by omega]; exact he
          · unfold Instr.findNow
            rw [hb]
            exact hf
theorem run_findKey {k : TypeId} {d : TypeDesc} (hk : P.underlying k = some d) {kv : Value} {ents : List MapEntry} {r : Option (Nat × Value)} (h : Instr.findNow d kv ents 0 = some r) (w : World) : (Instr.findKey k kv ents).run P w = .ok r w := by
  simp [Instr.findKey, run_underlying' hk, h]
theorem opq_makeMap {t : TypeId} (ho : o.op = .makeMap t none) (hr : R (.map σ.next) (σ.addMp [])) : OpQ P o ρ σ R := by
  intro G e w he hw
  have hb := below_alloc' w (.map #[] 0)
  have run : (execOp e o).run P w = .ok (.value (.map (some w.heap.size))) (w.alloc (.map #[] 0)) := by
    simp only [execOp, ho, Instr.makeMap, Option.map_none]
    rfl
  rw [run]
  exact ⟨_, _, _, Le.addMp hw hb w.heap.size, hw.addMp hb (Nat.le_refl _) (fun _ => .inl ⟨w.heap.size, #[], 0, upd_same _ _ _, heap_alloc_new w _, rfl, by simp, by simp⟩), .map _ _ (upd_same _ _ _), hr⟩
theorem mp_map {G : Ghost} {w : World} {b : Nat} {es : List (AV × AV)} {d : TypeDesc} {kv : Value} {r : Option (Nat × AV)} (h : MpOK G w b es) (hf : amfind d (.p kv) es 0 = some r) :
    ∃ μ ents clock, G.mp b = some μ ∧ w.heap[μ]? = some (.map ents clock) ∧ ents.size = es.length ∧
    (∀ (i : Nat) k x (e : MapEntry), es[i]? = some (k, x) → ents[i]? = some e → Rep G w k e.key ∧ Rep G w x e.val ∧ e.born < clock) ∧ (∀ (i j : Nat) (e e' : MapEntry), ents[i]? = some e → ents[j]? = some e' → e.born = e'.born → i = j) := by
  rcases h with h | ⟨μ, ob, ofr, _, _, _, rfl⟩
  · exact h
  · unfold obE amfind at hf
    have : akey d (.p kv) noV = none := by unfold akey; cases d <;> cases kv <;> rfl
    simp only [this] at hf
    cases hf
theorem run_setIter {w : World} {r : Nat} {s : ByteArray} {pos : Nat} {o' : Obj} (h : w.heap[r]? = some (.stringIter s pos)) : ∃ w', (setObj r o').run P w = .ok () w' ∧ Touch w w' r ∧ w'.heap[r]? = some o' := by
  refine ⟨{ w with heap := w.heap.set! r o' }, ?_, ⟨rfl, rfl, rfl, by simp, fun k hk => ?_⟩, ?_⟩
  · simp [setObj, Sem.run, h]
  · simp [Array.getElem?_setIfInBounds_ne (fun e => hk e.symm)]
  · obtain ⟨hr, _⟩ := Array.getElem?_eq_some_iff.1 h
    simp [hr]
theorem opq_range {t : TypeId} {x : Operand} (ho : o.op = .range t x) (ht : isString P t = true) {s : ByteArray} (hx : ρ x = .p (.string s)) (hr : R (.it σ.next) (σ.addMp (itE s 0))) : OpQ P o ρ σ R := by
  intro G e w he hw
  have hx' := he x
  rw [hx] at hx'
  generalize hex : e x = vx at hx'
  cases hx'
  have hu := isString_spec ht
  have hb := below_alloc' w (.stringIter s 0)
  have run : (execOp e o).run P w = .ok (.value (.pointer (some ⟨w.heap.size, 0, none⟩))) (w.alloc (.stringIter s 0)) := by
    simp only [execOp, ho, Instr.range, hex, Sem.run_bind, run_underlying' hu, Result.andThen_ok]
    rfl
  rw [run]
  exact ⟨_, _, _, Le.addMp hw hb w.heap.size, hw.addMp hb (Nat.le_refl _) (fun _ => .inr ⟨w.heap.size, _, [], upd_same _ _ _, heap_alloc_new w _, rfl, rfl⟩), .it _ _ (upd_same _ _ _), hr⟩
theorem run_getObj_iter {w : World} {r : Nat} {s : ByteArray} {pos : Nat} (h : w.heap[r]? = some (.stringIter s pos)) : (getObj r).run P w = .ok (.stringIter s pos) w := by
  simp [getObj, Sem.run, h]
theorem obE_inj {o o' : Obj} {fr fr' : List AV} (h : obE o fr = obE o' fr') : o = o' ∧ fr = fr' := by
  unfold obE at h
  simpa using h
theorem mp_ob {G : Ghost} {w : World} {b : Nat} {o : Obj} {fr : List AV} (h : MpOK G w b (obE o fr)) : ∃ μ o', G.mp b = some μ ∧ w.heap[μ]? = some o' ∧ ObR G w o' fr ∧ erO o' = o := by
  rcases h with ⟨μ, ents, clock, h1, h2, h3, h4, h5⟩ | ⟨μ, o', fr', h1, h2, h3, h4⟩
  · have hl : ents.size = 1 := h3
    obtain ⟨e, he⟩ : ∃ e, ents[0]? = some e := ⟨ents[0], by simp [hl]⟩
    exact (noV_rep (h4 0 _ _ e rfl he).1).elim
  · obtain ⟨e1, rfl⟩ := obE_inj h4
    exact ⟨μ, o', h1, h2, h3, e1.symm⟩
theorem mp_it {G : Ghost} {w : World} {b : Nat} {s : ByteArray} {pos : Nat} (h : MpOK G w b (itE s pos)) : ∃ μ, G.mp b = some μ ∧ w.heap[μ]? = some (.stringIter s pos) := by
  obtain ⟨μ, o', h1, h2, _, h4⟩ := mp_ob h
  refine ⟨μ, h1, ?_⟩
  cases o' <;> simp [erO] at h4
  obtain ⟨rfl, rfl⟩ := h4
  exact h2
theorem opq_next {x : Operand} (ho : o.op = .next x true) {m : Nat} (hx : ρ x = .it m) {s : ByteArray} {pos : Nat} (hm : σ.mp m = some (itE s pos))
    (h1 : pos < s.size → R (.tup [.p (.bool true), .p (.int .i64 (pos : Int)), .p (.int .i32 (Utf8.decode s pos).1)]) { σ with mp := upd σ.mp m (some (itE s (pos + (Utf8.decode s pos).2))) })
    (h2 : ¬ pos < s.size → R (.tup [.p (.bool false)]) σ) : OpQ P o ρ σ R := by
  intro G e w he hw
  have hx' := he x
  rw [hx] at hx'
  obtain ⟨μ, g, hh⟩ := mp_it (hw.mp m _ hm)
  generalize hex : e x = vx at hx'
  obtain ⟨μ', rfl, g2⟩ : ∃ μ', vx = .pointer (some ⟨μ', 0, none⟩) ∧ G.mp m = some μ' := by cases hx'; exact ⟨_, rfl, by assumption⟩
  obtain rfl := Option.some.inj (g.symm.trans g2)
  by_cases hp : pos < s.size
  · obtain ⟨w', hset, htouch, hh'⟩ := run_setIter (P := P) (o' := .stringIter s (pos + (Utf8.decode s pos).2)) hh
    have run : (execOp e o).run P w = .ok (.value (.tuple #[.bool true, .int .i64 (pos : Int), .int .i32 (Utf8.decode s pos).1])) w' := by
      simp only [execOp, ho, Instr.next, hex, Sem.run_bind, run_getObj_iter hh, Result.andThen_ok, if_pos hp, hset, Sem.run_pure, goInt]
    rw [run]
    have hown : Owns G σ μ (1, m) := .mp m μ _ hm g
    have hl := Le.touch hw hown htouch
    refine ⟨_, G, _, hl, hw.touch_mp hm g htouch (fun _ => .inr ⟨μ, _, [], g, hh', rfl, rfl⟩), .tup _ _ rfl fun i c v a b => ?_, h1 hp⟩
    match i, a, b with
    | 0, a, b => cases a; cases b; exact .p _
    | 1, a, b => cases a; cases b; exact .p _
    | 2, a, b => cases a; cases b; exact .p _
  · have run : (execOp e o).run P w = .ok (.value (.tuple #[.bool false])) w := by
      simp only [execOp, ho, Instr.next, hex, Sem.run_bind, run_getObj_iter hh, Result.andThen_ok, if_neg hp, Sem.run_pure]
    rw [run]
    refine ⟨_, G, _, Le.refl _ _, hw, .tup _ _ rfl fun i c v a b => ?_, h2 hp⟩
    match i, a, b with
    | 0, a, b => cases a; cases b; exact .p _
theorem run_setObj {w : World} {r : Nat} {es : Array MapEntry} {c : Nat} {o' : Obj} (h : w.heap[r]? = some (.map es c)) : ∃ w', (setObj r o').run P w = .ok () w' ∧ Touch w w' r ∧ w'.heap[r]? = some o' := by
  refine ⟨{ w with heap := w.heap.set! r o' }, ?_, ⟨rfl, rfl, rfl, by simp, fun k hk => ?_⟩, ?_⟩
  · simp [setObj, Sem.run, h]
  · simp [Array.getElem?_setIfInBounds_ne (fun e => hk e.symm)]
  · obtain ⟨hr, _⟩ := Array.getElem?_eq_some_iff.1 h
    simp [hr]
theorem opq_lookup {t : TypeId} {m k : Operand} {ok : Bool} (ho : o.op = .lookup t m k ok) {d : TypeDesc} {el : TypeId} (ht : tmap P t = some (d, el)) {b : Nat} (hm : ρ m = .map b) {es : List (AV × AV)} (hb : σ.mp b = some es) {kv : Value} (hk : ρ k = .p kv)
    {r : Option (Nat × AV)} (hf : amfind d (.p kv) es 0 = some r) {x : AV} (hx : match r with | some (_, y) => x = y | none => tzero P el = some x) (hr : R (if ok = true then .tup [x, .p (.bool r.isSome)] else x) σ) : OpQ P o ρ σ R := by
  obtain ⟨kt, u1, u2, u3⟩ := tmap_spec ht
  intro G e w he hw
  have hm' := he m
  rw [hm] at hm'
  have hk' := he k
  rw [hk] at hk'
  obtain ⟨μ, ents, clock, g1, g2, g3, g4, g5⟩ := mp_map (hw.mp b es hb) hf
  generalize hem : e m = vm at hm'
  generalize hek : e k = vk at hk'
  cases hk'
  obtain ⟨μ', rfl, g⟩ : ∃ μ', vm = .map (some μ') ∧ G.mp b = some μ' := by cases hm'; exact ⟨_, rfl, by assumption⟩
  obtain rfl := Option.some.inj (g.symm.trans g1)
  have hf := findNow_spec (G := G) (w := w) es ents.toList 0 r (by simp [g3]) (fun n k x e a c => by
    have := g4 n k x e a (by simpa using c)
    exact ⟨this.1, this.2.1⟩) hf
  have key : ∃ v, (execOp e o).run P w = .ok (.value (if ok = true then .tuple #[v, .bool r.isSome] else v)) w ∧ Rep G w x v := by
    cases r with
    | none =>
      obtain ⟨i, v, hi, hv, rfl⟩ := tzero_spec hx
      refine ⟨v, ?_, rep_ofV G w v⟩
      simp [execOp, ho, Instr.lookup, run_underlying' u1, hem, hek, run_getObj_map g2, run_checkKey u2 u3, run_findKey u2 hf, run_zeroValue' hi hv]
    | some jy =>
      obtain ⟨j, y⟩ := jy
      obtain ⟨e', _, he', hre, hf⟩ := hf
      have hx' : x = y := hx
      refine ⟨e'.val, ?_, by rw [hx']; exact hre⟩
      simp [execOp, ho, Instr.lookup, run_underlying' u1, hem, hek, run_getObj_map g2, run_checkKey u2 u3, run_findKey u2 hf]
  obtain ⟨v, run, hrep⟩ := key
  rw [run]
  refine ⟨_, G, σ, Le.refl _ _, hw, ?_, hr⟩
  cases ok with
  | false => exact hrep
  | true =>
    refine .tup _ _ rfl fun i c u a c' => ?_
    match i, a, c' with
    | 0, a, c' => cases a; cases c'; exact hrep
    | 1, a, c' => cases a; cases c'; exact .p _
theorem keyStays {d : TypeDesc} {x : Value} (hd : ∃ b, Instr.sameNow d x x = some b) (w : World) : (Instr.keyThatStays x x).run P w = .ok x w := by
  have : Instr.sameBits 10000 x x = true := by
    obtain ⟨b, h⟩ := hd
    unfold Instr.sameNow at h
    split at h
    · simp [Instr.sameBits]
    · simp [Instr.sameBits, beq_bytes]
    · simp [Instr.sameBits]
    · cases h
  simp [Instr.keyThatStays, this]
/-- A key's value put, new or in place. -/
def amput (d : TypeDesc) (k x : AV) (es : List (AV × AV)) : Option (List (AV × AV)) :=
  (amfind d k es 0).map fun r => match r with
    | none => es ++ [(k, x)]
    | some (j, _) => es.set j (k, x)
theorem amfind_key {d : TypeDesc} {kv : Value} : ∀ (es : List (AV × AV)) (i j : Nat) (x : AV), amfind d (.p kv) es i = some (some (j, x)) → i ≤ j ∧ es[j - i]? = some (.p kv, x) ∧ Instr.sameNow d kv kv = some true
  | [], i, j, x, h => by cases h
  | (k, x0) :: es, i, j, x, h => by
    unfold amfind at h
    simp only at h
    cases hq : akey d (.p kv) k with
    | none => rw [hq] at h; cases h
    | some b =>
      rw [hq] at h
      cases b with
      | true =>
        simp only [Option.some.injEq, Prod.mk.injEq] at h
        obtain ⟨rfl, rfl⟩ := h
        obtain ⟨y, rfl, hs, he⟩ := akey_spec hq
        obtain rfl := he rfl
        exact ⟨Nat.le_refl _, by simp, hs⟩
      | false =>
        obtain ⟨h1, h2, h3⟩ := amfind_key es (i + 1) j x h
        exact ⟨by omega, by rw [show j - i = (j - (i + 1)) + 1 by omega]; exact h2, h3⟩
theorem opq_mapPut {t : TypeId} {m k x : Operand} (ho : o.op = .insert t m k x ∨ o.op = .mapUpdate t m k x) {d : TypeDesc} {el : TypeId} (ht : tmap P t = some (d, el)) {b : Nat} (hm : ρ m = .map b) {es es' : List (AV × AV)} (hb : σ.mp b = some es) {kv : Value} (hk : ρ k = .p kv)
    (hf : amput d (.p kv) (ρ x) es = some es') (hr : R (.p undef) { σ with mp := upd σ.mp b (some es') }) : OpQ P o ρ σ R := by
  obtain ⟨kt, u1, u2, u3⟩ := tmap_spec ht
  intro G e w he hw
  have hm' := he m
  rw [hm] at hm'
  have hk' := he k
  rw [hk] at hk'
  have hx' := he x
  obtain ⟨r, hfd, rfl⟩ := Option.map_eq_some_iff.1 hf
  obtain ⟨μ, ents, clock, g1, g2, g3, g4, g5⟩ := mp_map (hw.mp b es hb) hfd
  generalize hem : e m = vm at hm'
  generalize hek : e k = vk at hk'
  generalize hex : e x = vx at hx'
  cases hk'
  obtain ⟨μ', rfl, g⟩ : ∃ μ', vm = .map (some μ') ∧ G.mp b = some μ' := by cases hm'; exact ⟨_, rfl, by assumption⟩
  obtain rfl := Option.some.inj (g.symm.trans g1)
  have hfn := findNow_spec (G := G) (w := w) es ents.toList 0 r (by simp [g3]) (fun n k x e a c => by
    have := g4 n k x e a (by simpa using c)
    exact ⟨this.1, this.2.1⟩) hfd
  have key : ∃ ents' clock', (execOp e o).run P w = ((setObj μ' (.map ents' clock')).run P w).andThen (fun _ w' => .ok .skip w') ∧ ents'.size = (match r with | none => es ++ [(AV.p kv, ρ x)] | some (j, _) => es.set j (AV.p kv, ρ x)).length ∧
      (∀ (i : Nat) k' x' (e' : MapEntry), (match r with | none => es ++ [(AV.p kv, ρ x)] | some (j, _) => es.set j (AV.p kv, ρ x))[i]? = some (k', x') → ents'[i]? = some e' → Rep G w k' e'.key ∧ Rep G w x' e'.val ∧ e'.born < clock') ∧ (∀ (i j : Nat) (e e' : MapEntry), ents'[i]? = some e → ents'[j]? = some e' → e.born = e'.born → i = j) := by
    cases r with
    | none =>
      refine ⟨ents.push { key := kv, val := vx, born := clock }, clock + 1, ?_, by simp [g3], ?_, ?_⟩
      · rcases ho with ho | ho <;> simp [execOp, ho, Instr.mapUpdate, run_underlying' u1, hem, hek, hex, run_getObj_map g2, run_checkKey u2 u3, run_findKey u2 hfn]
      · intro i k' x' e' a c
        simp only at a
        rw [Array.getElem?_push] at c
        split at c
        · rename_i hi
          obtain rfl := Option.some.inj c
          subst hi
          rw [List.getElem?_append_right (by omega)] at a
          simp [g3] at a
          obtain ⟨rfl, rfl⟩ := a
          exact ⟨.p _, hx', by simp⟩
        · rename_i hi
          have hlt : i < ents.size := (Array.getElem?_eq_some_iff.1 c).1
          rw [List.getElem?_append_left (by omega)] at a
          obtain ⟨q1, q2, q3⟩ := g4 i k' x' e' a c
          exact ⟨q1, q2, by omega⟩
      · intro i j e1 e2 h1 h2 h3
        have old : ∀ (i : Nat) (e : MapEntry), ents[i]? = some e → e.born < clock := fun i e h => by
          have hi : i < es.length := by have := (Array.getElem?_eq_some_iff.1 h).1; omega
          exact (g4 i es[i].1 es[i].2 e (by rw [List.getElem?_eq_getElem hi]) h).2.2
        rw [Array.getElem?_push] at h1 h2
        split at h1
        · split at h2
          · omega
          · obtain rfl := Option.some.inj h1
            have := old _ _ h2
            simp at h3; omega
        · split at h2
          · obtain rfl := Option.some.inj h2
            have := old _ _ h1
            simp at h3; omega
          · exact g5 i j e1 e2 h1 h2 h3
    | some jy =>
      obtain ⟨j, y⟩ := jy
      obtain ⟨e0, _, he0, hre, hfn⟩ := hfn
      obtain ⟨_, hes, hsame⟩ := amfind_key es 0 j y hfd
      simp only [Nat.sub_zero] at he0 hes
      have he0' : ents[j]? = some e0 := by simpa using he0
      obtain ⟨q1, q2, q3⟩ := g4 j _ _ e0 hes he0'
      obtain rfl : kv = e0.key := by cases q1; rfl
      refine ⟨ents.modify j fun e => { e with key := e0.key, val := vx }, clock, ?_, by simp [g3], ?_, ?_⟩
      · rcases ho with ho | ho <;> simp [execOp, ho, Instr.mapUpdate, run_underlying' u1, hem, hek, hex, run_getObj_map g2, run_checkKey u2 u3, run_findKey u2 hfn, he0', keyStays ⟨_, hsame⟩]
      · intro i k' x' e' a c
        simp only at a
        rw [Array.getElem?_modify] at c
        split at c
        · rename_i hi
          subst hi
          rw [he0'] at c
          obtain rfl := Option.some.inj c
          have hlt : j < es.length := (List.getElem?_eq_some_iff.1 hes).1
          rw [List.getElem?_set_self hlt] at a
          simp only [Option.some.injEq, Prod.mk.injEq] at a
          obtain ⟨rfl, rfl⟩ := a
          exact ⟨.p _, hx', q3⟩
        · rename_i hi
          rw [List.getElem?_set_ne hi] at a
          exact g4 i k' x' e' a c
      · intro i j' e1 e2 h1 h2 h3
        have old : ∀ (i : Nat) (e : MapEntry), (ents.modify j fun e => { e with key := e0.key, val := vx })[i]? = some e → ∃ e', ents[i]? = some e' ∧ e'.born = e.born := fun i e h => by
          rw [Array.getElem?_modify] at h
          split at h
          · rename_i hi; subst hi
            rw [he0'] at h
            obtain rfl := Option.some.inj h
            exact ⟨e0, he0', rfl⟩
          · exact ⟨e, h, rfl⟩
        obtain ⟨a1, b1, c1⟩ := old _ _ h1
        obtain ⟨a2, b2, c2⟩ := old _ _ h2
        exact g5 i j' a1 a2 b1 b2 (by rw [c1, c2, h3])
  obtain ⟨ents', clock', run, k1, k2, k3⟩ := key
  obtain ⟨w', hset, htouch, hh⟩ := run_setObj (P := P) (o' := .map ents' clock') g2
  rw [run, hset, Result.andThen_ok]
  have hown : Owns G σ μ' (1, b) := .mp b μ' es hb g
  have hl := Le.touch hw hown htouch
  exact ⟨_, G, _, hl, hw.touch_mp hb g htouch (fun hl => .inl ⟨μ', ents', clock', g, hh, k1, fun i k' x' e' a c => ⟨(k2 i k' x' e' a c).1.mono hl, (k2 i k' x' e' a c).2.1.mono hl, (k2 i k' x' e' a c).2.2⟩, k3⟩), .p _, hr⟩
theorem awl_range {rest : List Oper} {t : TypeId} {x : Operand} (mu : List Nat) (ho : o.op = .range t x) (hw : awanted ops o fr = some true) (ht : isString P t = true) {s : ByteArray} (hx : aev fr x = .p (.string s))
    (hk : Shut (ARun P D ops Q mu rest (aput fr o.dst (.it σ.next)) (σ.addMp (itE s 0)))) : AWL P D ops Q (o :: rest) fr σ :=
  awl_cons hw (opq_range ho ht hx (awl_run' mu hk))
theorem awl_next {rest : List Oper} {x : Operand} (mu : List Nat) (ho : o.op = .next x true) (hw : awanted ops o fr = some true) {m : Nat} (hx : aev fr x = .it m) {s : ByteArray} {pos : Nat} (hm : σ.mp m = some (itE s pos))
    (h1 : pos < s.size → Shut (ARun P D ops Q mu rest (aput fr o.dst (.tup [.p (.bool true), .p (.int .i64 (pos : Int)), .p (.int .i32 (Utf8.decode s pos).1)])) { σ with mp := upd σ.mp m (some (itE s (pos + (Utf8.decode s pos).2))) }))
    (h2 : ¬ pos < s.size → Shut (ARun P D ops Q mu rest (aput fr o.dst (.tup [.p (.bool false)])) σ)) : AWL P D ops Q (o :: rest) fr σ :=
  awl_cons hw (opq_next ho hx hm (fun h => awl_run' mu (h1 h)) (fun h => awl_run' mu (h2 h)))
@[simp] theorem upd_upd {α : Type} (f : Nat → Option α) (b : Nat) (x y : Option α) : upd (upd f b x) b y = upd f b y := by
  funext k; unfold upd; split <;> rfl
theorem awl_makeMap {rest : List Oper} {t : TypeId} (mu : List Nat) (ho : o.op = .makeMap t none) (hw : awanted ops o fr = some true)
    (hk : Shut (ARun P D ops Q mu rest (aput fr o.dst (.map σ.next)) (σ.addMp []))) : AWL P D ops Q (o :: rest) fr σ :=
  awl_cons hw (opq_makeMap ho (awl_run' mu hk))
theorem awl_mapPut {rest : List Oper} {t : TypeId} {m k x : Operand} (mu : List Nat) (ho : o.op = .insert t m k x ∨ o.op = .mapUpdate t m k x) (hw : awanted ops o fr = some true) {d : TypeDesc} {el : TypeId} (ht : tmap P t = some (d, el)) {b : Nat} (hm : aev fr m = .map b) {es es' : List (AV × AV)} (hb : σ.mp b = some es)
    {kv : Value} (hk : aev fr k = .p kv) (hf : amput d (.p kv) (aev fr x) es = some es') (hk2 : Shut (ARun P D ops Q mu rest (aput fr o.dst (.p undef)) { σ with mp := upd σ.mp b (some es') })) : AWL P D ops Q (o :: rest) fr σ :=
  awl_cons hw (opq_mapPut ho ht hm hb hk hf (awl_run' mu hk2))
theorem awl_mapNew {rest : List Oper} {t : TypeId} {m k x : Operand} (mu : List Nat) (ho : o.op = .insert t m k x ∨ o.op = .mapUpdate t m k x) (hw : awanted ops o fr = some true) {d : TypeDesc} {el : TypeId} (ht : tmap P t = some (d, el)) {b : Nat} (hm : aev fr m = .map b) {es : List (AV × AV)} (hb : σ.mp b = some es)
    {kv : Value} (hk : aev fr k = .p kv) (hf : amfind d (.p kv) es 0 = some none) (hk2 : Shut (ARun P D ops Q mu rest (aput fr o.dst (.p undef)) { σ with mp := upd σ.mp b (some (es ++ [(.p kv, aev fr x)])) })) : AWL P D ops Q (o :: rest) fr σ :=
  awl_mapPut mu ho hw ht hm hb hk (by unfold amput; rw [hf]; rfl) hk2
theorem awl_lookup {rest : List Oper} {t : TypeId} {m k : Operand} {ok : Bool} (mu : List Nat) (ho : o.op = .lookup t m k ok) (hw : awanted ops o fr = some true) {d : TypeDesc} {el : TypeId} (ht : tmap P t = some (d, el)) {b : Nat} (hm : aev fr m = .map b) {es : List (AV × AV)} (hb : σ.mp b = some es)
    {kv : Value} (hk : aev fr k = .p kv) {r : Option (Nat × AV)} (hf : amfind d (.p kv) es 0 = some r) {x : AV} (hx : match r with | some (_, y) => x = y | none => tzero P el = some x)
    (hk2 : Shut (ARun P D ops Q mu rest (aput fr o.dst (if ok = true then .tup [x, .p (.bool r.isSome)] else x)) σ)) : AWL P D ops Q (o :: rest) fr σ :=
  awl_cons hw (opq_lookup ho ht hm hb hk hf hx (awl_run' mu hk2))
theorem acall_upd {f : FuncId} {args : List AV} {R R' : AV → ASt → Prop} (h : ACall P f args σ R) (hr : ∀ r σ, R r σ → R' r σ) : ACall P f args σ R' := h.mono hr
/-- A call with its own memory left behind, next in a run. -/
theorem awl_call' {rest : List Oper} {f : Operand} {aa : Array Operand} {ts : Array TypeId} (mu : List Nat) (ho : o.op = .call { callee := .value f, args := aa, argTypes := ts }) (hw : awanted ops o fr = some true)
    {F : FuncId} {first cap : List AV} (hf : acallee (aev fr f) = some (F, first, cap)) (hc : callable P F = true) {args : List AV} (ha : first ++ aa.toList.map (aev fr) ++ cap = args) {r : AV} {τ : ASt} (h : ACall P F args σ fun r' τ' => r' = r ∧ τ' = τ)
    (hk : Shut (ARun P D ops Q mu rest (aput fr o.dst r) τ)) : AWL P D ops Q (o :: rest) fr σ :=
  awl_cons hw (opq_call ho hf hc (by rw [ha]; exact h.mono fun r' τ' ⟨e1, e2⟩ => by subst e1; subst e2; exact awl_run' mu hk))
end Go.AL
/-! What all contracts use. -/
namespace Go.AL
open Go.Proofs
set_option linter.unusedSimpArgs false
set_option linter.unusedVariables false
attribute [simp] keep frm
theorem draws : Try.prog.follows .mixedOrders = true := by kernel_rfl
/-- The number, if so. -/
def z (b : Bool) (n : Int) : Int := if b = true then n else 0
@[simp] theorem z_true (n : Int) : z true n = n := rfl
@[simp] theorem z_false (n : Int) : z false n = 0 := rfl
abbrev vu (n : Int) : AV := .p (.int .u64 n)
theorem uwrap_id {n : Int} (h1 : 0 ≤ n) (h2 : n < 18446744073709551616) : IntKind.u64.wrap n = n := by
  have e1 : (2 : Int) ^ IntKind.u64.bits = 18446744073709551616 := by decide
  have e3 : IntKind.u64.signed = false := rfl
  unfold IntKind.wrap
  simp only [e1, e3, Bool.false_and]
  simp only [Bool.false_eq_true, if_false]
  omega
theorem bwrap_id {n : Int} (h1 : 0 ≤ n) (h2 : n < 256) : IntKind.u8.wrap n = n := by
  have e1 : (2 : Int) ^ IntKind.u8.bits = 256 := by decide
  have e3 : IntKind.u8.signed = false := rfl
  unfold IntKind.wrap
  simp only [e1, e3, Bool.false_and]
  simp only [Bool.false_eq_true, if_false]
  omega
def In64 (a : Int) : Prop := -9223372036854775808 ≤ a ∧ a ≤ 9223372036854775807
theorem In64.of_wf {a : Int} (h : (Lit.int .i64 a).wf = true) : In64 a := by
  simp only [Lit.wf, IntKind.min, IntKind.max, IntKind.signed, IntKind.bits, Bool.and_eq_true, decide_eq_true_eq, if_true] at h
  unfold In64; omega
end Go.AL
/-! Contracts: place. -/
namespace Go.AL
open Go.Proofs
set_option linter.unusedSimpArgs false
set_option linter.unusedVariables false
abbrev place (c r : Int) : AV := .agg [vi c, vi r]
def rightP (c r : Int) : Bool := decide (0 ≤ c) && decide (c < 16) && decide (0 ≤ r) && decide (r < 64)
set_option maxRecDepth 100000 in
theorem right_ok (c r : Int) : APure Try.prog 75 [place c r] (vb (rightP c r)) := by
  refine apure_of Try.func75 Try.ntmps75 rfl ?_
  simp only [List.length_cons, List.length_nil, List.cons_append, List.nil_append, List.replicate]
  repeat' (first
    | refine aw_seq ?_
    | (refine aw_run [] ?_; try simp -implicitDefEqProofs (maxSteps := 1000000))
    | ((first | refine awl_skip' [] rfl ?_ | refine aw_skip ?_ | refine aw_exit ?_); try simp -implicitDefEqProofs (maxSteps := 1000000))
    | (refine aw_cond rfl (fun h => ?_) (fun h => ?_) <;> try (with_reducible first | exact ff_tt h | exact tt_ff h))
    | refine aw_block ?_
    | refine aw_ret (ret_of (.inr rfl) (by simp [Try.results75]; rfl) (Fin.of ?_))
    | refine ret_of (.inl rfl) (by simp [Try.results75]; rfl) (Fin.of ?_))
  simp [rightP]
theorem wmul {a : Int} (h : 0 ≤ a) (h2 : a < 64) : IntKind.i64.wrap (a * 16) = a * 16 := wrap_id (by omega) (by omega)
set_option maxRecDepth 100000 in
theorem index_ok (c r : Int) : APure Try.prog 47 [place c r] (vi (if rightP c r then r * 16 + c else -1)) := by
  refine apure_of Try.func47 Try.ntmps47 rfl ?_
  simp only [List.length_cons, List.length_nil, List.cons_append, List.nil_append, List.replicate]
  repeat' (first
    | refine aw_seq ?_
    | (refine aw_run [] ?_; try simp -implicitDefEqProofs (maxSteps := 1000000))
    | ((first | refine awl_skip' [] rfl ?_ | refine awl_pure_guard [] rfl rfl rfl (by first | assumption | kernel_rfl) rfl (fun hc => by first | exact right_ok _ _) (by simp) (by simp) (by simp) ?_ | refine awl_pure' [] rfl rfl rfl (by first | assumption | kernel_rfl) rfl (by first | exact right_ok _ _) (by simp) (by simp) ?_ | refine aw_skip ?_ | refine aw_exit ?_); try simp -implicitDefEqProofs (maxSteps := 1000000))
    | (refine aw_cond rfl (fun h => ?_) (fun h => ?_) <;> try (with_reducible first | exact ff_tt h | exact tt_ff h))
    | refine aw_block ?_
    | refine aw_ret (ret_of (.inr rfl) (by simp [Try.results47]; rfl) (Fin.of ?_))
    | refine ret_of (.inl rfl) (by simp [Try.results47]; rfl) (Fin.of ?_))
  · simp_all
  · simp at h
    have h' := h
    simp [rightP] at h'
    rw [wmul (by omega) (by omega), wrap_id (by omega) (by omega)]
    simp [h]
def atC (i : Int) : Int := if 0 ≤ i ∧ i < 1024 then i % 16 else 0
def atR (i : Int) : Int := if 0 ≤ i ∧ i < 1024 then i / 16 else 0
set_option maxRecDepth 100000 in
theorem at_ok (i : Int) : APure Try.prog 48 [vi i] (.tup [place (atC i) (atR i), vb (decide (0 ≤ i ∧ i < 1024))]) := by
  refine apure_of Try.func48 Try.ntmps48 rfl ?_
  simp only [List.length_cons, List.length_nil, List.cons_append, List.nil_append, List.replicate]
  repeat' (first
    | refine aw_seq ?_
    | (refine aw_run [2] ?_; try simp -implicitDefEqProofs (maxSteps := 1000000))
    | ((first | refine awl_skip' [2] rfl ?_ | refine aw_skip ?_ | refine aw_exit ?_); try simp -implicitDefEqProofs (maxSteps := 1000000))
    | (refine aw_cond rfl (fun h => ?_) (fun h => ?_) <;> try (with_reducible first | exact ff_tt h | exact tt_ff h))
    | refine aw_block ?_
    | refine aw_ret (ret_of (.inr rfl) (by simp [Try.results48]; rfl) (Fin.of ?_))
    | refine ret_of (.inl rfl) (by simp [Try.results48]; rfl) (Fin.of ?_))
  · simp [tupOf] at h ⊢
    have : ¬ (0 ≤ i ∧ i < 1024) := by omega
    simp [atC, atR, this]
    omega
  · simp [tupOf] at h ⊢
    have h1 : 0 ≤ i ∧ i < 1024 := by omega
    rw [Int.tdiv_eq_ediv_of_nonneg h1.1, wrap_id (by omega) (by omega)]
    simp [atC, atR, h1, Int.tmod_eq_emod_of_nonneg h1.1]
theorem mn (a b : Int) : (if b < a then b else a) = min a b := by omega
theorem mx (a b : Int) : (if a < b then b else a) = max a b := by omega
abbrev range (a b c d : Int) : AV := .agg [vi a, vi b, vi c, vi d]
def spanP (a b c d : Int) : Bool := rightP a b && rightP c d
def withinP (c r a b d e : Int) : Bool := decide (a ≤ c) && decide (c ≤ d) && decide (b ≤ r) && decide (r ≤ e)
set_option maxRecDepth 100000 in
theorem within_ok (c r a b d e : Int) : APure Try.prog 77 [place c r, place a b, place d e] (vb (withinP c r a b d e)) := by
  refine apure_of Try.func77 Try.ntmps77 rfl ?_
  simp only [List.length_cons, List.length_nil, List.cons_append, List.nil_append, List.replicate]
  repeat' (first
    | refine aw_seq ?_
    | (refine aw_run [] ?_; try simp -implicitDefEqProofs (maxSteps := 1000000))
    | ((first | refine awl_skip' [] rfl ?_ | refine aw_skip ?_ | refine aw_exit ?_); try simp -implicitDefEqProofs (maxSteps := 1000000))
    | (refine aw_cond rfl (fun h => ?_) (fun h => ?_) <;> try (with_reducible first | exact ff_tt h | exact tt_ff h))
    | refine aw_block ?_
    | refine aw_ret (ret_of (.inr rfl) (by simp [Try.results77]; rfl) (Fin.of ?_))
    | refine ret_of (.inl rfl) (by simp [Try.results77]; rfl) (Fin.of ?_))
  simp [withinP]
def wholeP (a b c d : Int) : Bool := rightP a b && rightP c d && withinP a b a b c d
set_option maxRecDepth 100000 in
theorem whole_ok (a b c d : Int) : APure Try.prog 74 [range a b c d] (vb (wholeP a b c d)) := by
  refine apure_of Try.func74 Try.ntmps74 rfl ?_
  simp only [List.length_cons, List.length_nil, List.cons_append, List.nil_append, List.replicate]
  repeat' (first
    | refine aw_seq ?_
    | (refine aw_run [] ?_; try simp -implicitDefEqProofs (maxSteps := 1000000))
    | ((first | refine awl_skip' [] rfl ?_ | refine awl_pure_guard [] rfl rfl rfl (by first | assumption | kernel_rfl) rfl (fun hc => by first | exact right_ok _ _ | exact within_ok _ _ _ _ _ _) (by simp) (by simp) (by simp) ?_ | refine awl_pure' [] rfl rfl rfl (by first | assumption | kernel_rfl) rfl (by first | exact right_ok _ _ | exact within_ok _ _ _ _ _ _) (by simp) (by simp) ?_ | refine aw_skip ?_ | refine aw_exit ?_); try simp -implicitDefEqProofs (maxSteps := 1000000))
    | (refine aw_cond rfl (fun h => ?_) (fun h => ?_) <;> try (with_reducible first | exact ff_tt h | exact tt_ff h))
    | refine aw_block ?_
    | refine aw_ret (ret_of (.inr rfl) (by simp [Try.results74]; rfl) (Fin.of ?_))
    | refine ret_of (.inl rfl) (by simp [Try.results74]; rfl) (Fin.of ?_))
  simp [wholeP, tupOf]
def hasP (a b c d x y : Int) : Bool := wholeP a b c d && withinP x y a b c d
set_option maxRecDepth 100000 in
theorem has_ok (a b c d x y : Int) : APure Try.prog 51 [range a b c d, place x y] (vb (hasP a b c d x y)) := by
  refine apure_of Try.func51 Try.ntmps51 rfl ?_
  simp only [List.length_cons, List.length_nil, List.cons_append, List.nil_append, List.replicate]
  repeat' (first
    | refine aw_seq ?_
    | (refine aw_run [] ?_; try simp -implicitDefEqProofs (maxSteps := 1000000))
    | ((first | refine awl_skip' [] rfl ?_ | refine awl_pure_guard [] rfl rfl rfl (by first | assumption | kernel_rfl) rfl (fun hc => by first | exact whole_ok _ _ _ _ | exact within_ok _ _ _ _ _ _) (by simp) (by simp) (by simp) ?_ | refine awl_pure' [] rfl rfl rfl (by first | assumption | kernel_rfl) rfl (by first | exact whole_ok _ _ _ _ | exact within_ok _ _ _ _ _ _) (by simp) (by simp) ?_ | refine aw_skip ?_ | refine aw_exit ?_); try simp -implicitDefEqProofs (maxSteps := 1000000))
    | (refine aw_cond rfl (fun h => ?_) (fun h => ?_) <;> try (with_reducible first | exact ff_tt h | exact tt_ff h))
    | refine aw_block ?_
    | refine aw_ret (ret_of (.inr rfl) (by simp [Try.results51]; rfl) (Fin.of ?_))
    | refine ret_of (.inl rfl) (by simp [Try.results51]; rfl) (Fin.of ?_))
  simp [hasP, tupOf]
def meetP (a b c d e f g h : Int) : Bool := wholeP a b c d && wholeP e f g h && wholeP (max a e) (max b f) (min c g) (min d h)
end Go.AL
/-! Contracts: gridironref02, what has no loop. -/
namespace Go.AL
open Go.Proofs
set_option linter.unusedSimpArgs false
set_option linter.unusedVariables false
def rright (c r : Int) : Bool := decide (0 ≤ c) && decide (c ≤ 15) && decide (0 ≤ r) && decide (r ≤ 63)
theorem rright_eq (c r : Int) : rright c r = rightP c r := by unfold rright rightP; grind
set_option maxRecDepth 100000 in
theorem rright_ok (c r : Int) : APure Try.prog 55 [place c r] (vb (rightP c r)) := by
  rw [← rright_eq]
  refine apure_of Try.func55 Try.ntmps55 rfl ?_
  simp only [List.length_cons, List.length_nil, List.cons_append, List.nil_append, List.replicate]
  repeat' (first
    | refine aw_seq ?_
    | (refine aw_run [] ?_; try simp -implicitDefEqProofs (maxSteps := 1000000))
    | ((first | refine awl_skip' [] rfl ?_ | refine aw_skip ?_ | refine aw_exit ?_); try simp -implicitDefEqProofs (maxSteps := 1000000))
    | (refine aw_cond rfl (fun h => ?_) (fun h => ?_) <;> try (with_reducible first | exact ff_tt h | exact tt_ff h))
    | refine aw_block ?_
    | refine aw_ret (ret_of (.inr rfl) (by simp [Try.results55]; rfl) (Fin.of ?_))
    | refine ret_of (.inl rfl) (by simp [Try.results55]; rfl) (Fin.of ?_))
  simp [rright, tupOf]
set_option maxRecDepth 100000 in
theorem rindex_ok (c r : Int) : APure Try.prog 23 [place c r] (vi (if rightP c r then r * 16 + c else -1)) := by
  refine apure_of Try.func23 Try.ntmps23 rfl ?_
  simp only [List.length_cons, List.length_nil, List.cons_append, List.nil_append, List.replicate]
  repeat' (first
    | refine aw_seq ?_
    | (refine aw_run [] ?_; try simp -implicitDefEqProofs (maxSteps := 1000000))
    | ((first | refine awl_skip' [] rfl ?_ | refine awl_pure_guard [] rfl rfl rfl (by first | assumption | kernel_rfl) rfl (fun hc => by first | exact rright_ok _ _) (by simp) (by simp) (by simp) ?_ | refine awl_pure' [] rfl rfl rfl (by first | assumption | kernel_rfl) rfl (by first | exact rright_ok _ _) (by simp) (by simp) ?_ | refine aw_skip ?_ | refine aw_exit ?_); try simp -implicitDefEqProofs (maxSteps := 1000000))
    | (refine aw_cond rfl (fun h => ?_) (fun h => ?_) <;> try (with_reducible first | exact ff_tt h | exact tt_ff h))
    | refine aw_block ?_
    | refine aw_ret (ret_of (.inr rfl) (by simp [Try.results23]; rfl) (Fin.of ?_))
    | refine ret_of (.inl rfl) (by simp [Try.results23]; rfl) (Fin.of ?_))
  · simp_all [tupOf]
  · simp at h
    have h' := h
    simp [rightP] at h'
    simp [h, tupOf]
    rw [show 16 * r = r * 16 by omega, wmul (by omega) (by omega), wrap_id (by omega) (by omega)]
set_option maxRecDepth 100000 in
theorem rat_ok (i : Int) : APure Try.prog 49 [vi i] (.tup [place (atC i) (atR i), vb (decide (0 ≤ i ∧ i < 1024))]) := by
  refine apure_of Try.func49 Try.ntmps49 rfl ?_
  simp only [List.length_cons, List.length_nil, List.cons_append, List.nil_append, List.replicate]
  repeat' (first
    | refine aw_seq ?_
    | (refine aw_run [2] ?_; try simp -implicitDefEqProofs (maxSteps := 1000000))
    | ((first | refine awl_skip' [2] rfl ?_ | refine aw_skip ?_ | refine aw_exit ?_); try simp -implicitDefEqProofs (maxSteps := 1000000))
    | (refine aw_cond rfl (fun h => ?_) (fun h => ?_) <;> try (with_reducible first | exact ff_tt h | exact tt_ff h))
    | refine aw_block ?_
    | refine aw_ret (ret_of (.inr rfl) (by simp [Try.results49]; rfl) (Fin.of ?_))
    | refine ret_of (.inl rfl) (by simp [Try.results49]; rfl) (Fin.of ?_))
  · simp [tupOf] at h ⊢
    have : ¬ (0 ≤ i ∧ i < 1024) := by omega
    simp [atC, atR, this]
    omega
  · simp [tupOf] at h ⊢
    have h1 : 0 ≤ i ∧ i < 1024 := by omega
    rw [Int.tdiv_eq_ediv_of_nonneg h1.1, wrap_id (by omega) (by omega)]
    simp [atC, atR, h1, Int.tmod_eq_emod_of_nonneg h1.1]
def farP (n : Int) : Bool := decide (n < -64) || decide (64 < n)
set_option maxRecDepth 100000 in
theorem far_ok (n : Int) : APure Try.prog 104 [vi n] (vb (farP n)) := by
  refine apure_of Try.func104 Try.ntmps104 rfl ?_
  simp only [List.length_cons, List.length_nil, List.cons_append, List.nil_append, List.replicate]
  repeat' (first
    | refine aw_seq ?_
    | (refine aw_run [] ?_; try simp -implicitDefEqProofs (maxSteps := 1000000))
    | ((first | refine awl_skip' [] rfl ?_ | refine aw_skip ?_ | refine aw_exit ?_); try simp -implicitDefEqProofs (maxSteps := 1000000))
    | (refine aw_cond rfl (fun h => ?_) (fun h => ?_) <;> try (with_reducible first | exact ff_tt h | exact tt_ff h))
    | refine aw_block ?_
    | refine aw_ret (ret_of (.inr rfl) (by simp [Try.results104]; rfl) (Fin.of ?_))
    | refine ret_of (.inl rfl) (by simp [Try.results104]; rfl) (Fin.of ?_))
  simp [farP, tupOf]
def moveQ (c r bc br : Int) : Bool := rightP c r && rightP (c + bc) (r + br)
set_option maxRecDepth 100000 in
theorem rmove_ok (c r bc br : Int) : APure Try.prog 71 [place c r, place bc br] (.tup [place (z (moveQ c r bc br) (c + bc)) (z (moveQ c r bc br) (r + br)), vb (moveQ c r bc br)]) := by
  refine apure_of Try.func71 Try.ntmps71 rfl ?_
  simp only [List.length_cons, List.length_nil, List.cons_append, List.nil_append, List.replicate]
  repeat' (first
    | refine aw_seq ?_
    | (refine aw_run [4, 7] ?_; try simp -implicitDefEqProofs (maxSteps := 1000000))
    | ((first | refine awl_skip' [4, 7] rfl ?_ | refine awl_pure_guard [4, 7] rfl rfl rfl (by first | assumption | kernel_rfl) rfl (fun hc => by first | exact rright_ok _ _ | exact far_ok _) (by simp) (by simp) (by simp) ?_ | refine awl_pure' [4, 7] rfl rfl rfl (by first | assumption | kernel_rfl) rfl (by first | exact rright_ok _ _ | exact far_ok _) (by simp) (by simp) ?_ | refine aw_skip ?_ | refine aw_exit ?_); try simp -implicitDefEqProofs (maxSteps := 1000000))
    | (refine aw_cond rfl (fun h => ?_) (fun h => ?_) <;> try (with_reducible first | exact ff_tt h | exact tt_ff h))
    | refine aw_block ?_
    | refine aw_ret (ret_of (.inr rfl) (by simp [Try.results71]; rfl) (Fin.of ?_))
    | refine ret_of (.inl rfl) (by simp [Try.results71]; rfl) (Fin.of ?_))
  · have e : moveQ c r bc br = false := by
      simp only [moveQ]
      cases h1 : rightP c r with
      | false => rfl
      | true =>
        rw [Bool.eq_false_iff]
        intro h2
        simp [rightP] at h1 h2
        simp [farP, rightP, h1] at h
        omega
    simp [e, tupOf]
  · rename_i h0
    simp at h0 h
    have h1 := h0.1.1
    simp [rightP] at h1
    have f1 := h0.1.2
    have f2 := h0.2
    simp [farP] at f1 f2
    rw [wrap_id (by omega) (by omega), wrap_id (by omega) (by omega)] at h
    have e : moveQ c r bc br = false := by simp [moveQ, h]
    simp [e, tupOf]
  · rename_i h0
    simp at h0 h
    have h1 := h0.1.1
    have h1' := h1
    simp [rightP] at h1
    have f1 := h0.1.2
    have f2 := h0.2
    simp [farP] at f1 f2
    rw [wrap_id (by omega) (by omega), wrap_id (by omega) (by omega)] at h
    rw [wrap_id (by omega) (by omega), wrap_id (by omega) (by omega)]
    have e : moveQ c r bc br = true := by simp [moveQ, h, h1']
    simp [e, tupOf]
set_option maxRecDepth 100000 in
theorem rwhole_ok (a b c d : Int) : APure Try.prog 79 [range a b c d] (vb (wholeP a b c d)) := by
  refine apure_of Try.func79 Try.ntmps79 rfl ?_
  simp only [List.length_cons, List.length_nil, List.cons_append, List.nil_append, List.replicate]
  repeat' (first
    | refine aw_seq ?_
    | (refine aw_run [] ?_; try simp -implicitDefEqProofs (maxSteps := 1000000))
    | ((first | refine awl_skip' [] rfl ?_ | refine awl_pure_guard [] rfl rfl rfl (by first | assumption | kernel_rfl) rfl (fun hc => by first | exact rright_ok _ _) (by simp) (by simp) (by simp) ?_ | refine awl_pure' [] rfl rfl rfl (by first | assumption | kernel_rfl) rfl (by first | exact rright_ok _ _) (by simp) (by simp) ?_ | refine aw_skip ?_ | refine aw_exit ?_); try simp -implicitDefEqProofs (maxSteps := 1000000))
    | (refine aw_cond rfl (fun h => ?_) (fun h => ?_) <;> try (with_reducible first | exact ff_tt h | exact tt_ff h))
    | refine aw_block ?_
    | refine aw_ret (ret_of (.inr rfl) (by simp [Try.results79]; rfl) (Fin.of ?_))
    | refine ret_of (.inl rfl) (by simp [Try.results79]; rfl) (Fin.of ?_))
  simp [wholeP, withinP, tupOf]
  all_goals grind
set_option maxRecDepth 100000 in
theorem rhas_ok (a b c d x y : Int) : APure Try.prog 76 [range a b c d, place x y] (vb (hasP a b c d x y)) := by
  refine apure_of Try.func76 Try.ntmps76 rfl ?_
  simp only [List.length_cons, List.length_nil, List.cons_append, List.nil_append, List.replicate]
  repeat' (first
    | refine aw_seq ?_
    | (refine aw_run [] ?_; try simp -implicitDefEqProofs (maxSteps := 1000000))
    | ((first | refine awl_skip' [] rfl ?_ | refine awl_pure_guard [] rfl rfl rfl (by first | assumption | kernel_rfl) rfl (fun hc => by first | exact rwhole_ok _ _ _ _) (by simp) (by simp) (by simp) ?_ | refine awl_pure' [] rfl rfl rfl (by first | assumption | kernel_rfl) rfl (by first | exact rwhole_ok _ _ _ _) (by simp) (by simp) ?_ | refine aw_skip ?_ | refine aw_exit ?_); try simp -implicitDefEqProofs (maxSteps := 1000000))
    | (refine aw_cond rfl (fun h => ?_) (fun h => ?_) <;> try (with_reducible first | exact ff_tt h | exact tt_ff h))
    | refine aw_block ?_
    | refine aw_ret (ret_of (.inr rfl) (by simp [Try.results76]; rfl) (Fin.of ?_))
    | refine ret_of (.inl rfl) (by simp [Try.results76]; rfl) (Fin.of ?_))
  simp [hasP, withinP, tupOf]
  all_goals grind
set_option maxRecDepth 100000 in
theorem rspan_ok (a b c d : Int) : APure Try.prog 172 [place a b, place c d] (.tup [range (z (spanP a b c d) (min a c)) (z (spanP a b c d) (min b d)) (z (spanP a b c d) (max a c)) (z (spanP a b c d) (max b d)), vb (spanP a b c d)]) := by
  refine apure_of Try.func172 Try.ntmps172 rfl ?_
  simp only [List.length_cons, List.length_nil, List.cons_append, List.nil_append, List.replicate]
  repeat' (first
    | refine aw_seq ?_
    | (refine aw_run [4] ?_; try simp -implicitDefEqProofs (maxSteps := 1000000))
    | ((first | refine awl_skip' [4] rfl ?_ | refine awl_pure_guard [4] rfl rfl rfl (by first | assumption | kernel_rfl) rfl (fun hc => by first | exact rright_ok _ _) (by simp) (by simp) (by simp) ?_ | refine awl_pure' [4] rfl rfl rfl (by first | assumption | kernel_rfl) rfl (by first | exact rright_ok _ _) (by simp) (by simp) ?_ | refine aw_skip ?_ | refine aw_exit ?_); try simp -implicitDefEqProofs (maxSteps := 1000000))
    | (refine aw_cond rfl (fun h => ?_) (fun h => ?_) <;> try (with_reducible first | exact ff_tt h | exact tt_ff h))
    | refine aw_block ?_
    | refine aw_ret (ret_of (.inr rfl) (by simp [Try.results172]; rfl) (Fin.of ?_))
    | refine ret_of (.inl rfl) (by simp [Try.results172]; rfl) (Fin.of ?_))
  · have h' : spanP a b c d = false := by simp [spanP] at h ⊢; grind
    simp [h', tupOf]
  · have h' : spanP a b c d = true := by simp [spanP] at h ⊢; exact h
    simp [h', tupOf, mn, mx]
end Go.AL
/-! Contracts: gridironref02's lists. -/
namespace Go.AL
open Go.Proofs
set_option linter.unusedSimpArgs false
set_option linter.unusedVariables false
def pl (p : Int × Int) : AV := place p.1 p.2
/-- The places of the first n indexes that a range has. -/
def cellsN (a b c d : Int) (n : Nat) : List (Int × Int) := ((List.range n).filter fun i : Nat => hasP a b c d (atC (i : Int)) (atR (i : Int))).map fun i : Nat => (atC (i : Int), atR (i : Int))
theorem cellsN_succ (a b c d : Int) (n : Nat) : cellsN a b c d (n + 1) = cellsN a b c d n ++ (if hasP a b c d (atC n) (atR n) = true then [(atC n, atR n)] else []) := by
  unfold cellsN
  rw [List.range_succ, List.filter_append, List.map_append]
  congr 1
  by_cases h : hasP a b c d (atC n) (atR n) = true <;> simp [h]
theorem cellsN_len (a b c d : Int) (n : Nat) : (cellsN a b c d n).length ≤ n := by
  unfold cellsN
  rw [List.length_map]
  exact Nat.le_trans (List.length_filter_le _ _) (by simp)
def cellsL (a b c d : Int) : List (Int × Int) := cellsN a b c d 1024
set_option maxRecDepth 100000 in
theorem rcells_ok (a b c d : Int) : APure Try.prog 86 [range a b c d] (.vsl ((cellsL a b c d).map pl)) := by
  refine apure_of Try.func86 Try.ntmps86 rfl ?_
  simp only [List.length_cons, List.length_nil, List.cons_append, List.nil_append, List.replicate]
  refine aw_seq (aw_run [5] ?_)
  simp -implicitDefEqProofs
  refine aw_seq (aw_run [5] ?_)
  simp -implicitDefEqProofs
  refine aw_seq (aw_seq (aw_run [5] ?_))
  simp -implicitDefEqProofs
  refine aw_block (aw_open (i := 3) rfl ?_)
  refine aw_loopW [1, 3, 4] (fun n fr σ => ∃ k m i, i + n = 1024 ∧ k < m ∧ σ = oneSl k ((cellsN a b c d i).map pl) m ∧ fr = frm 26 [(1, .vel [range a b c d] 0 0), (3, .hsl k 0 (cellsN a b c d i).length), (4, vi (i : Nat))]) 1024 ?_ ?_
  · refine ⟨oneSl 0 [] 1, le_oneSl rfl (by decide), 0, 1, 0, rfl, by decide, by simp [cellsN], ?_⟩
    simp [cellsN, σ0]
  · rintro n fr σ ⟨k, m, i, hi, hkm, rfl, rfl⟩
    simp
    refine aw_seq (aw_seq (aw_run [5] ?_))
    simp -implicitDefEqProofs
    have hlen := cellsN_len a b c d i
    refine aw_cond rfl (fun h => aw_skip ?_) (fun h => aw_exit ?_)
    · have hlt : i < 1024 := by simp at h; omega
      have hnx : IntKind.i64.wrap ((i : Int) + 1) = ((i + 1 : Nat) : Int) := by rw [wrap_id (by omega) (by omega)]; simp
      simp -implicitDefEqProofs
      repeat' (first
        | refine aw_seq ?_
        | (refine aw_run [5] ?_; try simp -implicitDefEqProofs (maxSteps := 1000000))
        | ((first | refine awl_skip' [5] rfl ?_ | refine awl_pure_guard [5] rfl rfl rfl (by first | assumption | kernel_rfl) rfl (fun hc => by first | exact rat_ok _ | exact rhas_ok _ _ _ _ _ _) (by simp) (by simp) (by simp) ?_ | refine awl_pure' [5] rfl rfl rfl (by first | assumption | kernel_rfl) rfl (by first | exact rat_ok _ | exact rhas_ok _ _ _ _ _ _) (by simp) (by simp) ?_ | refine aw_skip ?_ | refine aw_exit ?_); try simp -implicitDefEqProofs (maxSteps := 1000000))
        | (refine aw_cond rfl (fun h => ?_) (fun h => ?_) <;> try (with_reducible first | exact ff_tt h | exact tt_ff h))
        | refine aw_block ?_
        | refine aw_ret (ret_of (.inr rfl) (by simp [Try.results86]; rfl) (Fin.of ?_))
        | refine ret_of (.inl rfl) (by simp [Try.results86]; rfl) (Fin.of ?_))
      · refine awl_append [5] rfl rfl rfl (xs := (cellsN a b c d i).map pl) (by simp) (by simp) rfl (by simp) te37 tet37 tz24 rfl ?_ (by simp) (by simp; omega) (by simp; omega) ?_
        · intro y hy
          simp at hy
          obtain ⟨_, _, _, rfl⟩ := hy
          rfl
        simp -implicitDefEqProofs
        repeat' (first
          | refine aw_seq ?_
          | (refine aw_run [5] ?_; try simp -implicitDefEqProofs (maxSteps := 1000000))
          | ((first | refine awl_skip' [5] rfl ?_ | refine aw_skip ?_ | refine aw_exit ?_); try simp -implicitDefEqProofs (maxSteps := 1000000))
          | (refine aw_cond rfl (fun h => ?_) (fun h => ?_) <;> try (with_reducible first | exact ff_tt h | exact tt_ff h))
          | refine aw_block ?_
          | refine aw_ret (ret_of (.inr rfl) (by simp [Try.results86]; rfl) (Fin.of ?_))
          | refine ret_of (.inl rfl) (by simp [Try.results86]; rfl) (Fin.of ?_))
        refine ⟨n - 1, by omega, _, le_oneSl (k := m + 1) (xs := (((cellsN a b c d i).map pl).take (cellsN a b c d i).length) ++ [pl (atC i, atR i)]) (n := m + 2) (by simp [pl]) (Nat.le_refl _), m + 1, m + 2, i + 1, by omega, by omega, ?_, ?_⟩
        · rw [cellsN_succ, if_pos h, List.map_append, List.take_of_length_le (by simp)]; rfl
        · rw [cellsN_succ, if_pos h]
          simp [hnx]
      · refine ⟨n - 1, by omega, _, le_oneSl (k := k) (xs := (cellsN a b c d i).map pl) (n := m + 1) (by simp) (Nat.le_refl _), k, m + 1, i + 1, by omega, by omega, ?_, ?_⟩
        · rw [cellsN_succ, if_neg (by simp [h]), List.append_nil]
        · rw [cellsN_succ, if_neg (by simp [h]), List.append_nil]
          simp [hnx]
    · have : i = 1024 := by simp at h; omega
      subst this
      simp -implicitDefEqProofs
      refine aw_freeze (b := k) (xs := (cellsN a b c d 1024).map pl) (by simp) ?_
      simp [frz, frz1, frz0]
      repeat' (first
        | refine aw_seq ?_
        | (refine aw_run [5] ?_; try simp -implicitDefEqProofs (maxSteps := 1000000))
        | ((first | refine awl_skip' [5] rfl ?_ | refine aw_skip ?_ | refine aw_exit ?_); try simp -implicitDefEqProofs (maxSteps := 1000000))
        | (refine aw_cond rfl (fun h => ?_) (fun h => ?_) <;> try (with_reducible first | exact ff_tt h | exact tt_ff h))
        | refine aw_block ?_
        | refine aw_ret (ret_of (.inr rfl) (by simp [Try.results86]; rfl) (Fin.of ?_))
        | refine ret_of (.inl rfl) (by simp [Try.results86]; rfl) (Fin.of ?_))
      simp [tupOf, cellsL, List.take_of_length_le]
end Go.AL
