/- Parts of the proof of ArenaStays: the logic, contracts, plain laws. -/
import Derived.Test.YtofopejmidlceaaDoorZArenaStays12
import Derived.Test.YtofopejmidlceaaDoorZArenaStays11
import Derived.Shelf.Strings.Builder1
import Derived.Shelf.Strings.Builder2
import Derived.Shelf.Strings.OnBuilder
import Derived.Shelf.Strconv.Itoa0
import Derived.Shelf.Strconv.Itoa1
import Derived.Shelf.LaysM
import Derived.Shelf.Strconv.Itoa2
import Derived.Shelf.Strconv.Itoa3
import Derived.Ground.SlgmProg
import Derived.Shelf.SortM.Plain
import Derived.Shelf.SortM.SortNone
import Derived.Test.YtofopejmidlceaaDoorProg
import Derived.Lib.ItoaLen
import Derived.Sort.Grow
import Derived.Lib.Join
import Derived.Laws.BytesArg
import Derived.Lib.ConvBytes
import Derived.Test.YtofopejmidlceaaDoorZArenaStays9
/-! A slice of one's own that also stands in a variable, closed. -/
namespace Go.AL
set_option linter.unusedVariables false
set_option linter.unusedSimpArgs false
variable {P : Program} {σ : ASt} {R : AV → ASt → Prop} {D : List Deferred} {Q : Exit → List AV → ASt → Prop} {fr : List AV} {ops : Array Oper} {o : Oper} {rest : List Oper}
def ASt.setBx (σ : ASt) (b : Nat) (cs : List AV) : ASt := { σ with bx := upd σ.bx b (some cs) }
theorem SimW.setBx {G w} {b : Nat} {cs cs' : List AV} (h : SimW G σ w) (hb : σ.bx b = some cs) (hok : BxOK G w b cs') : SimW G (σ.setBx b cs') w := by
  have hown : ∀ γ k, Owns G (σ.setBx b cs') γ k → Owns G σ γ k := by
    intro γ k hk
    cases hk with
    | bx b' β' cs2 h2 g2 =>
      by_cases e : b' = b
      · subst e; exact .bx _ _ cs hb g2
      · have : σ.bx b' = some cs2 := by simpa [ASt.setBx, upd, e] using h2
        exact .bx _ _ cs2 this g2
    | mp b' β' cs2 h2 g2 => exact .mp _ _ cs2 h2 g2
    | sl b' β' r cs2 h2 g2 => exact .sl _ _ r cs2 h2 g2
  refine ⟨h.base, fun b' cs2 e => ?_, h.mp, h.sl, fun γ k hk => ?_, h.stIn, fun b' hb' => ?_⟩
  · by_cases e1 : b' = b
    · subst e1
      obtain rfl : cs' = cs2 := by simpa [ASt.setBx, upd] using e
      exact hok
    · exact h.bx b' cs2 (by simpa [ASt.setBx, upd, e1] using e)
  · obtain ⟨a1, a2, a3⟩ := h.own γ k (hown γ k hk)
    exact ⟨a1, fun k' hk' => a2 k' (hown _ _ hk'), a3⟩
  · obtain ⟨a1, a2, a3, a4, a5, a6⟩ := h.fresh b' hb'
    refine ⟨a1, a2, a3, ?_, a5, a6⟩
    by_cases e1 : b' = b
    · subst e1; rw [a4] at hb; cases hb
    · simpa [ASt.setBx, upd, e1] using a4
theorem SimW.freezeX {G w} {b b0 : Nat} {xs cs : List AV} (h : SimW G σ w) (hb : σ.sl b = some xs) (hx : σ.bx b0 = some cs) : ∃ G', Le G w G' w ∧ SimW G' ((σ.dropSl b).setBx b0 (cs.map (frz b xs))) w ∧ ∀ v u, Rep G w v u → Rep G' w (frz b xs v) u := by
  obtain ⟨G', h1, h2, h3⟩ := h.freeze hb
  refine ⟨G', h1, h2.setBx (cs := cs) hx ?_, h3⟩
  obtain ⟨β, arr, el, k1, k2, k3, k4⟩ := h.bx b0 cs hx
  refine ⟨β, arr, el, h1.bx _ _ k1, k2, by simpa using k3, fun i c v a e => ?_⟩
  rw [List.getElem?_map] at a
  obtain ⟨c', hc', rfl⟩ := Option.map_eq_some_iff.1 a
  exact h3 _ _ (k4 i c' v hc' e)
theorem Sim.freezeX {G a w} {b b0 : Nat} {xs cs : List AV} (hs : Sim G fr σ D a w) (hb : σ.sl b = some xs) (hx : σ.bx b0 = some cs) : ∃ G', Le G w G' w ∧ Sim G' (fr.map (frz b xs)) ((σ.dropSl b).setBx b0 (cs.map (frz b xs))) D a w := by
  obtain ⟨G', h1, h2, h3⟩ := hs.w.freezeX hb hx
  refine ⟨G', h1, ⟨by simpa using hs.tmps.1, fun i c v hc hv => ?_⟩, hs.defers.mono h1, h2⟩
  rw [List.getElem?_map] at hc
  obtain ⟨c', hc', rfl⟩ := Option.map_eq_some_iff.1 hc
  exact h3 _ _ (hs.tmps.2 i c' v hc' hv)
theorem aw_freezeX {c : Code} {b b0 : Nat} {xs cs : List AV} (hb : σ.sl b = some xs) (hx : σ.bx b0 = some cs) (h : AW P D c Q (fr.map (frz b xs)) ((σ.dropSl b).setBx b0 (cs.map (frz b xs)))) : AW P D c Q fr σ := by
  intro _ _ G a w hs
  obtain ⟨G', h1, h2⟩ := hs.freezeX hb hx
  exact wp_mono (h _ inferInstance G' a w h2) fun e a w h => lift_le h1 h
end Go.AL
/-! A map, opened: its entries' stamps; entries that are made, and filled later. -/
namespace Go.AL
set_option linter.unusedVariables false
set_option linter.unusedSimpArgs false
variable {P : Program} {σ : ASt} {R : AV → ASt → Prop} {D : List Deferred} {Q : Exit → List AV → ASt → Prop} {fr : List AV} {ops : Array Oper} {o : Oper} {rest : List Oper} {ρ : Operand → AV}
def stE (st : List Nat) (c : Nat) : Obj := .map (st.map fun b => (⟨.bool false, .bool false, b⟩ : MapEntry)).toArray c
def flE (es : List (AV × AV)) : List AV := es.flatMap fun p => [p.1, p.2]
def flV (ents : List MapEntry) : List Value := ents.flatMap fun e => [e.key, e.val]
/-- A map's entries, with their stamps. -/
def opE (st : List Nat) (c : Nat) (es : List (AV × AV)) : List (AV × AV) := obE (stE st c) (flE es)
theorem repL_tail2 {G : Ghost} {w : World} {a b : AV} {l : List AV} {u v : Value} {m : List Value} : RepL G w (a :: b :: l) (u :: v :: m) ↔ Rep G w a u ∧ Rep G w b v ∧ RepL G w l m := by
  constructor
  · rintro ⟨h1, h2⟩
    refine ⟨h2 0 a u rfl rfl, h2 1 b v rfl rfl, by simpa using h1, fun i c x hc hx => h2 (i + 2) c x (by simpa using hc) (by simpa using hx)⟩
  · rintro ⟨h1, h2, h3, h4⟩
    refine ⟨by simpa using h3, fun i c x hc hx => ?_⟩
    match i, hc, hx with
    | 0, hc, hx => cases hc; cases hx; exact h1
    | 1, hc, hx => cases hc; cases hx; exact h2
    | i + 2, hc, hx => exact h4 i c x (by simpa using hc) (by simpa using hx)
theorem fl_rep {G : Ghost} {w : World} : ∀ (es : List (AV × AV)) (ents : List MapEntry), RepL G w (flE es) (flV ents) ↔ es.length = ents.length ∧ ∀ (i : Nat) k x (e : MapEntry), es[i]? = some (k, x) → ents[i]? = some e → Rep G w k e.key ∧ Rep G w x e.val
  | [], [] => ⟨fun _ => ⟨rfl, by simp⟩, fun _ => ⟨rfl, by simp [flE]⟩⟩
  | [], e :: ents => ⟨fun h => by have := h.1; simp [flE, flV] at this, fun h => by cases h.1⟩
  | p :: es, [] => ⟨fun h => by have := h.1; simp [flE, flV] at this, fun h => by cases h.1⟩
  | (k0, x0) :: es, e0 :: ents => by
    have ih := fl_rep es ents (G := G) (w := w)
    have e1 : flE ((k0, x0) :: es) = k0 :: x0 :: flE es := rfl
    have e2 : flV (e0 :: ents) = e0.key :: e0.val :: flV ents := rfl
    rw [e1, e2, repL_tail2, ih]
    constructor
    · rintro ⟨h1, h2, h3, h4⟩
      refine ⟨by simp [h3], fun i k x e hi he => ?_⟩
      cases i with
      | zero => cases hi; cases he; exact ⟨h1, h2⟩
      | succ i => exact h4 i k x e (by simpa using hi) (by simpa using he)
    · rintro ⟨h1, h2⟩
      have h0 := h2 0 k0 x0 e0 rfl rfl
      exact ⟨h0.1, h0.2, by simpa using h1, fun i k x e hi he => h2 (i + 1) k x e (by simpa using hi) (by simpa using he)⟩
theorem stE_er (ents : Array MapEntry) (c : Nat) : erO (.map ents c) = stE (ents.toList.map (·.born)) c := by
  unfold stE
  simp only [erO, Obj.map.injEq, and_true]
  apply Array.ext'
  simp [erM, Function.comp_def]
theorem stE_inj {st st' : List Nat} {c c' : Nat} (h : stE st c = stE st' c') : st = st' ∧ c = c' := by
  unfold stE at h
  simp only [Obj.map.injEq] at h
  refine ⟨?_, h.2⟩
  have := congrArg (fun a : Array MapEntry => a.toList.map (·.born)) h.1
  simpa [Function.comp_def] using this
theorem op_real {G : Ghost} {w : World} {b : Nat} {st : List Nat} {c : Nat} {es : List (AV × AV)} (h : MpOK G w b (opE st c es)) : ∃ μ ents, G.mp b = some μ ∧ w.heap[μ]? = some (.map ents c) ∧ ents.toList.map (·.born) = st ∧ es.length = ents.toList.length ∧
    ∀ (i : Nat) k x (e : MapEntry), es[i]? = some (k, x) → ents.toList[i]? = some e → Rep G w k e.key ∧ Rep G w x e.val := by
  obtain ⟨μ, o', g, hh, hr, he⟩ := mp_ob h
  cases o' with
  | map ents c' =>
    rw [stE_er] at he
    obtain ⟨h1, rfl⟩ := stE_inj he
    have hr : RepL G w (flE es) (flV ents.toList) := hr
    rw [fl_rep] at hr
    exact ⟨μ, ents, g, hh, h1, hr.1, hr.2⟩
  | _ => simp [erO, stE] at he
theorem op_mk {G : Ghost} {w : World} {b μ : Nat} {ents : Array MapEntry} {c : Nat} {es : List (AV × AV)} (g : G.mp b = some μ) (hh : w.heap[μ]? = some (.map ents c)) (hl : es.length = ents.toList.length)
    (hr : ∀ (i : Nat) k x (e : MapEntry), es[i]? = some (k, x) → ents.toList[i]? = some e → Rep G w k e.key ∧ Rep G w x e.val) : MpOK G w b (opE (ents.toList.map (·.born)) c es) :=
  .inr ⟨μ, .map ents c, flE es, g, hh, (fl_rep es ents.toList).2 ⟨hl, hr⟩, by rw [stE_er]; rfl⟩
def ASt.setMp (σ : ASt) (b : Nat) (es : List (AV × AV)) : ASt := { σ with mp := upd σ.mp b (some es) }
theorem SimW.setMp {G w} {b : Nat} {es es' : List (AV × AV)} (h : SimW G σ w) (hb : σ.mp b = some es) (hok : MpOK G w b es') : SimW G (σ.setMp b es') w := by
  have hown : ∀ γ k, Owns G (σ.setMp b es') γ k → Owns G σ γ k := by
    intro γ k hk
    cases hk with
    | bx b' β' cs2 h2 g2 => exact .bx _ _ cs2 h2 g2
    | mp b' β' cs2 h2 g2 =>
      by_cases e : b' = b
      · subst e; exact .mp _ _ es hb g2
      · have : σ.mp b' = some cs2 := by simpa [ASt.setMp, upd, e] using h2
        exact .mp _ _ cs2 this g2
    | sl b' β' r cs2 h2 g2 => exact .sl _ _ r cs2 h2 g2
  refine ⟨h.base, h.bx, fun b' cs2 e => ?_, h.sl, fun γ k hk => ?_, h.stIn, fun b' hb' => ?_⟩
  · by_cases e1 : b' = b
    · subst e1
      obtain rfl : es' = cs2 := by simpa [ASt.setMp, upd] using e
      exact hok
    · exact h.mp b' cs2 (by simpa [ASt.setMp, upd, e1] using e)
  · obtain ⟨a1, a2, a3⟩ := h.own γ k (hown γ k hk)
    exact ⟨a1, fun k' hk' => a2 k' (hown _ _ hk'), a3⟩
  · obtain ⟨a1, a2, a3, a4, a5, a6⟩ := h.fresh b' hb'
    refine ⟨a1, a2, a3, a4, ?_, a6⟩
    by_cases e1 : b' = b
    · subst e1; rw [a5] at hb; cases hb
    · simpa [ASt.setMp, upd, e1] using a5
/-- Its stamps, whatever they are. -/
theorem aw_openM {c : Code} {b : Nat} {es : List (AV × AV)} (hb : σ.mp b = some es) (hn : ∀ p ∈ es, p.1 ≠ noV) (h : ∀ (st : List Nat) (k : Nat), st.length = es.length → (∀ s ∈ st, s < k) → st.Nodup → AW P D c Q fr (σ.setMp b (opE st k es))) : AW P D c Q fr σ := by
  intro r1 r2 G a w hs
  obtain ⟨μ, ents, clock, g1, g2, g3, g4, g5⟩ := mp_real (hs.w.mp b es hb) hn
  have hlt : ∀ e ∈ ents.toList, e.born < clock := fun e he => by
    obtain ⟨i, hi⟩ := List.getElem?_of_mem he
    have hi' : ents[i]? = some e := by simpa using hi
    have hil : i < es.length := by have := (Array.getElem?_eq_some_iff.1 hi').1; omega
    exact (g4 i es[i].1 es[i].2 e (by rw [List.getElem?_eq_getElem hil]) hi').2.2
  refine h (ents.toList.map (·.born)) clock (by simp [g3]) (fun s hs => by
    obtain ⟨e, he, rfl⟩ := List.mem_map.1 hs
    exact hlt e he) ?_ r1 r2 G a w ⟨hs.tmps, hs.defers, hs.w.setMp hb (op_mk g1 g2 (by simp [g3]) fun i k x e a b => ⟨(g4 i k x e a (by simpa using b)).1, (g4 i k x e a (by simpa using b)).2.1⟩)⟩
  rw [List.nodup_iff_pairwise_ne, List.pairwise_iff_getElem]
  intro i j hi hj hij he
  have hi' : i < ents.size := by simpa using hi
  have hj' : j < ents.size := by simpa using hj
  have h1 : ents[i]? = some ents[i] := Array.getElem?_eq_getElem hi'
  have h2 : ents[j]? = some ents[j] := Array.getElem?_eq_getElem hj'
  have := g5 i j _ _ h1 h2 (by simpa using he)
  omega
/-- A new entry is made, without a value yet. -/
theorem opq_mapEntryO {t : TypeId} {m k : Operand} (ho : o.op = .mapEntry t m k) {d : TypeDesc} {el : TypeId} (ht : tmap P t = some (d, el)) {b : Nat} (hm : ρ m = .map b) {st : List Nat} {c : Nat} {es : List (AV × AV)} (hb : σ.mp b = some (opE st c es)) {kv : Value} (hk : ρ k = .p kv)
    (hf : amfind d (.p kv) es 0 = some none) {z : AV} (hz : tzero P el = some z) (hr : R (.tup [z, .p (.int .i64 c)]) (σ.setMp b (opE (st ++ [c]) (c + 1) (es ++ [(.p kv, z)])))) : OpQ P o ρ σ R := by
  obtain ⟨kt, u1, u2, u3⟩ := tmap_spec ht
  intro G e w he hw
  have hm' := he m
  rw [hm] at hm'
  have hk' := he k
  rw [hk] at hk'
  obtain ⟨μ, ents, g1, g2, g3, g4, g5⟩ := op_real (hw.mp b _ hb)
  generalize hem : e m = vm at hm'
  generalize hek : e k = vk at hk'
  cases hk'
  obtain ⟨μ', rfl, g⟩ : ∃ μ', vm = .map (some μ') ∧ G.mp b = some μ' := by cases hm'; exact ⟨_, rfl, by assumption⟩
  obtain rfl := Option.some.inj (g.symm.trans g1)
  have hfn := findNow_spec (G := G) (w := w) es ents.toList 0 none g4 g5 hf
  obtain ⟨i, v, z1, z2, rfl⟩ := tzero_spec hz
  obtain ⟨w', hset, htouch, hh⟩ := run_setObj (P := P) (o' := .map (ents.push { key := kv, val := v, born := c }) (c + 1)) g2
  have run : (execOp e o).run P w = .ok (.value (.tuple #[v, .int .i64 c])) w' := by
    simp [execOp, ho, Instr.mapEntry, run_underlying' u1, hem, hek, run_getObj_map g2, run_checkKey u2 u3, run_findKey u2 hfn, run_zeroValue' z1 z2, hset, goInt]
  rw [run]
  have hown : Owns G σ μ' (1, b) := .mp b μ' _ hb g
  have hl := Le.touch hw hown htouch
  refine ⟨_, G, _, hl, hw.touch_mp hb g htouch (fun hl => ?_), .tup _ _ rfl fun i x u hx hu => ?_, hr⟩
  · have := op_mk (G := G) (w := w') (es := es ++ [(.p kv, ofV v)]) g hh (by simp [g4]) (fun i k x e a b => by
      rw [Array.toList_push, List.getElem?_append] at b
      rw [List.getElem?_append, g4] at a
      split at b
      · rename_i hi
        rw [if_pos hi] at a
        exact ⟨((g5 i k x e a b).1).mono hl, ((g5 i k x e a b).2).mono hl⟩
      · rename_i hi
        rw [if_neg hi] at a
        have h0 : i - ents.toList.length = 0 := by
          have := (List.getElem?_eq_some_iff.1 b).1
          simp at this ⊢; omega
        rw [h0] at a b
        cases a; cases b
        exact ⟨.p _, rep_ofV _ _ _⟩)
    have e1 : (ents.push { key := kv, val := v, born := c }).toList.map (·.born) = st ++ [c] := by rw [Array.toList_push, List.map_append, g3]; rfl
    rw [e1] at this
    exact this
  · match i, hx, hu with
    | 0, hx, hu => cases hx; cases hu; exact rep_ofV _ _ _
    | 1, hx, hu => cases hx; cases hu; exact .p _
/-- It is filled; the map is as any other again. -/
theorem opq_entryStoreO {t : TypeId} {m s x : Operand} (ho : o.op = .entryStore t m s x) {b : Nat} (hm : ρ m = .map b) {st : List Nat} {c : Nat} {es : List (AV × AV)} {k y : AV} (hb : σ.mp b = some (opE (st ++ [c]) (c + 1) (es ++ [(k, y)]))) (hs : ρ s = .p (.int .i64 c)) (hlt : ∀ q ∈ st, q < c) (hnd : st.Nodup)
    (hr : R (.p undef) (σ.setMp b (es ++ [(k, ρ x)]))) : OpQ P o ρ σ R := by
  intro G e w he hw
  have hm' := he m
  rw [hm] at hm'
  have hs' := he s
  rw [hs] at hs'
  have hx' := he x
  obtain ⟨μ, ents, g1, g2, g3, g4, g5⟩ := op_real (hw.mp b _ hb)
  generalize hem : e m = vm at hm'
  generalize hes : e s = vs at hs'
  generalize hex : e x = vx at hx'
  cases hs'
  obtain ⟨μ', rfl, g⟩ : ∃ μ', vm = .map (some μ') ∧ G.mp b = some μ' := by cases hm'; exact ⟨_, rfl, by assumption⟩
  obtain rfl := Option.some.inj (g.symm.trans g1)
  have hsl : st.length = es.length := by
    have h1 := congrArg List.length g3
    simp at h1 g4; omega
  have hsz : ents.size = es.length + 1 := by simp at g4; omega
  have hborn : ∀ (i : Nat) (e : MapEntry), ents[i]? = some e → (st ++ [c])[i]? = some e.born := fun i e h => by
    rw [← g3, List.getElem?_map]
    have : ents.toList[i]? = some e := by simpa using h
    rw [this]; rfl
  have hidx : ents.findIdx? (fun e => (e.born : Int) == (c : Int)) = some es.length := by
    rw [Array.findIdx?_eq_some_iff_getElem]
    refine ⟨by omega, ?_, fun j hj => ?_⟩
    · obtain ⟨e0, he0⟩ : ∃ e0, ents[es.length] = e0 := ⟨_, rfl⟩
      have := hborn es.length e0 (by rw [← he0]; exact Array.getElem?_eq_getElem (by omega))
      rw [← hsl, List.getElem?_append_right (Nat.le_refl _)] at this
      simp at this
      rw [he0, ← this]; simp
    · have h1 := hborn j _ (Array.getElem?_eq_getElem (by omega))
      rw [List.getElem?_append_left (by omega)] at h1
      have := hlt _ (List.mem_of_getElem? h1)
      simp; omega
  obtain ⟨w', hset, htouch, hh⟩ := run_setObj (P := P) (o' := .map (ents.modify es.length fun e => { e with val := vx }) (c + 1)) g2
  have run : (execOp e o).run P w = .ok .skip w' := by
    simp [execOp, ho, Instr.entryStore, hem, hes, hex, run_getObj_map g2, asInt, asIntOf, hidx, hset]
  rw [run]
  have hown : Owns G σ μ' (1, b) := .mp b μ' _ hb g
  have hl := Le.touch hw hown htouch
  refine ⟨_, G, _, hl, hw.touch_mp hb g htouch (fun hl => .inl ⟨μ', _, _, g, hh, by simp [hsz], fun i k' x' e' a c' => ?_, fun i j e1 e2 h1 h2 h3 => ?_⟩), .p _, hr⟩
  · rw [Array.getElem?_modify] at c'
    split at c'
    · rename_i hi
      subst hi
      obtain ⟨e0, h0, rfl⟩ := Option.map_eq_some_iff.1 c'
      rw [List.getElem?_append_right (Nat.le_refl _)] at a
      simp at a
      obtain ⟨rfl, rfl⟩ := a
      have hq := g5 es.length k y e0 (by rw [List.getElem?_append_right (Nat.le_refl _)]; simp) (by simpa using h0)
      have hbn := hborn _ _ h0
      rw [← hsl, List.getElem?_append_right (Nat.le_refl _)] at hbn
      simp at hbn
      exact ⟨hq.1.mono hl, hx'.mono hl, by simp [← hbn]⟩
    · rename_i hi
      have hil : i < es.length := by
        have := (Array.getElem?_eq_some_iff.1 c').1
        omega
      rw [List.getElem?_append_left hil] at a
      have hq := g5 i k' x' e' (by rw [List.getElem?_append_left hil]; exact a) (by simpa using c')
      have hbn := hborn _ _ c'
      rw [List.getElem?_append_left (by omega)] at hbn
      have := hlt _ (List.mem_of_getElem? hbn)
      exact ⟨hq.1.mono hl, hq.2.mono hl, by omega⟩
  · have old : ∀ (i : Nat) (e : MapEntry), (ents.modify es.length fun e => { e with val := vx })[i]? = some e → (st ++ [c])[i]? = some e.born := fun i e h => by
      rw [Array.getElem?_modify] at h
      split at h
      · obtain ⟨e0, h0, rfl⟩ := Option.map_eq_some_iff.1 h
        exact hborn i e0 h0
      · exact hborn i e h
    have q1 := old i e1 h1
    have q2 := old j e2 h2
    rw [h3] at q1
    have hn2 : (st ++ [c]).Nodup := by
      rw [List.nodup_append]
      refine ⟨hnd, by simp, fun a ha b hb => ?_⟩
      obtain rfl := List.mem_singleton.1 hb
      have := hlt a ha; omega
    obtain ⟨a1, a2⟩ := List.getElem?_eq_some_iff.1 q1
    obtain ⟨b1, b2⟩ := List.getElem?_eq_some_iff.1 q2
    rw [List.nodup_iff_pairwise_ne, List.pairwise_iff_getElem] at hn2
    rcases Nat.lt_trichotomy i j with h | h | h
    · exact (hn2 i j a1 b1 h (a2.trans b2.symm)).elim
    · exact h
    · exact (hn2 j i b1 a1 h (b2.trans a2.symm)).elim
theorem zl_mapEntryO {mu imp : List Nat} {l : List Oper} {K : List AV → ASt → Prop} {i : Nat} {old : List ASt} {pd : List Pend} {t : TypeId} {m k : Operand} (hz0 : zst mu imp o = true) (ho : o.op = .mapEntry t m k) (hg : o.guard = none) {d : TypeDesc} {el : TypeId} (ht : tmap P t = some (d, el)) {b : Nat} (hm : aev fr m = .map b) {st : List Nat} {c : Nat} {es : List (AV × AV)} (hb : σ.mp b = some (opE st c es)) {kv : Value} (hk : aev fr k = .p kv)
    (hf : amfind d (.p kv) es 0 = some none) {z : AV} (hz : tzero P el = some z)
    (hk2 : pendOk P mu imp l (old.length + 1) { σ with mp := upd σ.mp b (some (opE (st ++ [c]) (c + 1) (es ++ [(.p kv, z)]))) } pd ∧ Shut (ZRun P mu imp l K (i + 1) rest (aput fr o.dst (.tup [z, .p (.int .i64 c)])) { σ with mp := upd σ.mp b (some (opE (st ++ [c]) (c + 1) (es ++ [(.p kv, z)]))) } (σ :: old) pd)) : ZS P mu imp l K i (o :: rest) fr σ old pd := by
  intro hok
  unfold ZL; rw [if_pos hz0]
  refine ⟨_, _, yldT_opq hg fun ρ hρ => ?_, pendOk_yld hok hk2.1, zl_run hk2.2.out hok⟩
  have e1 : ρ m = aev fr m := hρ m (by rw [ho]; simp [Op.operands])
  have e2 : ρ k = aev fr k := hρ k (by rw [ho]; simp [Op.operands])
  exact opq_mapEntryO ho ht (e1.trans hm) hb (e2.trans hk) hf hz ⟨rfl, rfl⟩
theorem zl_entryStoreO {mu imp : List Nat} {l : List Oper} {K : List AV → ASt → Prop} {i : Nat} {old : List ASt} {pd : List Pend} {t : TypeId} {m s x : Operand} (hz0 : zst mu imp o = true) (ho : o.op = .entryStore t m s x) (hg : o.guard = none) {b : Nat} (hm : aev fr m = .map b) {st : List Nat} {c : Nat} {es : List (AV × AV)} {k y : AV} (hb : σ.mp b = some (opE (st ++ [c]) (c + 1) (es ++ [(k, y)]))) (hs : aev fr s = .p (.int .i64 c)) (hlt : ∀ q ∈ st, q < c) (hnd : st.Nodup) {xv : AV} (hx : aev fr x = xv)
    (hk2 : pendOk P mu imp l (old.length + 1) { σ with mp := upd σ.mp b (some (es ++ [(k, xv)])) } pd ∧ Shut (ZRun P mu imp l K (i + 1) rest (aput fr o.dst (.p undef)) { σ with mp := upd σ.mp b (some (es ++ [(k, xv)])) } (σ :: old) pd)) : ZS P mu imp l K i (o :: rest) fr σ old pd := by
  intro hok
  unfold ZL; rw [if_pos hz0]
  refine ⟨_, _, yldT_opq hg fun ρ hρ => ?_, pendOk_yld hok hk2.1, zl_run hk2.2.out hok⟩
  have e1 : ρ m = aev fr m := hρ m (by rw [ho]; simp [Op.operands])
  have e2 : ρ s = aev fr s := hρ s (by rw [ho]; simp [Op.operands])
  have e3 : ρ x = aev fr x := hρ x (by rw [ho]; simp [Op.operands])
  subst hx
  have := opq_entryStoreO (P := P) (σ := σ) (R := fun r τ => r = .p undef ∧ τ = { σ with mp := upd σ.mp b (some (es ++ [(k, ρ x)])) }) ho (e1.trans hm) hb (e2.trans hs) hlt hnd ⟨rfl, rfl⟩
  rw [e3] at this
  exact this
end Go.AL
/-! A slice of one's own, lent to a pure function that hands back plain values. -/
namespace Go.AL
open Go.RowKit (Below)
set_option linter.unusedVariables false
set_option linter.unusedSimpArgs false
variable {P : Program} {σ : ASt} {R : AV → ASt → Prop} {D : List Deferred} {Q : Exit → List AV → ASt → Prop} {fr : List AV} {ops : Array Oper}
/-- It holds wherever it holds. -/
def Pl (c : AV) : Prop := ∀ G w G' w' v, Rep G w c v → Rep G' w' c v
@[simp] theorem pl_p (x : Value) : Pl (.p x) := fun G w G' w' v h => by cases h; exact .p x
@[simp] theorem pl_agg (l : List AV) (h : ∀ c ∈ l, Pl c) : Pl (.agg l) := fun G w G' w' v hr => by
  cases hr with
  | agg _ vs hs hr => exact .agg _ vs hs fun i c v a b => h c (List.mem_of_getElem? a) _ _ _ _ _ (hr i c v a b)
@[simp] theorem pl_tup (l : List AV) (h : ∀ c ∈ l, Pl c) : Pl (.tup l) := fun G w G' w' v hr => by
  cases hr with
  | tup _ vs hs hr => exact .tup _ vs hs fun i c v a b => h c (List.mem_of_getElem? a) _ _ _ _ _ (hr i c v a b)
theorem APure.lend {f : FuncId} {args args' : List AV} {r : AV} (h : APure P f args' r) (he : args.map (clo σ) = args') (ha : ∀ a ∈ args', Cl a) (hr : Pl r) : ACall P f args σ fun r' σ' => r' = r ∧ σ' = σ := by
  intro G w vs hv hw
  obtain ⟨G2, hl2, hw2, hc⟩ := hw.close
  have hs := simW_σ0 hw2
  have h1 := h.out { base := w.heap.size, st := G2.st, bx := fun _ => none, mp := fun _ => none, sl := fun _ => none } w vs ⟨by rw [← he, List.length_map]; exact hv.1, fun i c v a b => by
    refine Rep.closed (G := G2) (fun _ _ e => e) ?_ (ha c (List.mem_of_getElem? a))
    rw [← he, List.getElem?_map] at a
    obtain ⟨c', hc', rfl⟩ := Option.map_eq_some_iff.1 a
    exact hc c' v (hv.2 i c' v hc' b)⟩ hs
  refine Calls.mono h1 fun e w' he => retOf_mono (fun v w1 ho => ?_) he
  obtain ⟨r', G1, σ1, hl, hw1, hr1, rfl⟩ := ho
  have hb : Below w.heap.size w w1 := hl.below
  exact ⟨r', G, σ, Le.grow hw hb, hw.grow hb, hr _ _ _ _ _ hr1, rfl, rfl⟩
theorem awl_lend {o : Oper} {rest : List Oper} {f : Operand} {aa : Array Operand} {ts : Array TypeId} (mu : List Nat) (ho : o.op = .call { callee := .value f, args := aa, argTypes := ts }) (hw : awanted ops o fr = some true)
    {F : FuncId} {first cap : List AV} (hf : acallee (aev fr f) = some (F, first, cap)) (hc : callable P F = true) {args args' : List AV} (ha : first ++ aa.toList.map (aev fr) ++ cap = args) (he : args.map (clo σ) = args') {r : AV} (h : APure P F args' r) (hcl : ∀ a ∈ args', Cl a) (hr : Pl r)
    (hk : Shut (ARun P D ops Q mu rest (aput fr o.dst r) σ)) : AWL P D ops Q (o :: rest) fr σ :=
  awl_call ho hw hf hc (R := fun r' σ' => r' = r ∧ σ' = σ) (by rw [ha]; exact h.lend he hcl hr) fun r' τ ⟨e1, e2⟩ => by subst e1; subst e2; exact awl_run' mu hk
end Go.AL
-- Laid by the kit's shelf (lay-shelf, lay-plain), the contracts that are used.
namespace Go.Proofs
open Go.Shelf
def Tryd.lays156_ren : Go.Shelf.Ren := ⟨fun | 156 => 54 | 165 => 68 | 166 => 69 | 169 => 70 | 240 => 78 | 241 => 79 | 276 => 85 | 277 => 86 | n => n, fun | 31 => 95 | 9 => 9 | 3 => 3 | 4 => 4 | 0 => 0 | 20 => 20 | 72 => 114 | 76 => 117 | 70 => 112 | 37 => 53 | 75 => 116 | 127 => 126 | 164 => 134 | 5 => 5 | 80 => 88 | n => n, fun | n => n⟩
theorem Tryd.lays156 : Go.Proofs.Lays.n156 Tryd.prog Tryd.lays156_ren := {
  mixed := by kernel_rfl
  f156 := Tryd.func54.trans (congrArg some (by kernel_rfl))
  f165 := Tryd.func68.trans (congrArg some (by kernel_rfl))
  f166 := Tryd.func69.trans (congrArg some (by kernel_rfl))
  f169 := Tryd.func70.trans (congrArg some (by kernel_rfl))
  f240 := Tryd.func78.trans (congrArg some (by kernel_rfl))
  f241 := Tryd.func79.trans (congrArg some (by kernel_rfl))
  f276 := Tryd.func85.trans (congrArg some (by kernel_rfl))
  f277 := Tryd.func86.trans (congrArg some (by kernel_rfl))
  t0 := Tryd.underlying0
  a0 := Tryd.isAgg0
  z0 := Tryd.sizeOf0
  v0 := Tryd.zeroValue0
  t3 := Tryd.underlying3
  a3 := Tryd.isAgg3
  z3 := Tryd.sizeOf3
  v3 := Tryd.zeroValue3
  t4 := Tryd.underlying4
  a4 := Tryd.isAgg4
  z4 := Tryd.sizeOf4
  v4 := Tryd.zeroValue4
  t9 := Tryd.underlying9
  a9 := Tryd.isAgg9
  z9 := Tryd.sizeOf9
  v9 := Tryd.zeroValue9
  t20 := Tryd.underlying20
  a20 := Tryd.isAgg20
  z20 := Tryd.sizeOf20
  v20 := Tryd.zeroValue20
  t31 := Tryd.underlying95
  a31 := Tryd.isAgg95
  z31 := Tryd.sizeOf95
  v31 := Tryd.zeroValue95
  t37 := Tryd.underlying53
  a37 := Tryd.isAgg53
  z37 := Tryd.sizeOf53
  v37 := Tryd.zeroValue53
  t70 := Tryd.underlying112
  a70 := Tryd.isAgg112
  z70 := Tryd.sizeOf112
  v70 := Tryd.zeroValue112
  t72 := Tryd.underlying114
  a72 := Tryd.isAgg114
  z72 := Tryd.sizeOf114
  v72 := Tryd.zeroValue114
  t75 := Tryd.underlying116
  a75 := Tryd.isAgg116
  z75 := Tryd.sizeOf116
  v75 := Tryd.zeroValue116
  t76 := Tryd.underlying117
  a76 := Tryd.isAgg117
  z76 := Tryd.sizeOf117
  v76 := Tryd.zeroValue117
  t127 := Tryd.underlying126
  a127 := Tryd.isAgg126
  z127 := Tryd.sizeOf126
  v127 := Tryd.zeroValue126
  t164 := Tryd.underlying134
  a164 := Tryd.isAgg134
  z164 := Tryd.sizeOf134
  v164 := Tryd.zeroValue134 }
theorem Tryd.Builder_Extra_156 : Builder.Extra Tryd.prog Tryd.lays156_ren := {
  sizeBuilder := by kernel_rfl
  liesBuilder := by kernel_rfl
  t5 := Tryd.underlying5
  a5 := Tryd.isAgg5
  z5 := Tryd.sizeOf5
  v5 := Tryd.zeroValue5
  infoByte := by kernel_rfl
  cellsByte := by kernel_rfl
  sizeByte := by kernel_rfl
  neB5 := by decide }
open Go.RowKit in
theorem Tryd.strings_Join (bk o c : Nat) (xs : List ByteArray) (sep : ByteArray) (w : World) (hcells : ∀ (j : Nat) x, xs[j]? = some x → w.cell? ⟨bk, o + j, none⟩ = some (.string x)) (hbk : bk < w.heap.size) (hN : xs.length ≤ 140737488355328) (hcap : xs.length ≤ c) (hlen : (Lib.join (xs.map (·.data.toList)) sep.data.toList).length ≤ 140737488355328) :
    Calls Tryd.prog 54 #[.slice (some ⟨bk, o, none⟩) xs.length c, .string sep] w fun e w' => e = .returned (.string ⟨(Lib.join (xs.map (·.data.toList)) sep.data.toList).toArray⟩) ∧ Below w.heap.size w w' := Any.strings_Join Tryd.lays156 Tryd.Builder_Extra_156 bk o c xs sep w hcells hbk hN hcap hlen
def Tryd.laysM171_ren : Go.Shelf.Ren := ⟨fun | 171 => 53 | 243 => 67 | 246 => 77 | 283 => 81 | 284 => 82 | 285 => 83 | 286 => 84 | 129 => 66 | 317 => 87 | 318 => 88 | 319 => 89 | 320 => 90 | 337 => 91 | 338 => 92 | n => n, fun | 3 => 3 | 9 => 9 | 2 => 2 | 4 => 4 | 171 => 130 | 0 => 0 | 53 => 111 | 37 => 53 | 5 => 5 | 173 => 132 | 212 => 139 | 51 => 109 | 20 => 20 | 213 => 140 | 46 => 94 | 232 => 141 | 233 => 142 | n => n, fun | 17 => 0 | 18 => 2 | 19 => 3 | n => n⟩
theorem Tryd.laysM171 : Go.Proofs.LaysM.n171 Tryd.prog Tryd.laysM171_ren := {
  mixed := by kernel_rfl
  f129 := Tryd.func66.trans (congrArg some (by kernel_rfl))
  f171 := Tryd.func53.trans (congrArg some (by kernel_rfl))
  f243 := Tryd.func67.trans (congrArg some (by kernel_rfl))
  f246 := Tryd.func77.trans (congrArg some (by kernel_rfl))
  f283 := Tryd.func81.trans (congrArg some (by kernel_rfl))
  f284 := Tryd.func82.trans (congrArg some (by kernel_rfl))
  f285 := Tryd.func83.trans (congrArg some (by kernel_rfl))
  f286 := Tryd.func84.trans (congrArg some (by kernel_rfl))
  f317 := Tryd.func87.trans (congrArg some (by kernel_rfl))
  f318 := Tryd.func88.trans (congrArg some (by kernel_rfl))
  f319 := Tryd.func89.trans (congrArg some (by kernel_rfl))
  f320 := Tryd.func90.trans (congrArg some (by kernel_rfl))
  f337 := Tryd.func91.trans (congrArg some (by kernel_rfl))
  f338 := Tryd.func92.trans (congrArg some (by kernel_rfl))
  t0 := Tryd.underlying0
  a0 := Tryd.isAgg0
  z0 := Tryd.sizeOf0
  v0 := Tryd.zeroValue0
  t2 := Tryd.underlying2
  a2 := Tryd.isAgg2
  z2 := Tryd.sizeOf2
  v2 := Tryd.zeroValue2
  t3 := Tryd.underlying3
  a3 := Tryd.isAgg3
  z3 := Tryd.sizeOf3
  v3 := Tryd.zeroValue3
  t4 := Tryd.underlying4
  a4 := Tryd.isAgg4
  z4 := Tryd.sizeOf4
  v4 := Tryd.zeroValue4
  t5 := Tryd.underlying5
  a5 := Tryd.isAgg5
  z5 := Tryd.sizeOf5
  v5 := Tryd.zeroValue5
  t9 := Tryd.underlying9
  a9 := Tryd.isAgg9
  z9 := Tryd.sizeOf9
  v9 := Tryd.zeroValue9
  t20 := Tryd.underlying20
  a20 := Tryd.isAgg20
  z20 := Tryd.sizeOf20
  v20 := Tryd.zeroValue20
  t37 := Tryd.underlying53
  a37 := Tryd.isAgg53
  z37 := Tryd.sizeOf53
  v37 := Tryd.zeroValue53
  t46 := Tryd.underlying94
  a46 := Tryd.isAgg94
  z46 := Tryd.sizeOf94
  v46 := Tryd.zeroValue94
  t51 := Tryd.underlying109
  a51 := Tryd.isAgg109
  z51 := Tryd.sizeOf109
  v51 := Tryd.zeroValue109
  t53 := Tryd.underlying111
  a53 := Tryd.isAgg111
  z53 := Tryd.sizeOf111
  v53 := Tryd.zeroValue111
  t171 := Tryd.underlying130
  a171 := Tryd.isAgg130
  z171 := Tryd.sizeOf130
  v171 := Tryd.zeroValue130
  t173 := Tryd.underlying132
  a173 := Tryd.isAgg132
  z173 := Tryd.sizeOf132
  v173 := Tryd.zeroValue132
  t212 := Tryd.underlying139
  a212 := Tryd.isAgg139
  z212 := Tryd.sizeOf139
  v212 := Tryd.zeroValue139
  t213 := Tryd.underlying140
  a213 := Tryd.isAgg140
  z213 := Tryd.sizeOf140
  t232 := Tryd.underlying141
  a232 := Tryd.isAgg141
  z232 := Tryd.sizeOf141
  v232 := Tryd.zeroValue141
  t233 := Tryd.underlying142
  a233 := Tryd.isAgg142
  z233 := Tryd.sizeOf142
  v233 := Tryd.zeroValue142
  g17 := by kernel_rfl
  g18 := by kernel_rfl
  g19 := by kernel_rfl
  i0 := by kernel_rfl
  i2 := by kernel_rfl
  i3 := by kernel_rfl
  i4 := by kernel_rfl
  i5 := by kernel_rfl
  i9 := by kernel_rfl
  i20 := by kernel_rfl
  i37 := by kernel_rfl
  i46 := by kernel_rfl
  i51 := by kernel_rfl
  i53 := by kernel_rfl
  i171 := by kernel_rfl
  i173 := by kernel_rfl
  i212 := by kernel_rfl
  i232 := by kernel_rfl
  i233 := by kernel_rfl
  m17 := by kernel_rfl
  m18 := by kernel_rfl
  m19 := by kernel_rfl }
open Go.RowKit Go.Sort Go.Lib in
theorem Tryd.strconv_Itoa (n : Int) (h0 : -9223372036854775808 ≤ n) (h1 : n ≤ 9223372036854775807) (w : World) (htab : Lib.TabIs Tryd.prog w "internal/strconv.uint64pow10" .u64 Lib.pow10Tab) :
    Calls Tryd.prog 53 #[.int .i64 n] w fun e w' => e = .returned (.string ⟨(Lib.itoa n).toArray⟩) ∧ ∃ k os, w' = grow (w.drewN k) os := Any.strconv_Itoa Tryd.laysM171 n h0 h1 w htab
end Go.Proofs
/-! Contracts: the library's numbers and texts. -/
namespace Go.AL
open Go.Proofs Go.RowKit
set_option linter.unusedSimpArgs false
set_option linter.unusedVariables false
theorem var_keeps {P : Program} {w w1 : World} {n : String} {cs : Array Value} (h : w.var? P n = some cs) (hb : Below w.heap.size w w1) : w1.var? P n = some cs := by
  unfold World.var? at h ⊢
  cases hg : P.globalNamed n with
  | none => rw [hg] at h; exact h
  | some g =>
    rw [hg] at h
    simp only [Option.bind_some] at h ⊢
    have hlt : g < w.heap.size := by
      rcases Nat.lt_or_ge g w.heap.size with hl | hl
      · exact hl
      · rw [Array.getElem?_eq_none hl] at h; simp at h
    rw [hb.block g hlt]
    exact h
theorem Init.below {w w1 : World} (h : Init w) (hb : Below w.heap.size w w1) : Init w1 := ⟨var_keeps h.tab hb⟩
open Go.Sort in
theorem below_growN {w : World} (k : Nat) (os : Array Obj) : Below w.heap.size w (grow (w.drewN k) os) := by
  refine ⟨rfl, rfl, rfl, ?_, fun i hi => ?_⟩
  · simp [grow, World.drewN]
  · simp [grow, World.drewN, Array.getElem?_append, hi]
theorem repl_one {G : Ghost} {w : World} {x : Value} {vs : Array Value} (h : RepL G w [.p x] vs.toList) : vs = #[x] := by
  obtain ⟨l⟩ := vs
  obtain ⟨hl, he⟩ := h
  match l, hl with
  | [v], _ =>
    have := he 0 _ _ rfl rfl
    cases this
    rfl
theorem itoa_ok (n : Int) (h0 : -9223372036854775808 ≤ n) (h1 : n ≤ 9223372036854775807) : APure Tryd.prog 53 [vi n] (vs ⟨(Lib.itoa n).toArray⟩) :=
  APure.of_calls fun G w vs hI hv => by
    obtain ⟨w0, hI, hb⟩ := hI
    obtain rfl := repl_one hv
    refine (Tryd.strconv_Itoa n h0 h1 w (hI.below hb).tab).mono fun e w' h => ?_
    obtain ⟨he, k, os, hw⟩ := h
    exact ⟨_, he, hw ▸ below_growN k os, fun _ _ => .p _⟩
theorem sjoin_ok (xs : List ByteArray) (sep : ByteArray) (hne : xs ≠ []) (hN : xs.length ≤ 140737488355328) (hlen : (Lib.join (xs.map (·.data.toList)) sep.data.toList).length ≤ 140737488355328) :
    APure Tryd.prog 54 [.vsl (xs.map vs), vs sep] (vs ⟨(Lib.join (xs.map (·.data.toList)) sep.data.toList).toArray⟩) :=
  APure.of_calls fun G w vs' hI hv => by
    obtain ⟨l⟩ := vs'
    obtain ⟨hl, he⟩ := hv
    match l, hl with
    | [v0, v1], _ =>
      have h0 := he 0 _ _ rfl rfl
      have h1 := he 1 _ _ rfl rfl
      cases h1
      generalize hav : AV.vsl (xs.map vs) = av at h0
      cases h0 with
      | vnil a cap =>
        injection hav with e
        exact (hne (List.map_eq_nil_iff.1 e)).elim
      | vsl _ β o s cap val hcap hs h hr =>
        injection hav with e
        subst e
        have hs1 : s = 1 := by
          cases xs with
          | nil => exact (hne rfl).elim
          | cons x xs => exact (hs 0 _ rfl).symm
        subst hs1
        have hcell : ∀ (j : Nat) x, xs[j]? = some x → w.cell? ⟨β, o + j, none⟩ = some (.string x) := fun j x hx => by
          have hrc : rowCell (xs.map vs) j 0 = some (vs x) := by unfold rowCell; rw [List.getElem?_map, hx]; rfl
          have h2 := (h j 0 _ hrc).2
          have h3 := hr j 0 _ hrc
          generalize val j 0 = u at h2 h3
          cases h3
          simpa using h2
        have hbk : β < w.heap.size := by
          cases xs with
          | nil => exact (hne rfl).elim
          | cons x xs =>
            have := hcell 0 x rfl
            unfold World.cell? at this
            rcases Nat.lt_or_ge β w.heap.size with hh | hh
            · exact hh
            · rw [Array.getElem?_eq_none hh] at this; cases this
        rw [List.length_map] at hcap ⊢
        refine (Tryd.strings_Join β o cap xs sep w hcell hbk hN hcap hlen).mono fun e w' h => ?_
        exact ⟨_, h.1, h.2, fun _ _ => .p _⟩
      | _ => cases hav
end Go.AL
/-! Contract: arena's Node.name. -/
namespace Go.AL
open Go.Proofs
set_option linter.unusedSimpArgs false
set_option linter.unusedVariables false
/-- A node as it lies there. -/
def ndA (x : Nd) : AV := .agg [vi x.k, .vsl (x.refs.map vi), .vsl (x.nums.map vi), vs x.text]
def itB (n : Int) : ByteArray := ⟨(Lib.itoa n).toArray⟩
structure NdOk (x : Nd) : Prop where
  k : -9223372036854775808 ≤ x.k ∧ x.k ≤ 9223372036854775807
  refs : ∀ n ∈ x.refs, -9223372036854775808 ≤ n ∧ n ≤ 9223372036854775807
  nums : ∀ n ∈ x.nums, -9223372036854775808 ≤ n ∧ n ≤ 9223372036854775807
  rl : x.refs.length ≤ 100000
  nl : x.nums.length ≤ 100000
  tl : x.text.size ≤ 1000000000
theorem nm_join (l : List Int) (t : ByteArray) : Lib.join ((l.map itB ++ [t]).map (·.data.toList)) [32] = flatI l ++ t.data.toList := by
  induction l with
  | nil => simp [Lib.join, List.intercalate, flatI]
  | cons a l ih =>
    have e : flatI (a :: l) = Lib.itoa a ++ 32 :: flatI l := by simp [flatI]
    rw [e, List.append_assoc, List.cons_append, ← ih]
    unfold Lib.join
    cases l with
    | nil => simp [List.intercalate, List.intersperse, itB]
    | cons b l => simp [List.intercalate, List.intersperse, itB]
def NmI (x : Nd) (LL : List (List Int)) (q : Nat) (fr : List AV) (σ : ASt) : Prop := ∃ (i b M : Nat) (us : List Int), i + q = LL.length ∧ us = (LL.take i).flatten ∧ b < M ∧ σ = mkSt [] [(b, (us.map itB).map vs)] M ∧ fr = frm 46 [(1, .vel [ndA x] 0 0), (3, .hsl b 0 us.length), (21, .vsl (LL.map fun l => .vsl (l.map vi))), (22, vi (LL.length : Nat)), (23, vi (i : Nat))]
def NmJ (x : Nd) (LL : List (List Int)) (i : Nat) (l : List Int) (q : Nat) (fr : List AV) (σ : ASt) : Prop := ∃ (j b M : Nat) (us : List Int), j + q = l.length ∧ us = (LL.take i).flatten ++ l.take j ∧ b < M ∧ σ = mkSt [] [(b, (us.map itB).map vs)] M ∧ fr = frm 46 [(1, .vel [ndA x] 0 0), (3, .hsl b 0 us.length), (21, .vsl (LL.map fun l => .vsl (l.map vi))), (22, vi (LL.length : Nat)), (23, vi (i : Nat)), (27, .vsl (l.map vi)), (28, vi (l.length : Nat)), (29, vi (j : Nat))]
set_option maxHeartbeats 16000000 in
set_option maxRecDepth 100000 in
theorem aname_ok (x : Nd) (hx : NdOk x) : APure Tryd.prog 44 [ndA x] (vs (nmB x)) := by
  obtain ⟨LL, hLL⟩ : ∃ LL, LL = [[x.k, (x.refs.length : Int), (x.nums.length : Int)], x.refs, x.nums] := ⟨_, rfl⟩
  have hLl : LL.length = 3 := by rw [hLL]; rfl
  have hfl : LL.flatten = nmInts x := by rw [hLL]; simp [nmInts]
  have hr := hx.rl
  have hn := hx.nl
  have ht := hx.tl
  have hin : ∀ l ∈ LL, l.length ≤ 100000 ∧ ∀ n ∈ l, -9223372036854775808 ≤ n ∧ n ≤ 9223372036854775807 := by
    rw [hLL]
    intro l hl
    simp only [List.mem_cons, List.not_mem_nil, or_false] at hl
    rcases hl with rfl | rfl | rfl
    · refine ⟨by simp, fun n hn => ?_⟩
      simp only [List.mem_cons, List.not_mem_nil, or_false] at hn
      rcases hn with rfl | rfl | rfl
      · exact hx.k
      · omega
      · omega
    · exact ⟨hr, hx.refs⟩
    · exact ⟨hn, hx.nums⟩
  have hlv : (LL.map fun l => (.vsl (l.map vi) : AV)).length = LL.length := List.length_map _
  have hnd : ndA x = .agg [vi x.k, .vsl (x.refs.map vi), .vsl (x.nums.map vi), vs x.text] := rfl
  refine apure_in Tryd.func44 Tryd.ntmps44 rfl ?_
  rw [hnd]
  repeat' first | refine aw_N [] trivial trivial ?_ | refine aw_cond rfl (fun h => ?_) (fun h => ?_)
  refine aw_nilH (i := 3) rfl ?_
  simp -implicitDefEqProofs only [List.set]
  refine aw_loopW [1, 3, 21, 22, 23] (fun q fr σ => NmI x LL q fr σ) 3 ?_ ?_
  · exact ⟨mkSt [] [(0, [])] 1, le_mkSt (by simp [ASt.addSl, σ0]) (by simp [ASt.addSl, σ0]) (by simp [ASt.addSl, σ0]), 0, 0, 1, [], by omega, by simp, by omega, rfl, by simp [hLL, hnd]⟩
  · rintro q fr σ ⟨i, b, M, us, hi, hus, hbM, rfl, rfl⟩
    simp -implicitDefEqProofs
    by_cases hlt : i < LL.length
    · have hlti : (i : Int) < LL.length := by omega
      obtain ⟨l, hl⟩ : ∃ l, LL[i] = l := ⟨_, rfl⟩
      have hlg : LL[i]? = some l := by rw [List.getElem?_eq_getElem hlt, hl]
      have hlm := List.mem_of_getElem? hlg
      obtain ⟨hll, hln⟩ := hin l hlm
      have wi : IntKind.i64.wrap ((i : Int) + 1) = (i : Int) + 1 := wrap_id (by omega) (by omega)
      have hsu : (LL.take (i + 1)).flatten = (LL.take i).flatten ++ l := by rw [List.take_add_one, hlg]; simp
      have hul : us.length ≤ i * 100000 := by
        rw [hus]
        have : ∀ m : List (List Int), (∀ l ∈ m, l.length ≤ 100000) → m.flatten.length ≤ m.length * 100000 := by
          intro m
          induction m with
          | nil => intro _; simp
          | cons y m ih =>
            intro h
            have h1 := h y (by simp)
            have h2 := ih fun l hl => h l (List.mem_cons_of_mem _ hl)
            simp only [List.flatten_cons, List.length_append, List.length_cons]
            omega
        have h3 := this (LL.take i) fun l hl => (hin l (List.mem_of_mem_take hl)).1
        rw [List.length_take] at h3
        have h4 : min i LL.length = i := by omega
        rw [h4] at h3; exact h3
      have hi2 : i ≤ 2 := by omega
      have hlv2 : (l.map vi).length = l.length := List.length_map _
      repeat' first | refine aw_N [] (And.intro @hlt (And.intro @hlti (And.intro @hl (And.intro @hlg @hlv)))) trivial ?_ | refine aw_cond rfl (fun h => ?_) (fun h => ?_)
      refine aw_loopW [1, 3, 21, 22, 23, 27, 28, 29] (fun q fr σ => NmJ x LL i l q fr σ) l.length ?_ ?_
      · exact ⟨mkSt [] [(b, (us.map itB).map vs)] M, le_mkSt (by simp) (by simp) (by simp), 0, b, M, us, by omega, by simp [hus], hbM, rfl, by simp⟩
      · clear hbM b M
        rintro q2 fr σ ⟨j, b, M, vs2, hj, hvs, hbM, rfl, rfl⟩
        simp -implicitDefEqProofs
        have hvl : vs2.length ≤ 300000 := by rw [hvs, List.length_append, ← hus, List.length_take]; omega
        by_cases hltj : j < l.length
        · have hltji : (j : Int) < l.length := by omega
          obtain ⟨t, hx1⟩ : ∃ t, l[j] = t := ⟨_, rfl⟩
          have hxg : l[j]? = some t := by rw [List.getElem?_eq_getElem hltj, hx1]
          have wj : IntKind.i64.wrap ((j : Int) + 1) = (j : Int) + 1 := wrap_id (by omega) (by omega)
          have hit := itoa_ok t (hln t (List.mem_of_getElem? hxg)).1 (hln t (List.mem_of_getElem? hxg)).2
          rw [show (⟨(Lib.itoa t).toArray⟩ : ByteArray) = itB t from rfl] at hit
          repeat' first | refine aw_N [] (And.intro @hltj (And.intro @hltji (And.intro @hx1 (And.intro @hxg @hlv2)))) (And.intro @hit trivial) ?_ | refine aw_cond rfl (fun h => ?_) (fun h => ?_)
          refine awl_append [] rfl rfl rfl (xs := (vs2.map itB).map vs) (by simp) (by simp) rfl (by simp) te95 tet95 tz9 rfl (fun y hy => by obtain ⟨_, _, rfl⟩ := List.mem_map.1 hy; rfl) (by simp) (by simp; omega) (by simp; omega) ?_
          simp -implicitDefEqProofs
          repeat' first | refine aw_N [] @wj trivial ?_ | refine aw_cond rfl (fun h => ?_) (fun h => ?_)
          have hv1 : vs2 ++ [t] = (LL.take i).flatten ++ l.take (j + 1) := by rw [hvs, List.take_add_one, hxg]; simp
          exact ⟨q2 - 1, by omega, mkSt [] [(M, ((vs2 ++ [t]).map itB).map vs)] (M + 1), le_mkSt (by simp) (by simp [List.take_of_length_le, ASt.addSl]) (by simp [ASt.addSl]), j + 1, M, M + 1, vs2 ++ [t], by omega, hv1, by omega, rfl, by simp⟩
        · have hltji : ¬ (j : Int) < l.length := by omega
          rw [List.take_of_length_le (show l.length ≤ j by omega), ← hsu] at hvs
          repeat' first | refine aw_N [] (And.intro @hltji @wi) trivial ?_ | refine aw_cond rfl (fun h => ?_) (fun h => ?_)
          exact ⟨q - 1, by omega, mkSt [] [(b, (vs2.map itB).map vs)] M, le_mkSt (by simp) (by simp) (by simp), i + 1, b, M, vs2, by omega, hvs, hbM, rfl, by simp⟩
    · have hlti : ¬ (i : Int) < LL.length := by omega
      rw [List.take_of_length_le (by omega), hfl] at hus
      have hul : us.length ≤ 200003 := by rw [hus]; simp [nmInts]; omega
      have hjb : (Lib.join ((us.map itB ++ [x.text]).map (·.data.toList)) [32]).length ≤ 140737488355328 := by
        rw [nm_join, List.length_append]
        have h1 : ∀ m : List Int, (∀ n ∈ m, -9223372036854775808 ≤ n ∧ n ≤ 9223372036854775807) → (flatI m).length ≤ m.length * 22 := by
          intro m
          induction m with
          | nil => intro _; simp [flatI]
          | cons y m ih =>
            intro h
            have h2 := Lib.itoa_length_le y (h y (by simp)).1 (h y (by simp)).2
            have h3 := ih fun n hn => h n (List.mem_cons_of_mem _ hn)
            have e : flatI (y :: m) = Lib.itoa y ++ 32 :: flatI m := by simp [flatI]
            rw [e]
            simp only [List.length_append, List.length_cons]
            omega
        have h4 := h1 us (by
          rw [hus]
          intro n hn
          rw [← hfl] at hn
          obtain ⟨l, hl, hnl⟩ := List.mem_flatten.1 hn
          exact (hin l hl).2 n hnl)
        have h5 : x.text.data.toList.length = x.text.size := by simp
        omega
      have hJ := sjoin_ok (us.map itB ++ [x.text]) ⟨#[32]⟩ (by simp) (by simp; omega) hjb
      have hres : (⟨(Lib.join ((us.map itB ++ [x.text]).map (·.data.toList)) [32]).toArray⟩ : ByteArray) = nmB x := by rw [nm_join, hus]; rfl
      rw [show (⟨#[32]⟩ : ByteArray).data.toList = [32] from rfl, hres] at hJ
      repeat' first | refine aw_N [] @hlti trivial ?_ | refine aw_cond rfl (fun h => ?_) (fun h => ?_)
      refine awl_append [] rfl rfl rfl (xs := (us.map itB).map vs) (by simp) (by simp) rfl (by simp) te95 tet95 tz9 rfl (fun y hy => by obtain ⟨_, _, rfl⟩ := List.mem_map.1 hy; rfl) (by simp [hnd]) (by simp; omega) (by simp; omega) ?_
      simp -implicitDefEqProofs
      have htl : List.take us.length (us.map (vs ∘ itB)) = us.map (vs ∘ itB) := List.take_of_length_le (by simp)
      have htl2 : List.take (us.length + 1) (us.map (vs ∘ itB) ++ [vs x.text]) = us.map (vs ∘ itB) ++ [vs x.text] := List.take_of_length_le (by simp)
      refine awl_lend [] rfl rfl rfl (by kernel_rfl) rfl (args' := [.vsl ((us.map itB ++ [x.text]).map vs), vs ⟨#[32]⟩]) (by simp [clo, clo1, clo0, htl, htl2]) hJ (by
        simp only [List.mem_cons, List.not_mem_nil, or_false, forall_eq_or_imp, forall_eq]
        exact ⟨.vsl _ fun c hc => by obtain ⟨_, _, rfl⟩ := List.mem_map.1 hc; exact .p _, .p _⟩) (by simp) ?_
      simp -implicitDefEqProofs
      repeat' first | refine aw_N [] trivial trivial ?_ | refine aw_cond rfl (fun h => ?_) (fun h => ?_)
      all_goals first | rfl | (simp [tupOf]; done) | trace_state
end Go.AL
/-! Contracts: arena's has, next. -/
namespace Go.AL
open Go.Proofs
set_option linter.unusedSimpArgs false
set_option linter.unusedVariables false
theorem tmN : tmap Tryd.prog 57 = some (.int .i64, 40) := by kernel_rfl
def nd0 : AV := .agg [vi 0, .p (.slice none 0 0), .p (.slice none 0 0), vs ⟨#[]⟩]
/-- What a lookup hands back. -/
def ngot : Option Nd → AV
  | none => nd0
  | some x => ndA x
theorem cl_ndA (x : Nd) : Cl (ndA x) := by
  refine .agg _ fun c hc => ?_
  simp only [List.mem_cons, List.not_mem_nil, or_false] at hc
  rcases hc with rfl | rfl | rfl | rfl
  · exact .p _
  · exact .vsl _ fun c hc => by obtain ⟨_, _, rfl⟩ := List.mem_map.1 hc; exact .p _
  · exact .vsl _ fun c hc => by obtain ⟨_, _, rfl⟩ := List.mem_map.1 hc; exact .p _
  · exact .p _
abbrev Nods := List (Int × Nd)
theorem cl_esN (M : Nods) : clM (esK ndA M) := fun p hp => by
  obtain ⟨q, _, rfl⟩ := List.mem_map.1 hp
  exact ⟨.p _, cl_ndA _⟩
theorem ngot_some (M : Nods) (a : Int) (d0 : Nd) : ∀ j y, (ixK M a 0).map (fun j => (j, ndA ((gotK M a).getD d0))) = some (j, y) → ngot (gotK M a) = y := fun j y e => by
  obtain ⟨j', h, e⟩ := Option.map_eq_some_iff.1 e
  cases e
  have := ixK_spec a M 0
  rw [h] at this
  obtain ⟨_, v, hv, _⟩ := this
  rw [hv]; rfl
theorem ngot_none {P : Program} {el : TypeId} (hz : tzero P el = some nd0) (M : Nods) (a : Int) (d0 : Nd) : (ixK M a 0).map (fun j => (j, ndA ((gotK M a).getD d0))) = none → tzero P el = some (ngot (gotK M a)) := fun e => by
  rw [ixK_none (Option.map_eq_none_iff.1 e)]; exact hz
def ndZ : Nd := ⟨0, [], [], ⟨#[]⟩⟩
set_option maxHeartbeats 8000000 in
set_option maxRecDepth 100000 in
theorem ahas_ok (M : Nods) (fs : List (AV × AV)) (a c h : Int) : AC Tryd.prog 27 [vi h] a (esK ndA M) fs c (vb (gotK M h).isSome) (esK ndA M) fs c := by
  have hs : ((ixK M h 0).map fun j => (j, ndA ((gotK M h).getD ndZ))).isSome = (gotK M h).isSome := by rw [Option.isSome_map, ixK_some]
  refine ac_in Tryd.func27 Tryd.ntmps27 rfl ?_
  repeat' first | refine aw_N [5] trivial trivial ?_ | refine aw_cond rfl (fun h => ?_) (fun h => ?_)
  refine awl_lookupW [5] rfl rfl tmN rfl (es := esK ndA M) (by simp) rfl (find_esK ndA ndZ .i64 h M 0) (x := ngot (gotK M h)) (ngot_some M h ndZ) (ngot_none tz40 M h ndZ) ?_
  simp -implicitDefEqProofs [hs]
  cases hq : gotK M h with
  | none =>
    have hz : ngot none = .agg [vi 0, .p (.slice none 0 0), .p (.slice none 0 0), vs ⟨#[]⟩] := rfl
    simp -implicitDefEqProofs [hz]
    repeat' first | refine aw_N [5] trivial trivial ?_ | refine aw_cond rfl (fun h => ?_) (fun h => ?_)
    all_goals first | (simp [tupOf, upd]; done) | trace_state
  | some x =>
    have hz : ngot (some x) = .agg [vi x.k, .vsl (x.refs.map vi), .vsl (x.nums.map vi), vs x.text] := rfl
    simp -implicitDefEqProofs [hz]
    repeat' first | refine aw_N [5] trivial trivial ?_ | refine aw_cond rfl (fun h => ?_) (fun h => ?_)
    all_goals first | (simp [tupOf, upd]; done) | trace_state
theorem le_arS {a : Int} {es fs : List (AV × AV)} {c : Int} {σ : ASt} (h1 : σ.bx 0 = some [.p (.int .i64 a), .map 1, .map 2, .p (.int .i64 c)]) (h2 : σ.mp 1 = some es) (h3 : σ.mp 2 = some fs) (h4 : σ.next ≤ 3) : (arS a es fs c).Le σ where
  bx := fun i cs e => by
    simp only [arS_bx] at e
    split at e
    · rename_i hi; subst hi; rw [h1]; exact e
    · cases e
  mp := fun i cs e => by
    simp only [arS_mp] at e
    split at e
    · rename_i hi; subst hi; rw [h2]; exact e
    · split at e
      · rename_i hi; subst hi; rw [h3]; exact e
      · cases e
  sl := fun _ _ e => by cases e
  next := h4
theorem at_arS (a : Int) (es fs : List (AV × AV)) (c : Int) : ArAt (arS a es fs c) 0 1 2 a es fs c := ⟨by simp, by simp, by simp, by omega, by omega, by omega, by simp, by simp, by simp⟩
@[simp] theorem arS_ar (a : Int) (es fs es' fs' : List (AV × AV)) (c c' : Int) : (arS a es fs c).ar 0 1 2 a es' fs' c' = arS a es' fs' c' := by
  unfold ASt.ar arS
  congr 1
  · funext i
    by_cases h : i = 0
    · subst h; simp [upd]
    · simp [upd, h]
  · funext i
    by_cases h2 : i = 2
    · subst h2; simp [upd]
    · by_cases h1 : i = 1
      · subst h1; simp [upd]
      · simp [upd, h1, h2]
def NxI (a : Int) (es fs : List (AV × AV)) (c : Int) (n : Nat) (q : Nat) (fr : List AV) (σ : ASt) : Prop := ∃ i : Nat, i + q = n ∧ σ = arS a es fs (c + i) ∧ fr = frm 20 [(0, .ptr 0 0)]
set_option maxHeartbeats 8000000 in
set_option maxRecDepth 100000 in
theorem anext_ok (M : Nods) (fs : List (AV × AV)) (hfs : clM fs) (a c : Int) (n : Nat) (hc : 0 ≤ c ∧ c + n ≤ 1000000000) (h1 : ∀ i < n, (gotK M (c + i)).isSome = true) (h2 : gotK M (c + n) = none) :
    AC Tryd.prog 45 [] a (esK ndA M) fs c (vi (c + n)) (esK ndA M) fs (c + n) := by
  refine ac_in Tryd.func45 Tryd.ntmps45 rfl ?_
  repeat' first | refine aw_N [] trivial trivial ?_ | refine aw_cond rfl (fun h => ?_) (fun h => ?_)
  refine aw_loopW [0] (fun q fr σ => NxI a (esK ndA M) fs c n q fr σ) n ?_ ?_
  · exact ⟨arS a (esK ndA M) fs c, le_arS (by simp) (by simp) (by simp) (by simp), 0, by omega, by simp, by simp⟩
  · rintro q fr σ ⟨i, hi, rfl, rfl⟩
    simp -implicitDefEqProofs
    have hh := ahas_ok M fs a (c + i) (c + i)
    by_cases hlt : i < n
    · rw [h1 i hlt] at hh
      have wi : IntKind.i64.wrap (c + (i : Int) + 1) = c + (i : Int) + 1 := wrap_id (by omega) (by omega)
      repeat' first | refine aw_N [] trivial trivial ?_ | refine aw_cond rfl (fun h => ?_) (fun h => ?_)
      refine awl_ar [] rfl rfl rfl (by kernel_rfl) hh rfl (by simp) (by simp) (cl_esN M) hfs (cl_esN M) hfs (at_arS _ _ _ _) ?_
      simp -implicitDefEqProofs
      repeat' first | refine aw_N [] @wi trivial ?_ | refine aw_cond rfl (fun h => ?_) (fun h => ?_)
      exact ⟨q - 1, by omega, arS a (esK ndA M) fs (c + (i : Int) + 1), le_arS (by simp [upd]) (by simp) (by simp) (by simp), i + 1, by omega, by push_cast; rw [Int.add_assoc], by simp⟩
    · obtain rfl : i = n := by omega
      rw [h2] at hh
      repeat' first | refine aw_N [] trivial trivial ?_ | refine aw_cond rfl (fun h => ?_) (fun h => ?_)
      refine awl_ar [] rfl rfl rfl (by kernel_rfl) hh rfl (by simp) (by simp) (cl_esN M) hfs (cl_esN M) hfs (at_arS _ _ _ _) ?_
      simp -implicitDefEqProofs
      repeat' first | refine aw_N [] trivial trivial ?_ | refine aw_cond rfl (fun h => ?_) (fun h => ?_)
      all_goals first | (simp [tupOf, upd]; done) | trace_state
end Go.AL
/-! Maps by texts, as lists. -/
namespace Go.AL
set_option linter.unusedVariables false
set_option linter.unusedSimpArgs false
variable {P : Program} {σ : ASt} {R : AV → ASt → Prop} {D : List Deferred} {Q : Exit → List AV → ASt → Prop} {fr : List AV} {ops : Array Oper} {o : Oper} {rest : List Oper} {ρ : Operand → AV}
/-! ### maps by texts -/
variable {α : Type}
def esT (f : α → AV) (M : List (ByteArray × α)) : List (AV × AV) := M.map fun p => (.p (.string p.1), f p.2)
def ixT : List (ByteArray × α) → ByteArray → Nat → Option Nat
  | [], _, _ => none
  | (a, _) :: l, n, i => if a = n then some i else ixT l n (i + 1)
def gotT : List (ByteArray × α) → ByteArray → Option α
  | [], _ => none
  | (a, h) :: l, n => if a = n then some h else gotT l n
def putT (M : List (ByteArray × α)) (n : ByteArray) (x : α) : List (ByteArray × α) := match ixT M n 0 with | none => M ++ [(n, x)] | some j => M.set j (n, x)
theorem ixT_spec (n : ByteArray) : ∀ (l : List (ByteArray × α)) (i : Nat), match ixT l n i with
    | none => gotT l n = none
    | some j => i ≤ j ∧ ∃ h, gotT l n = some h ∧ l[j - i]? = some (n, h)
  | [], i => rfl
  | (a, h) :: l, i => by
    have ih := ixT_spec n l (i + 1)
    rw [ixT, gotT]
    by_cases e : a = n
    · rw [if_pos e, if_pos e]
      exact ⟨Nat.le_refl _, h, rfl, by simp [e]⟩
    · rw [if_neg e, if_neg e]
      cases hq : ixT l n (i + 1) with
      | none => rw [hq] at ih; exact ih
      | some j =>
        rw [hq] at ih
        obtain ⟨h1, h', h2, h3⟩ := ih
        exact ⟨by omega, h', h2, by rw [show j - i = (j - (i + 1)) + 1 by omega]; exact h3⟩
theorem find_esT (f : α → AV) (d0 : α) (n : ByteArray) : ∀ (M : List (ByteArray × α)) (i : Nat), amfind .string (.p (.string n)) (esT f M) i = some ((ixT M n i).map fun j => (j, f ((gotT M n).getD d0)))
  | [], i => rfl
  | (a, h) :: L, i => by
    have ih := find_esT f d0 n L (i + 1)
    have e : esT f ((a, h) :: L) = (.p (.string a), f h) :: esT f L := rfl
    rw [e, amfind, ixT, gotT]
    by_cases hc : a = n
    · subst hc; simp [akey]
    · have hc' : ¬ n = a := fun e => hc e.symm
      simp [akey, hc, hc', ih]
theorem ixT_some (M : List (ByteArray × α)) (n : ByteArray) : (ixT M n 0).isSome = (gotT M n).isSome := by
  have := ixT_spec n M 0
  cases hq : ixT M n 0 with
  | none => rw [hq] at this; simp only at this; rw [this]; rfl
  | some j => rw [hq] at this; obtain ⟨_, v, hv, _⟩ := this; rw [hv]; rfl
theorem ixT_none {M : List (ByteArray × α)} {n : ByteArray} (h : ixT M n 0 = none) : gotT M n = none := by
  have := ixT_spec n M 0
  rw [h] at this; exact this
theorem gotT_put (M : List (ByteArray × α)) (n m : ByteArray) (x : α) : gotT (putT M n x) m = if n = m then some x else gotT M m := by
  unfold putT
  have key : ∀ (M : List (ByteArray × α)) (i : Nat), gotT (match ixT M n i with | none => M ++ [(n, x)] | some j => M.set (j - i) (n, x)) m = if n = m then some x else gotT M m := by
    intro M
    induction M with
    | nil => intro i; simp [ixT, gotT]
    | cons p M ih =>
      obtain ⟨a, h⟩ := p
      intro i
      rw [ixT]
      by_cases e : a = n
      · subst e
        simp [gotT]
        split <;> rfl
      · rw [if_neg e]
        have ih := ih (i + 1)
        have hs := ixT_spec n M (i + 1)
        cases hq : ixT M n (i + 1) with
        | none =>
          rw [hq] at ih
          simp only [List.cons_append, gotT] at ih ⊢
          rw [ih]
          by_cases e2 : a = m
          · subst e2
            have : ¬ n = a := fun h => e h.symm
            simp [this]
          · simp [e2]
        | some j =>
          rw [hq] at ih hs
          simp only at ih hs ⊢
          rw [show j - i = (j - (i + 1)) + 1 by omega, List.set_cons_succ, gotT, ih, gotT]
          by_cases e2 : a = m
          · subst e2
            have : ¬ n = a := fun h => e h.symm
            simp [this]
          · simp [e2]
  exact key M 0
theorem keys_putT (M : List (ByteArray × α)) (n : ByteArray) (x : α) : (putT M n x).map Prod.fst = if (gotT M n).isSome = true then M.map Prod.fst else M.map Prod.fst ++ [n] := by
  unfold putT
  have hs := ixT_spec n M 0
  cases hq : ixT M n 0 with
  | none => rw [hq] at hs; simp only at hs; simp [hs]
  | some j =>
    rw [hq] at hs
    obtain ⟨_, h, h1, h2⟩ := hs
    simp only [h1, Option.isSome_some, if_true, List.map_set]
    simp only [Nat.sub_zero] at h2
    refine List.ext_getElem? fun i => ?_
    rw [List.getElem?_set]
    split
    · rename_i e
      subst e
      split
      · rw [List.getElem?_map, h2]; rfl
      · rename_i e; rw [List.getElem?_eq_none (by omega)]
    · rfl
theorem gotT_mem {M : List (ByteArray × α)} {n : ByteArray} : (gotT M n).isSome = true ↔ n ∈ M.map Prod.fst := by
  induction M with
  | nil => simp [gotT]
  | cons p M ih =>
    obtain ⟨a, h⟩ := p
    rw [gotT]
    by_cases e : a = n
    · subst e; simp
    · have : ¬ n = a := fun h => e h.symm
      simp only [if_neg e, ih, List.map_cons, List.mem_cons, this, false_or]
theorem nodup_putT {M : List (ByteArray × α)} (h : (M.map Prod.fst).Nodup) (n : ByteArray) (x : α) : ((putT M n x).map Prod.fst).Nodup := by
  rw [keys_putT]
  split
  · exact h
  · rename_i hn
    have : n ∉ M.map Prod.fst := fun hm => hn (gotT_mem.2 hm)
    rw [List.nodup_append]
    refine ⟨h, by simp, ?_⟩
    intro a ha b hb
    simp at hb
    subst hb
    exact fun e => this (e ▸ ha)
end Go.AL
