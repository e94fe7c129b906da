/- Parts of the proof of GraphBehind: the logic, contracts, plain laws. -/
import Derived.Test.YtofopejmidlceaaZGraphBehind12
import Derived.Lib.SlicesCompact
import Derived.Test.YtofopejmidlceaaZGraphBehind11
/-! Contract: slices.Insert of one number. -/
namespace Go.AL
open Go.Proofs Go.RowKit Go.Shelf
set_option linter.unusedSimpArgs false
set_option linter.unusedVariables false
variable {σ : ASt}
def insAt (zs : List Int) (i : Nat) (x : Int) : List Int := zs.take i ++ x :: zs.drop i
theorem insAt_len (zs : List Int) (i : Nat) (x : Int) (hi : i ≤ zs.length) : (insAt zs i x).length = zs.length + 1 := by
  simp [insAt]; omega
theorem insAt_get (zs : List Int) (i : Nat) (x : Int) (hi : i ≤ zs.length) (j : Nat) : (insAt zs i x)[j]? = if j < i then zs[j]? else if j = i then some x else zs[j - 1]? := by
  unfold insAt
  have hl : (zs.take i).length = i := by simp; omega
  rw [List.getElem?_append, hl]
  split
  · rename_i h; rw [List.getElem?_take_of_lt h]
  · rename_i h
    by_cases e : j = i
    · subst e; simp
    · rw [if_neg e, show j - i = (j - i - 1) + 1 by omega, List.getElem?_cons_succ, List.getElem?_drop]
      congr 1; omega
theorem touch_setCells (b : Nat) : ∀ (vs : List Value) (o : Nat) (w : World), Touch w (w.setCells b o vs) b
  | [], _, w => Touch.refl w b
  | v :: r, o, w => (touch_setCell w ⟨b, o, none⟩ v).trans (touch_setCells b r (o + 1) _)
theorem touch_drew (w : World) (b : Nat) : Touch w w.drew b := ⟨rfl, rfl, rfl, rfl, fun _ _ => rfl⟩
theorem heap_setCells (b : Nat) {el : TypeId} {fr : Nat × Nat} : ∀ (vs : List Value) (o : Nat) (w : World) (arr : Array Value), w.heap[b]? = some (.cells arr el fr) → ∃ arr', (w.setCells b o vs).heap[b]? = some (.cells arr' el fr) ∧ arr'.size = arr.size
  | [], _, w, arr, h => ⟨arr, h, rfl⟩
  | v :: r, o, w, arr, h => by
    have h1 : (w.setCell ⟨b, o, none⟩ v).heap[b]? = some (.cells (arr.setIfInBounds o v) el fr) := by
      simp [World.setCell, Array.getElem?_modify, h]
    obtain ⟨arr', h2, h3⟩ := heap_setCells b r (o + 1) _ _ h1
    exact ⟨arr', h2, by simpa using h3⟩
theorem setCells_drew (b : Nat) : ∀ (vs : List Value) (o : Nat) (w : World), w.drew.setCells b o vs = (w.setCells b o vs).drew
  | [], _, _ => rfl
  | v :: r, o, w => setCells_drew b r (o + 1) (w.setCell ⟨b, o, none⟩ v)
theorem drop_get (zs : List Int) (i k : Nat) (hk : k < (zs.drop i).length) : ((zs.map (Value.int .i64)).drop i)[k]'(by simpa using hk) = .int .i64 (zs.drop i)[k] := by simp
/-- What a row holds behind the two stores, in either order. -/
theorem ins_cells (w w' : World) (g o i : Nat) (zs : List Int) (x : Int) (hi : i ≤ zs.length) (hsome : ∀ j, j < zs.length + 1 → (w.cell? ⟨g, o + j, none⟩).isSome = true) (hz : ∀ j, j < i → w.cell? ⟨g, o + j, none⟩ = some (.int .i64 (zs.getD j 0)))
    (hw : w' = (w.setCells g (o + (i + 1)) ((zs.map (Value.int .i64)).drop i)).setCells g (o + i) [.int .i64 x] ∨ w' = (w.setCells g (o + i) [.int .i64 x]).setCells g (o + (i + 1)) ((zs.map (Value.int .i64)).drop i)) :
    ∀ j z, (insAt zs i x)[j]? = some z → w'.cell? ⟨g, o + j, none⟩ = some (.int .i64 z) := by
  intro j z hj
  have hjl : j < zs.length + 1 := by rw [← insAt_len zs i x hi]; exact (List.getElem?_eq_some_iff.1 hj).1
  rw [insAt_get zs i x hi] at hj
  have hdl : ((zs.map (Value.int .i64)).drop i).length = zs.length - i := by simp
  rcases hw with rfl | rfl
  · by_cases h1 : j < i
    · rw [if_pos h1] at hj
      rw [World.cell?_setCells_out g _ _ _ _ (fun _ _ => .inl (by simp; omega)), World.cell?_setCells_out g _ _ _ _ (fun _ _ => .inl (by simp; omega)), hz j h1]
      simp [hj]
    · rw [if_neg h1] at hj
      by_cases h2 : j = i
      · subst h2
        rw [if_pos rfl] at hj
        obtain rfl := Option.some.inj hj
        have := World.cell?_setCells_in g [.int .i64 x] (o + j) (w.setCells g (o + (j + 1)) ((zs.map (Value.int .i64)).drop j)) (fun k hk => by
          obtain rfl : k = 0 := by simpa using hk
          rw [World.cell?_setCells_out g _ _ _ _ (fun _ _ => .inl (by simp))]
          exact hsome j hjl) 0 (by simp)
        simpa using this
      · rw [if_neg h2] at hj
        rw [World.cell?_setCells_out g _ _ _ _ (fun _ _ => .inr (by simp; omega))]
        have := World.cell?_setCells_in g ((zs.map (Value.int .i64)).drop i) (o + (i + 1)) w (fun k hk => by
          rw [show o + (i + 1) + k = o + (i + 1 + k) by omega]
          exact hsome _ (by rw [hdl] at hk; omega)) (j - (i + 1)) (by rw [hdl]; omega)
        rw [show o + (i + 1) + (j - (i + 1)) = o + j by omega] at this
        rw [this, drop_get zs i _ (by simp; omega)]
        obtain ⟨h3, h4⟩ := List.getElem?_eq_some_iff.1 hj
        rw [List.getElem_drop]
        simp only [show i + (j - (i + 1)) = j - 1 by omega, h4]
  · by_cases h1 : j < i
    · rw [if_pos h1] at hj
      rw [World.cell?_setCells_out g _ _ _ _ (fun _ _ => .inl (by simp; omega)), World.cell?_setCells_out g _ _ _ _ (fun _ _ => .inl (by simp; omega)), hz j h1]
      simp [hj]
    · rw [if_neg h1] at hj
      by_cases h2 : j = i
      · subst h2
        rw [if_pos rfl] at hj
        obtain rfl := Option.some.inj hj
        rw [World.cell?_setCells_out g _ _ _ _ (fun _ _ => .inl (by simp))]
        have := World.cell?_setCells_in g [.int .i64 x] (o + j) w (fun k hk => by
          obtain rfl : k = 0 := by simpa using hk
          exact hsome j hjl) 0 (by simp)
        simpa using this
      · rw [if_neg h2] at hj
        have := World.cell?_setCells_in g ((zs.map (Value.int .i64)).drop i) (o + (i + 1)) (w.setCells g (o + i) [.int .i64 x]) (fun k hk => by
          rw [World.cell?_setCells_out g _ _ _ _ (fun _ _ => .inr (by simp; omega)), show o + (i + 1) + k = o + (i + 1 + k) by omega]
          exact hsome _ (by rw [hdl] at hk; omega)) (j - (i + 1)) (by rw [hdl]; omega)
        rw [show o + (i + 1) + (j - (i + 1)) = o + j by omega] at this
        rw [this, drop_get zs i _ (by simp; omega)]
        obtain ⟨h3, h4⟩ := List.getElem?_eq_some_iff.1 hj
        rw [List.getElem_drop]
        simp only [show i + (j - (i + 1)) = j - 1 by omega, h4]
/-- In place. -/
theorem ins_here {G : Ghost} {w w' : World} {b β o off cap : Nat} {xs : List AV} {ys : List Int} {arr : Array Value} {el : TypeId} (hw : SimW G σ w) (hb : σ.sl b = some xs) (g : G.sl b = some (some (β, o, 1, cap))) (hsz : o + cap ≤ arr.size) (hcm : cap ≤ 9223372036854775807) (ht : Touch w w' β)
    (hh : ∃ arr', w'.heap[β]? = some (.cells arr' el (0, 0)) ∧ arr'.size = arr.size) (hpos : 0 < ys.length) (hle : off + ys.length ≤ cap) (hc : ∀ j z, ys[j]? = some z → w'.cell? ⟨β, o + off + j, none⟩ = some (.int .i64 z)) :
    ∃ G', Le G w G' w' ∧ SimW G' ((σ.dropSl b).addSl (ys.map vi)) w' ∧ Rep G' w' (.hsl σ.next 0 ys.length) (.slice (some ⟨β, o + off, none⟩) ys.length (cap - off)) := by
  obtain ⟨arr', hh', hs'⟩ := hh
  obtain ⟨h1, h2⟩ := hw.rewriteSl (r1 := (o + off, 1, cap - off)) (xs' := ys.map vi) hb g ht fun hl => .inr ⟨β, o + off, 1, cap - off, arr', el, upd_same _ _ _, hh', ⟨by simpa using hpos, by simp; omega⟩, ⟨by omega, by omega⟩, fun i x hx => by
    rw [List.getElem?_map] at hx
    obtain ⟨z, _, rfl⟩ := Option.map_eq_some_iff.1 hx
    rfl, fun i j c v hcc hv => by
    rw [rowCell_one (by intro x hx; obtain ⟨z, _, rfl⟩ := List.mem_map.1 hx; rfl)] at hcc
    split at hcc
    · rename_i hj
      subst hj
      rw [List.getElem?_map] at hcc
      obtain ⟨z, hz, rfl⟩ := Option.map_eq_some_iff.1 hcc
      have := hc i z hz
      rw [cell_of_heap hh'] at this
      simp only [Nat.mul_one, Nat.add_zero] at hv
      rw [hv] at this
      obtain rfl := Option.some.inj this
      exact .p _
    · cases hcc⟩
  refine ⟨_, h1, h2, ?_⟩
  have := Rep.hsl (G := G.addSl σ.next (some (β, o + off, 1, cap - off))) (w := w') σ.next 0 ys.length β (o + off) 1 (cap - off) (upd_same _ _ _) (by omega)
  simpa using this
/-- Elsewhere. -/
theorem ins_new {G : Ghost} {w w' : World} {b g cap : Nat} {ys : List Int} {arr : Array Value} {el : TypeId} (hw : SimW G σ w) (hbl : Below w.heap.size w w') (hg : w.heap.size ≤ g) (hh : w'.heap[g]? = some (.cells arr el (0, 0))) (hsz : cap ≤ arr.size) (hcm : cap ≤ 9223372036854775807) (hpos : 0 < ys.length) (hle : ys.length ≤ cap)
    (hc : ∀ j z, ys[j]? = some z → w'.cell? ⟨g, 0 + j, none⟩ = some (.int .i64 z)) :
    ∃ G', Le G w G' w' ∧ SimW G' ((σ.dropSl b).addSl (ys.map vi)) w' ∧ Rep G' w' (.hsl σ.next 0 ys.length) (.slice (some ⟨g, 0, none⟩) ys.length cap) := by
  have hwd := hw.less (dropSl_le σ b)
  have hl := Le.addSl hwd hbl (some (g, 0, 1, cap))
  refine ⟨_, hl, hwd.addSl (some (g, 0, 1, cap)) hbl (fun β q e => by cases e; exact hg) (fun _ => .inr ⟨g, 0, 1, cap, arr, el, upd_same _ _ _, hh, ⟨by simpa using hpos, by simpa using hle⟩, ⟨by omega, hcm⟩, fun i x hx => by
    rw [List.getElem?_map] at hx
    obtain ⟨z, _, rfl⟩ := Option.map_eq_some_iff.1 hx
    rfl, fun i j c v hcc hv => by
    rw [rowCell_one (by intro x hx; obtain ⟨z, _, rfl⟩ := List.mem_map.1 hx; rfl)] at hcc
    split at hcc
    · rename_i hj
      subst hj
      rw [List.getElem?_map] at hcc
      obtain ⟨z, hz, rfl⟩ := Option.map_eq_some_iff.1 hcc
      have := hc i z hz
      rw [cell_of_heap hh] at this
      simp only [Nat.mul_one, Nat.add_zero] at hv
      rw [hv] at this
      obtain rfl := Option.some.inj this
      exact .p _
    · cases hcc⟩), ?_⟩
  have := Rep.hsl (G := G.addSl (σ.dropSl b).next (some (g, 0, 1, cap))) (w := w') σ.next 0 ys.length g 0 1 cap (upd_same _ _ _) (by omega)
  simpa using this
set_option maxHeartbeats 4000000 in
theorem iinsert_ok {b c off n i : Nat} {us : List Int} {x : Int} (hb : σ.sl b = some (us.map vi)) (hn : off + n ≤ us.length) (hi : i ≤ n) (hc : σ.sl c = some [vi x]) (hbc : b ≠ c) (hbig : n ≤ 1000000) :
    ACall Try.prog 46 [.hsl b off n, vi i, .hsl c 0 1] σ fun r τ => r = .hsl σ.next 0 (n + 1) ∧ τ = (σ.dropSl b).addSl ((insAt ((us.drop off).take n) i x).map vi) := by
  intro G w vs hv hw
  obtain ⟨hv1, hv2⟩ := hv
  obtain ⟨v0, v1, v2, rfl⟩ : ∃ v0 v1 v2, vs = #[v0, v1, v2] := by
    obtain ⟨l⟩ := vs
    match l, hv1 with
    | [v0, v1, v2], _ => exact ⟨v0, v1, v2, rfl⟩
  have hr0 := hv2 0 _ v0 rfl rfl
  have hr1 := hv2 1 _ v1 rfl rfl
  have hr2 := hv2 2 _ v2 rfl rfl
  cases hr1
  have ht3 : Try.insertA_ren.t 3 = 3 := rfl
  have endGrow := @Any2.slices_Insert_int_end_grow _ _ Try.insertA
  have midGrow := @Any2.slices_Insert_int_grow _ _ Try.insertA
  simp only [ht3] at endGrow midGrow
  have hnew : ∀ (o : Obj), (w.drew.alloc o).heap[w.heap.size]? = some o := fun o => heap_alloc_new w.drew o
  -- what is put
  obtain ⟨γ, p, cp, ar2, el2, rfl, k1, k2, k3, k4⟩ : ∃ γ p cp ar2 el2, v2 = .slice (some ⟨γ, p, none⟩) 1 cp ∧ G.sl c = some (some (γ, p, 1, cp)) ∧ w.heap[γ]? = some (.cells ar2 el2 (0, 0)) ∧ w.cell? ⟨γ, p, none⟩ = some (.int .i64 x) ∧ p + cp ≤ ar2.size := by
    rcases own_holds (zs := [x]) hw hc hr2 with ⟨h, _⟩ | ⟨β, o, cap, arr, el, h1, h2, h3, h4, h5, h6, h7⟩
    · cases h
    · have := (h7 0 (by simp)).1
      exact ⟨β, o, cap, arr, el, h1, h3, h4, by simpa using this, h5.1⟩
  obtain ⟨zs, hzs⟩ : ∃ zs, zs = (us.drop off).take n := ⟨_, rfl⟩
  have hzl : zs.length = n := by rw [hzs]; simp; omega
  rw [← hzs]
  have hin := insAt_len zs i x (by omega)
  have hvsx : ∀ (j : Nat) (v : Value), [Value.int .i64 x][j]? = some v → w.cell? ⟨γ, p + j, none⟩ = some v := fun j v h => by
    match j, h with
    | 0, h => obtain rfl := Option.some.inj h; exact k3
  have fin : ∀ w' v, (∃ G', Le G w G' w' ∧ SimW G' ((σ.dropSl b).addSl ((insAt zs i x).map vi)) w' ∧ Rep G' w' (.hsl σ.next 0 (insAt zs i x).length) v) → retOf (Outc G w fun r τ => r = .hsl σ.next 0 (n + 1) ∧ τ = (σ.dropSl b).addSl ((insAt zs i x).map vi)) (.returned v) w' := by
    rintro w' v ⟨G', h1, h2, h3⟩
    rw [hin, hzl] at h3
    exact ⟨_, G', _, h1, h2, h3, rfl, rfl⟩
  have empty : ∀ a, n = 0 → v0 = .slice a 0 0 → Calls Try.prog 46 #[v0, .int .i64 i, .slice (some ⟨γ, p, none⟩) 1 cp] w (retOf (Outc G w fun r τ => r = .hsl σ.next 0 (n + 1) ∧ τ = (σ.dropSl b).addSl ((insAt zs i x).map vi))) := by
    rintro a h0 rfl
    obtain rfl : i = 0 := by omega
    obtain rfl : zs = [] := List.eq_nil_of_length_eq_zero (by omega)
    refine Calls.mono (endGrow a 0 0 γ p 1 cp [] [.int .i64 x] w (by omega) (by omega) (by omega) (by omega) rfl rfl (fun _ => rfl) (fun _ _ j v h => by cases h) hvsx (by simp [Value.oneCell'])) fun e w' he => ?_
    obtain ⟨rfl, rfl⟩ := he
    have hcap := grownCap_ge w 1 0 3
    have hcap2 := grownCap_le_maxLen w 1 0 3 (by decide)
    refine fin _ _ (ins_new (cap := grownCap w 1 0 3) hw ((Below.refl _ w).drew.alloc (Nat.le_refl _) _) (Nat.le_refl _) (hnew _) (by simp [size_zeroCells, Value.cells]; omega) (by unfold maxLen at hcap2; omega) (by rw [hin]; omega) (by rw [hin]; simpa using hcap) (fun j z hj => ?_))
    obtain rfl : j = 0 := by have := (List.getElem?_eq_some_iff.1 hj).1; rw [hin] at this; simp at this; omega
    have : z = x := by simpa [insAt] using hj.symm
    subst this
    rw [cell_of_heap (hnew _), Array.getElem?_append_left (by simp)]
    simp
  cases hr0 with
  | hnil _ a h => exact empty a rfl rfl
  | hend _ _ a β o s cap h hle => exact empty a rfl rfl
  | hsl _ _ _ β o s cap h hle =>
    rcases hw.sl b _ hb with ⟨g1, _⟩ | ⟨β', o', s', cap', arr, el, g1, g2, g3, g4, g5, g6⟩
    · rw [h] at g1; cases g1
    obtain ⟨rfl, rfl, rfl, rfl⟩ : β = β' ∧ o = o' ∧ s = s' ∧ cap = cap' := by rw [h] at g1; simpa using g1
    obtain rfl : s = 1 := by
      have hpos : 0 < us.length := by simpa using g3.1
      have := g5 0 (vi us[0]) (by simp [hpos])
      simpa [AV.cells] using this.symm
    have hul : us.length ≤ cap := by simpa using g3.2
    simp only [Nat.mul_one] at *
    have cells : ∀ j (hj : j < n), w.cell? ⟨β, o + off + j, none⟩ = some (.int .i64 (zs.getD j 0)) := fun j hj => by
      have hj' : off + j < us.length := by omega
      have hlt : o + (off + j) < arr.size := by omega
      have := g6 (off + j) 0 (vi us[off + j]) arr[o + (off + j)] (by
        rw [rowCell_one (by intro x hx; obtain ⟨z, _, rfl⟩ := List.mem_map.1 hx; rfl)]
        simp [hj']) (by simp [hlt])
      rw [cell_of_heap g2, show o + off + j = o + (off + j) by omega, Array.getElem?_eq_getElem hlt]
      generalize arr[o + (off + j)] = u at this
      cases this
      rw [hzs]
      simp [hj, hj']
    have cells' : ∀ (j : Nat) (v : Value), (zs.map (Value.int .i64))[j]? = some v → w.cell? ⟨β, o + off + j, none⟩ = some v := fun j v hj => by
      rw [List.getElem?_map] at hj
      obtain ⟨z, hz, rfl⟩ := Option.map_eq_some_iff.1 hj
      rw [cells j (by have := (List.getElem?_eq_some_iff.1 hz).1; omega)]
      simp [hz]
    have one1 : ∀ v ∈ zs.map (Value.int .i64), v.oneCell' = true := fun v hv => by
      obtain ⟨z, _, rfl⟩ := List.mem_map.1 hv; rfl
    have one2 : ∀ v ∈ [Value.int .i64 x], v.oneCell' = true := by simp [Value.oneCell']
    have there : ∀ j, j < cap - off → (w.cell? ⟨β, o + off + j, none⟩).isSome = true := fun j hj => by
      rw [cell_of_heap g2, Array.getElem?_eq_getElem (by omega)]; rfl
    have nofr : ∀ k, w.frozen? ⟨β, k, none⟩ = false := fun k => by simp [World.frozen?, g2]
    have hne : γ ≠ β := fun e => by
      subst e
      have := (hw.own γ _ (.sl b γ _ _ hb h)).2.1 _ (.sl c γ _ _ hc k1)
      simp at this
      exact hbc this.symm
    by_cases hroom : n + 1 ≤ cap - off
    · by_cases hin2 : i = n
      · subst hin2
        refine Calls.mono (Any2.slices_Insert_int_end_room Try.insertA β (o + off) i (cap - off) γ p 1 cp [.int .i64 x] w (by omega) hroom (by omega) rfl (fun j hj => by
          obtain rfl : j = 0 := by omega
          rw [show o + off + i + 0 = o + off + i by omega]; exact there i (by omega)) (fun j hj => nofr _) hvsx one2) fun e w' he => ?_
        obtain ⟨rfl, rfl⟩ := he
        have := ins_here (off := off) (ys := insAt zs i x) hw hb h g4.1 g4.2 (touch_setCells β _ _ w) (heap_setCells β _ _ w arr g2) (by omega) (by omega) (ins_cells w _ β (o + off) i zs x (by omega) (fun j hj => there j (by omega)) (fun j hj => cells j (by omega)) (.inl (by rw [List.drop_eq_nil_of_le (by simp; omega)]; rfl)))
        refine fin _ _ ?_
        rw [show i + 1 = (insAt zs i x).length by omega]
        exact this
      · refine Calls.mono (Any2.slices_Insert_int_shift Try.insertA β (o + off) n (cap - off) i γ p 1 cp (zs.map (Value.int .i64)) [.int .i64 x] w (by omega) (by omega) hroom (by omega) hne (by simpa using hzl) rfl cells' (fun j hj => there j (by omega)) (fun j hj => nofr _) hvsx one1 one2 el2 el ar2.size arr.size (by simp [World.shape?, k2]) (by simp [World.shape?, g2]) (by omega) (by simp [World.frozen?, k2]) (by simp [World.frozen?, k2])) fun e w' he => ?_
        obtain ⟨rfl, rfl⟩ := he
        have := ins_here (off := off) (ys := insAt zs i x) hw hb h g4.1 g4.2 (((touch_drew w β).trans (touch_setCells β _ _ _)).trans (touch_setCells β _ _ _)) (by
          obtain ⟨a1, h1, h2⟩ := heap_setCells β ((zs.map (Value.int .i64)).drop i) (o + off + (i + 1)) w.drew arr g2
          obtain ⟨a2, h3, h4⟩ := heap_setCells β [.int .i64 x] (o + off + i) _ a1 h1
          exact ⟨a2, h3, h4.trans h2⟩) (by omega) (by omega) (ins_cells w.drew _ β (o + off) i zs x (by omega) (fun j hj => there j (by omega)) (fun j hj => cells j (by omega)) (.inl rfl))
        refine fin _ _ ?_
        rw [show n + 1 = (insAt zs i x).length by omega]
        exact this
    · have hcap := grownCap_ge w (n + 1) (cap - off) 3
      have hcap2 := grownCap_le_maxLen w (n + 1) (cap - off) 3 (by unfold maxLen; omega)
      by_cases hin2 : i = n
      · subst hin2
        refine Calls.mono (endGrow (some ⟨β, o + off, none⟩) i (cap - off) γ p 1 cp (zs.map (Value.int .i64)) [.int .i64 x] w (by omega) (by omega) (by omega) (by omega) (by simpa using hzl) rfl (fun h => by cases h) (fun a ha j v hj => by
          obtain rfl := Option.some.inj ha
          rw [Addr.add_lit]; exact cells' j v hj) hvsx one2) fun e w' he => ?_
        obtain ⟨rfl, rfl⟩ := he
        have := ins_new (b := b) (ys := insAt zs i x) (cap := grownCap w (i + 1) (cap - off) 3) (arr := (zs.map (Value.int .i64) ++ [Value.int .i64 x]).toArray ++ Builtin.zeroCells (Value.int .i64 0).cells (grownCap w (i + 1) (cap - off) 3 - (i + 1))) (el := 3) (w' := w.drew.alloc (.cells ((zs.map (Value.int .i64) ++ [Value.int .i64 x]).toArray ++ Builtin.zeroCells (Value.int .i64 0).cells (grownCap w (i + 1) (cap - off) 3 - (i + 1))) 3)) hw ((Below.refl _ w).drew.alloc (Nat.le_refl _) _) (Nat.le_refl _) (hnew _) (by simp [size_zeroCells, Value.cells]; omega) (by unfold maxLen at hcap2; omega) (by omega) (by omega) (fun j z hj => by
          rw [insAt_get zs i x (by omega)] at hj
          rw [cell_of_heap (hnew _), Nat.zero_add]
          split at hj
          · rename_i hji
            have : j < zs.length := by omega
            rw [Array.getElem?_append_left (by simp; omega)]
            obtain ⟨_, hz⟩ := List.getElem?_eq_some_iff.1 hj
            simp
            rw [List.getElem?_append_left (by simpa using this)]
            simp [hj]
          · split at hj
            · rename_i hji
              subst hji
              rw [Array.getElem?_append_left (by simp; omega)]
              obtain rfl := Option.some.inj hj
              simp [hzl]
            · rename_i h1 h2
              have := (List.getElem?_eq_some_iff.1 hj).1; omega)
        refine fin _ _ ?_
        rw [show i + 1 = (insAt zs i x).length by omega]
        rw [show i + 1 = (insAt zs i x).length by omega] at this
        exact this
      · refine Calls.mono (midGrow β (o + off) n (cap - off) i γ p 1 cp (zs.map (Value.int .i64)) [.int .i64 x] w (by omega) (by omega) (by omega) (by omega) (by omega) (by simpa using hzl) rfl cells' hvsx one1 one2) fun e w' he => ?_
        obtain ⟨rfl, rfl⟩ := he
        obtain ⟨A0, hA0⟩ : ∃ A0 : Array Value, A0 = ((zs.map (Value.int .i64)).take i).toArray ++ Builtin.zeroCells (Value.int .i64 0).cells (n + 1 - i) ++ Builtin.zeroCells (Value.int .i64 0).cells (grownCap w (n + 1) (cap - off) 3 - (n + 1)) := ⟨_, rfl⟩
        change retOf _ _ ((((w.alloc (.cells (((zs.map (Value.int .i64)).take i).toArray ++ Builtin.zeroCells (Value.int .i64 0).cells (n + 1 - i) ++ Builtin.zeroCells (Value.int .i64 0).cells (grownCap w (n + 1) (cap - off) 3 - (n + 1))) 3)).drew.setCells w.heap.size i [.int .i64 x]).drew).setCells w.heap.size (i + 1) ((zs.map (Value.int .i64)).drop i))
        rw [← hA0]
        have hA0s : A0.size = grownCap w (n + 1) (cap - off) 3 := by
          rw [hA0]; simp [size_zeroCells, Value.cells]; omega
        have h0 : (w.alloc (.cells A0 3)).drew.heap[w.heap.size]? = some (.cells A0 3 (0, 0)) := heap_alloc_new _ _
        obtain ⟨a1, h1, h2⟩ := heap_setCells w.heap.size [.int .i64 x] i (w.alloc (.cells A0 3)).drew A0 h0
        obtain ⟨a2, h3, h4⟩ := heap_setCells w.heap.size ((zs.map (Value.int .i64)).drop i) (i + 1) ((w.alloc (.cells A0 3)).drew.setCells w.heap.size i [.int .i64 x]).drew a1 h1
        have ht : Touch (w.alloc (.cells A0 3)) ((((w.alloc (.cells A0 3)).drew.setCells w.heap.size i [.int .i64 x]).drew).setCells w.heap.size (i + 1) ((zs.map (Value.int .i64)).drop i)) w.heap.size :=
          (((touch_drew _ _).trans (touch_setCells _ _ _ _)).trans (touch_drew _ _)).trans (touch_setCells _ _ _ _)
        have hbl : Below w.heap.size w (w.alloc (.cells A0 3)) := (Below.refl _ w).alloc (Nat.le_refl _) _
        have hbl2 : Below w.heap.size w ((((w.alloc (.cells A0 3)).drew.setCells w.heap.size i [.int .i64 x]).drew).setCells w.heap.size (i + 1) ((zs.map (Value.int .i64)).drop i)) :=
          ⟨ht.os.trans hbl.os, ht.tape.trans hbl.tape, ht.output.trans hbl.output, by rw [ht.size]; exact hbl.size, fun k hk => (ht.block k (by omega)).trans (hbl.block k hk)⟩
        rw [setCells_drew] at h3 hbl2 ⊢
        have := ins_new (b := b) (ys := insAt zs i x) (cap := grownCap w (n + 1) (cap - off) 3) hw hbl2 (Nat.le_refl _) h3 (by omega) (by unfold maxLen at hcap2; omega) (by omega) (by omega)
          (ins_cells (w.alloc (.cells A0 3)).drew (((w.alloc (.cells A0 3)).drew.setCells w.heap.size i [.int .i64 x]).setCells w.heap.size (i + 1) ((zs.map (Value.int .i64)).drop i)) w.heap.size 0 i zs x (by omega) (fun j hj => by
            rw [cell_of_heap h0, Nat.zero_add, Array.getElem?_eq_getElem (by omega)]; rfl) (fun j hj => by
            have hjz : j < zs.length := by omega
            rw [cell_of_heap h0, Nat.zero_add, hA0, Array.getElem?_append_left (by simp [size_zeroCells, Value.cells]; omega), Array.getElem?_append_left (by simp; omega)]
            simp [hj, hjz]) (.inr (by simp only [Nat.zero_add])))
        refine fin _ _ ?_
        rw [show n + 1 = (insAt zs i x).length by omega]
        rw [show n + 1 = (insAt zs i x).length by omega] at this
        exact this
end Go.AL
/-! An empty slice's value; clear of a slice; maps by whole numbers. -/
namespace Go.AL
open Go.RowKit (Below)
set_option linter.unusedVariables false
set_option linter.unusedSimpArgs false
variable {P : Program} {σ : ASt} {R : AV → ASt → Prop} {D : List Deferred} {Q : Exit → List AV → ASt → Prop} {fr : List AV} {ops : Array Oper} {o : Oper} {rest : List Oper} {ρ : Operand → AV}
/-- An empty slice is nil, or it is not. -/
theorem aw_vsl0 {c : Code} (i : Nat) (hi : fr[i]? = some (.vsl [])) (h : ∀ a cap, AW P D c Q (fr.set i (.p (.slice a 0 cap))) σ) : AW P D c Q fr σ := by
  intro r1 r2 G a w hs
  have hl : i < a.tmps.toList.length := by rw [← hs.tmps.1]; exact (List.getElem?_eq_some_iff.1 hi).1
  obtain ⟨v, hv⟩ : ∃ v, a.tmps.toList[i]? = some v := ⟨_, List.getElem?_eq_getElem hl⟩
  have hr := hs.tmps.2 i _ v hi hv
  have key : ∃ a0 cap, v = .slice a0 0 cap := by
    generalize hx : ([] : List AV) = xs at hr
    cases hr with
    | vnil a cap => exact ⟨_, _, rfl⟩
    | vsl _ β o s cap val hcap hs h hr => subst hx; exact ⟨_, _, rfl⟩
  obtain ⟨a0, cap, rfl⟩ := key
  refine h a0 cap r1 r2 G a w ⟨⟨by simpa using hs.tmps.1, fun j c u hc hu => ?_⟩, hs.defers, hs.w⟩
  rw [List.getElem?_set] at hc
  split at hc
  · rename_i e
    subst e
    split at hc
    · obtain rfl := Option.some.inj hc
      obtain rfl := Option.some.inj (hv.symm.trans hu)
      exact .p _
    · cases hc
  · exact hs.tmps.2 j c u hc hu
/-! ### maps by whole numbers -/
variable {α : Type}
def esK (f : α → AV) (M : List (Int × α)) : List (AV × AV) := M.map fun p => (.p (.int .i64 p.1), f p.2)
def ixK : List (Int × α) → Int → Nat → Option Nat
  | [], _, _ => none
  | (a, _) :: l, n, i => if a = n then some i else ixK l n (i + 1)
def gotK : List (Int × α) → Int → Option α
  | [], _ => none
  | (a, h) :: l, n => if a = n then some h else gotK l n
def putK (M : List (Int × α)) (n : Int) (x : α) : List (Int × α) := match ixK M n 0 with | none => M ++ [(n, x)] | some j => M.set j (n, x)
theorem esK_key (f : α → AV) (M : List (Int × α)) : (esK f M).map Prod.fst = (M.map Prod.fst).map fun s => .p (.int .i64 s) := by simp [esK]
theorem ixK_spec (n : Int) : ∀ (l : List (Int × α)) (i : Nat), match ixK l n i with
    | none => gotK l n = none
    | some j => i ≤ j ∧ ∃ h, gotK l n = some h ∧ l[j - i]? = some (n, h)
  | [], i => rfl
  | (a, h) :: l, i => by
    have ih := ixK_spec n l (i + 1)
    rw [ixK, gotK]
    by_cases e : a = n
    · rw [if_pos e, if_pos e]
      exact ⟨Nat.le_refl _, h, rfl, by simp [e]⟩
    · rw [if_neg e, if_neg e]
      cases hq : ixK l n (i + 1) with
      | none => rw [hq] at ih; exact ih
      | some j =>
        rw [hq] at ih
        obtain ⟨h1, h', h2, h3⟩ := ih
        exact ⟨by omega, h', h2, by rw [show j - i = (j - (i + 1)) + 1 by omega]; exact h3⟩
theorem find_esK (f : α → AV) (d0 : α) (k : IntKind) (n : Int) : ∀ (M : List (Int × α)) (i : Nat), amfind (.int k) (.p (.int .i64 n)) (esK f M) i = some ((ixK M n i).map fun j => (j, f ((gotK M n).getD d0)))
  | [], i => rfl
  | (a, h) :: L, i => by
    have ih := find_esK f d0 k n L (i + 1)
    have e : esK f ((a, h) :: L) = (.p (.int .i64 a), f h) :: esK f L := rfl
    rw [e, amfind, ixK, gotK]
    by_cases hc : a = n
    · subst hc; simp [akey]
    · have hc' : ¬ n = a := fun e => hc e.symm
      simp [akey, hc, hc', ih]
theorem ixK_some (M : List (Int × α)) (n : Int) : (ixK M n 0).isSome = (gotK M n).isSome := by
  have := ixK_spec n M 0
  cases hq : ixK M n 0 with
  | none => rw [hq] at this; simp only at this; rw [this]; rfl
  | some j => rw [hq] at this; obtain ⟨_, v, hv, _⟩ := this; rw [hv]; rfl
theorem ixK_none {M : List (Int × α)} {n : Int} (h : ixK M n 0 = none) : gotK M n = none := by
  have := ixK_spec n M 0
  rw [h] at this; exact this
theorem put_esK (f : α → AV) (k : IntKind) (M : List (Int × α)) (n : Int) (x : α) : amput (.int k) (.p (.int .i64 n)) (f x) (esK f M) = some (esK f (putK M n x)) := by
  rw [amput, find_esK f x, putK]
  cases hq : ixK M n 0 with
  | none => simp [esK]
  | some j => simp [esK, List.map_set]
theorem gotK_put (M : List (Int × α)) (n m : Int) (x : α) : gotK (putK M n x) m = if n = m then some x else gotK M m := by
  unfold putK
  have key : ∀ (M : List (Int × α)) (i : Nat), gotK (match ixK M n i with | none => M ++ [(n, x)] | some j => M.set (j - i) (n, x)) m = if n = m then some x else gotK M m := by
    intro M
    induction M with
    | nil => intro i; simp [ixK, gotK]
    | cons p M ih =>
      obtain ⟨a, h⟩ := p
      intro i
      rw [ixK]
      by_cases e : a = n
      · subst e
        simp [gotK]
        split <;> rfl
      · rw [if_neg e]
        have ih := ih (i + 1)
        have hs := ixK_spec n M (i + 1)
        cases hq : ixK M n (i + 1) with
        | none =>
          rw [hq] at ih
          simp only [List.cons_append, gotK] at ih ⊢
          rw [ih]
          by_cases e2 : a = m
          · subst e2
            have : ¬ n = a := fun h => e h.symm
            simp [this]
          · simp [e2]
        | some j =>
          rw [hq] at ih hs
          simp only at ih hs ⊢
          rw [show j - i = (j - (i + 1)) + 1 by omega, List.set_cons_succ, gotK, ih, gotK]
          by_cases e2 : a = m
          · subst e2
            have : ¬ n = a := fun h => e h.symm
            simp [this]
          · simp [e2]
  exact key M 0
theorem keys_put (M : List (Int × α)) (n : Int) (x : α) : (putK M n x).map Prod.fst = if (gotK M n).isSome = true then M.map Prod.fst else M.map Prod.fst ++ [n] := by
  unfold putK
  have hs := ixK_spec n M 0
  cases hq : ixK M n 0 with
  | none => rw [hq] at hs; simp only at hs; simp [hs]
  | some j =>
    rw [hq] at hs
    obtain ⟨_, h, h1, h2⟩ := hs
    simp only [h1, Option.isSome_some, if_true, List.map_set]
    simp only [Nat.sub_zero] at h2
    refine List.ext_getElem? fun i => ?_
    rw [List.getElem?_set]
    split
    · rename_i e
      subst e
      split
      · rw [List.getElem?_map, h2]; rfl
      · rename_i e; rw [List.getElem?_eq_none (by omega)]
    · rfl
theorem gotK_mem {M : List (Int × α)} {n : Int} : (gotK M n).isSome = true ↔ n ∈ M.map Prod.fst := by
  induction M with
  | nil => simp [gotK]
  | cons p M ih =>
    obtain ⟨a, h⟩ := p
    rw [gotK]
    by_cases e : a = n
    · subst e; simp
    · have : ¬ n = a := fun h => e h.symm
      simp only [if_neg e, ih, List.map_cons, List.mem_cons, this, false_or]
theorem nodup_put {M : List (Int × α)} (h : (M.map Prod.fst).Nodup) (n : Int) (x : α) : ((putK M n x).map Prod.fst).Nodup := by
  rw [keys_put]
  split
  · exact h
  · rename_i hn
    have : n ∉ M.map Prod.fst := fun hm => hn (gotK_mem.2 hm)
    rw [List.nodup_append]
    refine ⟨h, by simp, ?_⟩
    intro a ha b hb
    simp at hb
    subst hb
    exact fun e => this (e ▸ ha)
end Go.AL
/-! clear of a slice of one's own. -/
namespace Go.AL
open Go.RowKit (Below)
set_option linter.unusedVariables false
set_option linter.unusedSimpArgs false
variable {P : Program} {σ : ASt} {R : AV → ASt → Prop} {D : List Deferred} {Q : Exit → List AV → ASt → Prop} {fr : List AV} {ops : Array Oper} {o : Oper} {rest : List Oper} {ρ : Operand → AV}
theorem zeroCells_at (z : Array Value) (k i j n : Nat) (hn : z.size = n) (hi : i < k) (hj : j < n) : (Builtin.zeroCells z k)[i * n + j]? = z[j]? := by
  subst hn
  have hlt : i * z.size + j < k * z.size := by
    have : (i + 1) * z.size ≤ k * z.size := Nat.mul_le_mul_right _ hi
    rw [Nat.add_mul] at this; omega
  have hmod : (i * z.size + j) % z.size = j := by rw [Nat.mul_comm, Nat.mul_add_mod]; exact Nat.mod_eq_of_lt hj
  unfold Builtin.zeroCells
  simp only [Array.getElem?_map, Array.getElem?_range, hlt, if_true, Option.map_some, hmod]
  rw [getElem!_pos z j hj, Array.getElem?_eq_getElem hj]
theorem opq_clear {s : Operand} {t el : TypeId} (ho : o.op = .call { callee := .builtin .clear, args := #[s], argTypes := #[t] }) {b off k : Nat} {xs : List AV} {n by_ : Nat} {g : Bool} {z : AV}
    (hs : ρ s = .hsl b off k) (hb : σ.sl b = some xs) (hk : off + k ≤ xs.length) (ht : telem P t = some (n, g, by_)) (hel : telemT P t = some el) (hz : tzero P el = some z) (hzn : z.cells.length = n) (hzok : z.okv = true) (hxs : ∀ y ∈ xs, y.cells.length = n)
    (hr : R (.p undef) { σ with sl := upd σ.sl b (some (xs.take off ++ List.replicate k z ++ xs.drop (off + k))) }) : OpQ P o ρ σ R := by
  intro G e w he hw
  have hrs := he s
  rw [hs] at hrs
  obtain ⟨e', i', t1, t2, t3, rfl⟩ := telem_spec ht
  have hee : e' = el := by simpa [telemT, t1] using hel
  subst hee
  obtain ⟨it, zv, hi, hzv, rfl⟩ := tzero_spec hz
  obtain rfl := Option.some.inj (t2.symm.trans hi)
  rw [ofV_cells] at hzn
  have hex : execOp e o = (do pure (.value (← Builtin.clear_ #[t] o.type #[e s]))) := by
    rw [execOp_builtin e ho]; simp [builtin]
  rw [hex]
  have same : k = 0 → upd σ.sl b (some (xs.take off ++ List.replicate k (ofV zv) ++ xs.drop (off + k))) = σ.sl := by
    rintro rfl
    funext x
    by_cases hx : x = b
    · subst hx; rw [upd_same, hb]; simp
    · rw [upd_ne _ _ hx]
  have zero : ∀ a c, k = 0 → e s = .slice a 0 c → OutcN P G w R ((do pure (Next.value (← Builtin.clear_ #[t] o.type #[e s])) : Sem Next).run P w) := by
    intro a c h0 hv
    rw [hv]
    have run : (Builtin.clear_ #[t] o.type #[.slice a 0 c]).run P w = .ok (.tuple #[]) w := by
      cases a <;> simp [Builtin.clear_, run_underlying' t1]
    simp only [Sem.run_bind, run, Result.andThen_ok, Sem.run_pure]
    rw [same h0] at hr
    exact ⟨_, G, σ, Le.refl _ _, hw, .p _, hr⟩
  generalize hvs : e s = vs at hrs
  cases hrs with
  | hnil _ a h => exact hvs ▸ zero a 0 rfl hvs
  | hend _ _ a β o' s' cap h hle => exact hvs ▸ zero a 0 rfl hvs
  | hsl _ _ _ β o' s' cap gb hle =>
    by_cases h0 : k = 0
    · subst h0; exact hvs ▸ zero _ _ rfl hvs
    rcases hw.sl b xs hb with ⟨g1, _⟩ | ⟨β', o'', s'', cap', arr, elt, g1, g2, g3, g4, g5, g6⟩
    · rw [gb] at g1; cases g1
    obtain ⟨rfl, rfl, rfl, rfl⟩ : β = β' ∧ o' = o'' ∧ s' = s'' ∧ cap = cap' := by rw [gb] at g1; simpa using g1
    have hs' : s' = n := (g5 0 _ (List.getElem?_eq_getElem g3.1)).symm.trans (hxs _ (List.getElem_mem g3.1))
    subst hs'
    have hnews : (Builtin.zeroCells zv.cells k).toList.length = k * s' := by simp [size_zeroCells, hzn]
    have hfit : o' + off * s' + k * s' ≤ arr.size := by
      have : (off + k) * s' ≤ cap * s' := Nat.mul_le_mul_right _ (by omega)
      rw [Nat.add_mul] at this; omega
    have hone : ∀ u ∈ (Builtin.zeroCells zv.cells k).toList, u.oneCell' = true := fun u hu => by
      obtain ⟨m, hm, rfl⟩ := List.getElem_of_mem hu
      have hm' : m < k * s' := by rw [← hnews]; exact hm
      have hspos : 0 < s' := Nat.pos_of_ne_zero fun e => by rw [e] at hm'; simp at hm'
      have h1 : m / s' < k := Nat.div_lt_of_lt_mul (by rwa [Nat.mul_comm])
      have h2 : m % s' < s' := Nat.mod_lt _ hspos
      have := zeroCells_at zv.cells k (m / s') (m % s') s' hzn h1 h2
      rw [Nat.mul_comm, Nat.div_add_mod, ← Array.getElem?_toList, List.getElem?_eq_getElem hm] at this
      exact (rep_cells hzok (rep_ofV G w zv)).2.2 _ (by simpa using Array.mem_of_getElem? this.symm)
    have hst := run_storeCells_at (P := P) β (o' + off * s') elt (Builtin.zeroCells zv.cells k).toList 0 arr w g2 (by rw [hnews]; omega) hone
    simp only [Nat.add_zero] at hst
    have run : (Builtin.clear_ #[t] o.type #[.slice (some ⟨β, o' + off * s', none⟩) k (cap - off)]).run P w = .ok (.tuple #[]) (w.setRow β (arr.toList.take (o' + off * s') ++ (Builtin.zeroCells zv.cells k).toList ++ arr.toList.drop (o' + off * s' + (Builtin.zeroCells zv.cells k).toList.length)).toArray) := by
      obtain ⟨k', rfl⟩ : ∃ k', k = k' + 1 := ⟨k - 1, by omega⟩
      simp [Builtin.clear_, run_underlying' t1, run_zeroValue' hi hzv]
      simpa using congrArg (fun x => Result.andThen x (fun _ w' => Result.ok (Value.tuple #[]) w')) hst
    simp only [Sem.run_bind, run, Result.andThen_ok, Sem.run_pure]
    have ht := touch_setRow w β (arr.toList.take (o' + off * s') ++ (Builtin.zeroCells zv.cells k).toList ++ arr.toList.drop (o' + off * s' + (Builtin.zeroCells zv.cells k).toList.length)).toArray
    have hl := Le.touch hw (.sl b β _ xs hb gb) ht
    refine ⟨_, G, _, hl, hw.touch_sl (cs' := xs.take off ++ List.replicate k (ofV zv) ++ xs.drop (off + k)) hb gb ht (fun hl => .inr ⟨β, o', s', cap, _, elt, gb, setRow_new g2 _, ⟨by simp; omega, by simp; omega⟩, ⟨by simp [hnews]; omega, g4.2⟩, fun i y hy => ?_, fun i j cc u hc hu => ?_⟩), .p _, hr⟩
    · rw [splice_get xs off k _ (by simp) hk] at hy
      split at hy
      · rw [List.getElem?_replicate] at hy
        split at hy
        · obtain rfl := Option.some.inj hy; rw [ofV_cells]; exact hzn
        · cases hy
      · exact g5 i y hy
    · have hu' : (arr.toList.take (o' + off * s') ++ (Builtin.zeroCells zv.cells k).toList ++ arr.toList.drop (o' + off * s' + k * s'))[o' + i * s' + j]? = some u := by rw [← hnews]; simpa using hu
      rw [splice_get _ _ _ _ hnews (by simp; omega)] at hu'
      unfold rowCell at hc
      rw [splice_get xs off k _ (by simp) hk] at hc
      split at hc
      · rename_i hin
        obtain ⟨y, hy, hcj⟩ := Option.bind_eq_some_iff.1 hc
        rw [List.getElem?_replicate, if_pos (by omega)] at hy
        obtain rfl := Option.some.inj hy
        have hj : j < s' := by
          have := (List.getElem?_eq_some_iff.1 hcj).1
          rw [ofV_cells] at this; omega
        have e1 : i * s' = off * s' + (i - off) * s' := by rw [← Nat.add_mul]; congr 1; omega
        have e2 : (i - off + 1) * s' ≤ k * s' := Nat.mul_le_mul_right _ (by omega)
        rw [Nat.add_mul] at e2
        rw [if_pos (by omega), show o' + i * s' + j - (o' + off * s') = (i - off) * s' + j by omega, Array.getElem?_toList] at hu'
        have := zeroCells_at zv.cells k (i - off) j s' hzn (by omega) hj
        rw [hu'] at this
        exact ((rep_cells hzok (rep_ofV G w zv)).2.1 j cc _ hcj this.symm).mono hl
      · rename_i hin
        have hc2 : rowCell xs i j = some cc := hc
        obtain ⟨h1, h2, h3⟩ := rowCell_lt hc2 g5
        have : ¬ (o' + off * s' ≤ o' + i * s' + j ∧ o' + i * s' + j < o' + off * s' + k * s') := by
          rintro ⟨q1, q2⟩
          rcases Nat.lt_or_ge i off with h | h
          · have : (i + 1) * s' ≤ off * s' := Nat.mul_le_mul_right _ h
            rw [Nat.add_mul] at this; omega
          · have : (off + k) * s' ≤ i * s' := Nat.mul_le_mul_right _ (by omega)
            rw [Nat.add_mul] at this; omega
        rw [if_neg this] at hu'
        exact (g6 i j cc u hc2 (by simpa using hu')).mono hl
theorem awl_clear {s : Operand} {t el : TypeId} (mu : List Nat) (ho : o.op = .call { callee := .builtin .clear, args := #[s], argTypes := #[t] }) (hw : awanted ops o fr = some true) {b off k : Nat} {xs : List AV} {n by_ : Nat} {g : Bool} {z : AV}
    (hs : aev fr s = .hsl b off k) (hb : σ.sl b = some xs) (hk : off + k ≤ xs.length) (ht : telem P t = some (n, g, by_)) (hel : telemT P t = some el) (hz : tzero P el = some z) (hzn : z.cells.length = n) (hzok : z.okv = true) (hxs : ∀ y ∈ xs, y.cells.length = n)
    (hk2 : Shut (ARun P D ops Q mu rest (aput fr o.dst (.p undef)) { σ with sl := upd σ.sl b (some (xs.take off ++ List.replicate k z ++ xs.drop (off + k))) })) : AWL P D ops Q (o :: rest) fr σ :=
  awl_cons hw (opq_clear ho hs hb hk ht hel hz hzn hzok hxs (awl_run' mu hk2))
end Go.AL
/-! A slice of one's own, lent to a pure function that hands back plain values. -/
namespace Go.AL
open Go.RowKit (Below)
set_option linter.unusedVariables false
set_option linter.unusedSimpArgs false
variable {P : Program} {σ : ASt} {R : AV → ASt → Prop} {D : List Deferred} {Q : Exit → List AV → ASt → Prop} {fr : List AV} {ops : Array Oper}
/-- It holds wherever it holds. -/
def Pl (c : AV) : Prop := ∀ G w G' w' v, Rep G w c v → Rep G' w' c v
@[simp] theorem pl_p (x : Value) : Pl (.p x) := fun G w G' w' v h => by cases h; exact .p x
@[simp] theorem pl_agg (l : List AV) (h : ∀ c ∈ l, Pl c) : Pl (.agg l) := fun G w G' w' v hr => by
  cases hr with
  | agg _ vs hs hr => exact .agg _ vs hs fun i c v a b => h c (List.mem_of_getElem? a) _ _ _ _ _ (hr i c v a b)
@[simp] theorem pl_tup (l : List AV) (h : ∀ c ∈ l, Pl c) : Pl (.tup l) := fun G w G' w' v hr => by
  cases hr with
  | tup _ vs hs hr => exact .tup _ vs hs fun i c v a b => h c (List.mem_of_getElem? a) _ _ _ _ _ (hr i c v a b)
theorem APure.lend {f : FuncId} {args args' : List AV} {r : AV} (h : APure P f args' r) (he : args.map (clo σ) = args') (ha : ∀ a ∈ args', Cl a) (hr : Pl r) : ACall P f args σ fun r' σ' => r' = r ∧ σ' = σ := by
  intro G w vs hv hw
  obtain ⟨G2, hl2, hw2, hc⟩ := hw.close
  have hs := simW_σ0 hw2
  have h1 := h.out { base := w.heap.size, st := G2.st, bx := fun _ => none, mp := fun _ => none, sl := fun _ => none } w vs ⟨by rw [← he, List.length_map]; exact hv.1, fun i c v a b => by
    refine Rep.closed (G := G2) (fun _ _ e => e) ?_ (ha c (List.mem_of_getElem? a))
    rw [← he, List.getElem?_map] at a
    obtain ⟨c', hc', rfl⟩ := Option.map_eq_some_iff.1 a
    exact hc c' v (hv.2 i c' v hc' b)⟩ hs
  refine Calls.mono h1 fun e w' he => retOf_mono (fun v w1 ho => ?_) he
  obtain ⟨r', G1, σ1, hl, hw1, hr1, rfl⟩ := ho
  have hb : Below w.heap.size w w1 := hl.below
  exact ⟨r', G, σ, Le.grow hw hb, hw.grow hb, hr _ _ _ _ _ hr1, rfl, rfl⟩
theorem awl_lend {o : Oper} {rest : List Oper} {f : Operand} {aa : Array Operand} {ts : Array TypeId} (mu : List Nat) (ho : o.op = .call { callee := .value f, args := aa, argTypes := ts }) (hw : awanted ops o fr = some true)
    {F : FuncId} {first cap : List AV} (hf : acallee (aev fr f) = some (F, first, cap)) (hc : callable P F = true) {args args' : List AV} (ha : first ++ aa.toList.map (aev fr) ++ cap = args) (he : args.map (clo σ) = args') {r : AV} (h : APure P F args' r) (hcl : ∀ a ∈ args', Cl a) (hr : Pl r)
    (hk : Shut (ARun P D ops Q mu rest (aput fr o.dst r) σ)) : AWL P D ops Q (o :: rest) fr σ :=
  awl_call ho hw hf hc (R := fun r' σ' => r' = r ∧ σ' = σ) (by rw [ha]; exact h.lend he hcl hr) fun r' τ ⟨e1, e2⟩ => by subst e1; subst e2; exact awl_run' mu hk
end Go.AL
/-! Contracts: slices.Index, Contains, IndexFunc, ContainsFunc, Clone, BinarySearch of numbers. -/
namespace Go.AL
open Go.Proofs
set_option linter.unusedSimpArgs false
set_option linter.unusedVariables false
def idxI (v : Int) : List Int → Nat → Int
  | [], _ => -1
  | x :: l, i => if v = x then (i : Int) else idxI v l (i + 1)
theorem idxI_iff (v : Int) : ∀ (l : List Int) (i : Nat), 0 ≤ idxI v l i ↔ v ∈ l
  | [], i => by simp [idxI]
  | x :: l, i => by
    rw [idxI]
    split
    · rename_i h; subst h; simp
    · rename_i h; rw [idxI_iff v l (i + 1)]; simp [h]
set_option maxHeartbeats 8000000 in
set_option maxRecDepth 100000 in
theorem iindex_ok (l : List Int) (v : Int) (hl : l.length ≤ 1000000000) : APure Try.prog 44 [.vsl (l.map vi), vi v] (vi (idxI v l 0)) := by
  refine apure_in Try.func44 Try.ntmps44 rfl ?_
  repeat' first | refine aw_N [] trivial trivial ?_ | refine aw_cond rfl (fun h => ?_) (fun h => ?_)
  refine aw_loopW [0, 1, 7, 8] (fun q fr σ => ∃ i M : Nat, i + q = l.length ∧ idxI v (l.drop i) i = idxI v l 0 ∧ σ = mkSt [] [] M ∧ fr = frm 19 [(0, .vsl (l.map vi)), (1, vi v), (7, vi (l.length : Nat)), (8, vi (i : Nat))]) l.length ?_ ?_
  · exact ⟨mkSt [] [] 0, le_mkSt (by simp) (by simp) (by simp [σ0]), 0, 0, by omega, by simp, rfl, by simp⟩
  · rintro q fr σ ⟨i, M, hi, hx, rfl, rfl⟩
    simp -implicitDefEqProofs
    by_cases hlt : i < l.length
    · have hlti : (i : Int) < l.length := by omega
      obtain ⟨t, ht⟩ : ∃ t, l[i] = t := ⟨_, rfl⟩
      have wi : IntKind.i64.wrap ((i : Int) + 1) = (i : Int) + 1 := wrap_id (by omega) (by omega)
      rw [List.drop_eq_getElem_cons hlt, ht, idxI] at hx
      by_cases hv : v = t
      · rw [if_pos hv] at hx
        rw [← hx]
        subst hv
        repeat' first | refine aw_N [] (And.intro @hlt (And.intro @hlti (And.intro @ht @wi))) trivial ?_ | refine aw_cond rfl (fun h => ?_) (fun h => ?_)
        all_goals first | rfl | (simp [tupOf]; done) | trace_state
      · rw [if_neg hv] at hx
        repeat' first | refine aw_N [] (And.intro @hlt (And.intro @hlti (And.intro @ht (And.intro @wi @hv)))) trivial ?_ | refine aw_cond rfl (fun h => ?_) (fun h => ?_)
        all_goals first | exact ⟨q - 1, by omega, mkSt [] [] M, le_mkSt (by simp) (by simp) (by simp), i + 1, by omega, hx, ⟨M, rfl⟩, by omega⟩ | trace_state
    · have hlti : ¬ (i : Int) < l.length := by omega
      rw [List.drop_eq_nil_of_le (by omega), idxI] at hx
      rw [← hx]
      repeat' first | refine aw_N [] (And.intro @hlt @hlti) trivial ?_ | refine aw_cond rfl (fun h => ?_) (fun h => ?_)
      all_goals first | rfl | (simp [tupOf]; done) | trace_state
set_option maxHeartbeats 8000000 in
set_option maxRecDepth 100000 in
theorem icontains_ok (l : List Int) (v : Int) (hl : l.length ≤ 1000000000) : APure Try.prog 33 [.vsl (l.map vi), vi v] (vb (decide (v ∈ l))) := by
  have hi := iindex_ok l v hl
  have e : decide (v ∈ l) = decide (0 ≤ idxI v l 0) := by rw [decide_eq_decide]; exact (idxI_iff v l 0).symm
  rw [e]
  generalize idxI v l 0 = x at *
  refine apure_in Try.func33 Try.ntmps33 rfl ?_
  repeat' first | refine aw_N [] trivial (And.intro @hi trivial) ?_ | refine aw_cond rfl (fun h => ?_) (fun h => ?_)
  all_goals first | rfl | (simp [tupOf]; done) | trace_state
/-! ### by a predicate -/
def idxF (p : Int → Bool) : List Int → Nat → Int
  | [], _ => -1
  | x :: l, i => if p x = true then (i : Int) else idxF p l (i + 1)
theorem idxF_iff (p : Int → Bool) : ∀ (l : List Int) (i : Nat), 0 ≤ idxF p l i ↔ l.any p = true
  | [], i => by simp [idxF]
  | x :: l, i => by
    rw [idxF]
    split
    · rename_i h; simp [h]
    · rename_i h; rw [idxF_iff p l (i + 1)]; simp [h]
set_option maxHeartbeats 8000000 in
set_option maxRecDepth 100000 in
theorem iindexfunc_ok (F : FuncId) (hF : callable Try.prog F = true) (p : Int → Bool) (hp : ∀ z, APure Try.prog F [vi z] (vb (p z))) (l : List Int) (hl : l.length ≤ 1000000000) : APure Try.prog 39 [.vsl (l.map vi), .p (.func (.func F) #[] #[])] (vi (idxF p l 0)) := by
  refine apure_in Try.func39 Try.ntmps39 rfl ?_
  repeat' first | refine aw_N [] trivial trivial ?_ | refine aw_cond rfl (fun h => ?_) (fun h => ?_)
  refine aw_loopW [0, 1, 7, 8] (fun q fr σ => ∃ i M : Nat, i + q = l.length ∧ idxF p (l.drop i) i = idxF p l 0 ∧ σ = mkSt [] [] M ∧ fr = frm 19 [(0, .vsl (l.map vi)), (1, .p (.func (.func F) #[] #[])), (7, vi (l.length : Nat)), (8, vi (i : Nat))]) l.length ?_ ?_
  · exact ⟨mkSt [] [] 0, le_mkSt (by simp) (by simp) (by simp [σ0]), 0, 0, by omega, by simp, rfl, by simp⟩
  · rintro q fr σ ⟨i, M, hi, hx, rfl, rfl⟩
    simp -implicitDefEqProofs
    by_cases hlt : i < l.length
    · have hlti : (i : Int) < l.length := by omega
      obtain ⟨t, ht⟩ : ∃ t, l[i] = t := ⟨_, rfl⟩
      have wi : IntKind.i64.wrap ((i : Int) + 1) = (i : Int) + 1 := wrap_id (by omega) (by omega)
      rw [List.drop_eq_getElem_cons hlt, ht, idxF] at hx
      have hpt := hp t
      cases hv : p t with
      | true =>
        rw [hv] at hx hpt
        rw [if_pos rfl] at hx
        rw [← hx]
        repeat' first | refine aw_N [] (And.intro @hlt (And.intro @hlti (And.intro @ht @wi))) (And.intro @hpt trivial) ?_ | refine aw_cond rfl (fun h => ?_) (fun h => ?_)
        all_goals first | rfl | (simp [tupOf]; done) | trace_state
      | false =>
        rw [hv] at hx hpt
        rw [if_neg (by simp)] at hx
        repeat' first | refine aw_N [] (And.intro @hlt (And.intro @hlti (And.intro @ht @wi))) (And.intro @hpt trivial) ?_ | refine aw_cond rfl (fun h => ?_) (fun h => ?_)
        all_goals first | exact ⟨q - 1, by omega, mkSt [] [] M, le_mkSt (by simp) (by simp) (by simp), i + 1, by omega, hx, ⟨M, rfl⟩, by simp⟩ | trace_state
    · have hlti : ¬ (i : Int) < l.length := by omega
      rw [List.drop_eq_nil_of_le (by omega), idxF] at hx
      rw [← hx]
      repeat' first | refine aw_N [] (And.intro @hlt @hlti) trivial ?_ | refine aw_cond rfl (fun h => ?_) (fun h => ?_)
      all_goals first | rfl | (simp [tupOf]; done) | trace_state
set_option maxHeartbeats 8000000 in
set_option maxRecDepth 100000 in
theorem icontainsfunc_ok (F : FuncId) (hF : callable Try.prog F = true) (p : Int → Bool) (hp : ∀ z, APure Try.prog F [vi z] (vb (p z))) (l : List Int) (hl : l.length ≤ 1000000000) : APure Try.prog 21 [.vsl (l.map vi), .p (.func (.func F) #[] #[])] (vb (l.any p)) := by
  have hi := iindexfunc_ok F hF p hp l hl
  have e : l.any p = decide (0 ≤ idxF p l 0) := by
    have := idxF_iff p l 0
    cases h : l.any p
    · rw [h] at this; simp at this; simp [this]
    · rw [h] at this; simp at this; simp [this]
  rw [e]
  generalize idxF p l 0 = x at *
  refine apure_in Try.func21 Try.ntmps21 rfl ?_
  repeat' first | refine aw_N [] trivial (And.intro @hi trivial) ?_ | refine aw_cond rfl (fun h => ?_) (fun h => ?_)
  all_goals first | rfl | (simp [tupOf]; done) | trace_state
end Go.AL
/-! Contracts: slices.BinarySearch of numbers, graph.with. -/
namespace Go.AL
open Go.Proofs
set_option linter.unusedSimpArgs false
set_option linter.unusedVariables false
set_option maxHeartbeats 8000000 in
set_option maxRecDepth 100000 in
theorem cisnan_ok (x : Int) : APure Try.prog 65 [vi x] (vb false) := by
  refine apure_in Try.func65 Try.ntmps65 rfl ?_
  repeat' first | refine aw_N [] trivial trivial ?_ | refine aw_cond rfl (fun h => ?_) (fun h => ?_)
  all_goals first | rfl | (simp [tupOf]; done) | trace_state
set_option maxHeartbeats 8000000 in
set_option maxRecDepth 100000 in
theorem sisnan_ok (x : Int) : APure Try.prog 52 [vi x] (vb false) := by
  refine apure_in Try.func52 Try.ntmps52 rfl ?_
  repeat' first | refine aw_N [] trivial trivial ?_ | refine aw_cond rfl (fun h => ?_) (fun h => ?_)
  all_goals first | rfl | (simp [tupOf]; done) | trace_state
set_option maxHeartbeats 8000000 in
set_option maxRecDepth 100000 in
theorem cless_ok (x y : Int) : APure Try.prog 51 [vi x, vi y] (vb (decide (x < y))) := by
  have hx := cisnan_ok x
  have hy := cisnan_ok y
  refine apure_in Try.func51 Try.ntmps51 rfl ?_
  repeat' first | refine aw_N [] trivial (And.intro @hx (And.intro @hy trivial)) ?_ | refine aw_cond rfl (fun h => ?_) (fun h => ?_)
  all_goals first | rfl | (simp [tupOf]; done) | trace_state
/-- How many are less, at the front. -/
def lowI (l : List Int) (x : Int) : Nat := (l.takeWhile fun y => decide (y < x)).length
theorem lowI_of {l : List Int} {x : Int} {i : Nat} (hi : i ≤ l.length) (h1 : ∀ k (h : k < l.length), k < i → l[k] < x) (h2 : ∀ h : i < l.length, x ≤ l[i]) : lowI l x = i := by
  unfold lowI
  induction l generalizing i with
  | nil => simp at hi; simp [hi]
  | cons y l ih =>
    cases i with
    | zero =>
      have := h2 (by simp)
      simp only [List.getElem_cons_zero] at this
      have : ¬ y < x := by omega
      simp [this]
    | succ i =>
      have h0 := h1 0 (by simp) (by omega)
      simp only [List.getElem_cons_zero] at h0
      simp only [List.takeWhile_cons, decide_eq_true h0, if_true, List.length_cons]
      rw [ih (i := i) (by simpa using hi) (fun k h hk => by have := h1 (k + 1) (by simpa using h) (by omega); simpa using this) (fun h => by have := h2 (by simpa using h); simpa using this)]
def BsI (l : List Int) (x : Int) (q : Nat) (fr : List AV) (σ : ASt) : Prop := ∃ i j M : Nat, i + q = j ∧ j ≤ l.length ∧ (∀ k (h : k < l.length), k < i → l[k] < x) ∧ (∀ k (h : k < l.length), j ≤ k → x ≤ l[k]) ∧ σ = mkSt [] [] M ∧ fr = frm 54 [(0, .vsl (l.map vi)), (1, vi x), (6, vi (l.length : Nat)), (7, vi (i : Nat)), (8, vi (j : Nat))]
set_option maxHeartbeats 16000000 in
set_option maxRecDepth 100000 in
theorem ibsearch_ok (l : List Int) (x : Int) (hl : l.length ≤ 1000000000) (hs : l.Pairwise (· ≤ ·)) : APure Try.prog 45 [.vsl (l.map vi), vi x] (.tup [vi (lowI l x : Nat), vb (decide (l[lowI l x]? = some x))]) := by
  have hn := sisnan_ok x
  have hvl : (l.map vi).length = l.length := List.length_map _
  refine apure_in Try.func45 Try.ntmps45 rfl ?_
  repeat' first | refine aw_N [] trivial trivial ?_ | refine aw_cond rfl (fun h => ?_) (fun h => ?_)
  refine aw_loopW [0, 1, 6, 7, 8] (fun q fr σ => BsI l x q fr σ) l.length ?_ ?_
  · exact ⟨mkSt [] [] 0, le_mkSt (by simp) (by simp) (by simp [σ0]), 0, l.length, 0, by omega, by omega, fun k h hk => by omega, fun k h hk => by omega, rfl, by simp⟩
  · rintro q fr σ ⟨i, j, M, hi, hj, h1, h2, rfl, rfl⟩
    simp -implicitDefEqProofs
    by_cases hlt : i < j
    · have hlti : (i : Int) < j := by omega
      obtain ⟨h, hh⟩ : ∃ h, h = (i + j) / 2 := ⟨_, rfl⟩
      have hhl : h < l.length := by omega
      have hhi : (h : Int) < l.length := by omega
      have w1 : IntKind.i64.wrap ((i : Int) + j) = (i : Int) + j := wrap_id (by omega) (by omega)
      have w2 : IntKind.u64.wrap ((i : Int) + j) = (i : Int) + j := uwrap_id (by omega) (by omega)
      have w3 : ((i : Int) + j).fdiv (2 ^ min 1 IntKind.u64.bits) = (h : Int) := by
        show ((i : Int) + j).fdiv (2 ^ 1) = (h : Int)
        rw [Int.fdiv_eq_ediv_of_nonneg _ (by decide)]
        omega
      have w4 : IntKind.u64.wrap (h : Int) = h := uwrap_id (by omega) (by omega)
      have w5 : IntKind.i64.wrap (h : Int) = h := wrap_id (by omega) (by omega)
      have w6 : IntKind.i64.wrap ((h : Int) + 1) = (h : Int) + 1 := wrap_id (by omega) (by omega)
      obtain ⟨t, ht⟩ : ∃ t, l[h] = t := ⟨_, rfl⟩
      have hc := cless_ok t x
      by_cases hv : t < x
      · rw [decide_eq_true hv] at hc
        repeat' first | refine aw_N [] (And.intro @hlti (And.intro @w1 (And.intro @w2 (And.intro @w3 (And.intro @w4 (And.intro @w5 (And.intro @w6 (And.intro @hhl (And.intro @hhi @ht))))))))) (And.intro @hc trivial) ?_ | refine aw_cond rfl (fun h => ?_) (fun h => ?_)
        refine ⟨j - (h + 1), by omega, mkSt [] [] M, le_mkSt (by simp) (by simp) (by simp), h + 1, j, M, by omega, hj, fun k hk hkh => ?_, h2, rfl, by simp⟩
        have := List.pairwise_iff_getElem.1 hs k h hk hhl
        rcases Nat.lt_or_ge k h with h' | h'
        · have := this h'; omega
        · obtain rfl : k = h := by omega
          rw [ht]; exact hv
      · rw [decide_eq_false hv] at hc
        repeat' first | refine aw_N [] (And.intro @hlti (And.intro @w1 (And.intro @w2 (And.intro @w3 (And.intro @w4 (And.intro @w5 (And.intro @w6 (And.intro @hhl (And.intro @hhi @ht))))))))) (And.intro @hc trivial) ?_ | refine aw_cond rfl (fun h => ?_) (fun h => ?_)
        refine ⟨h - i, by omega, mkSt [] [] M, le_mkSt (by simp) (by simp) (by simp), i, h, M, by omega, by omega, h1, fun k hk hkh => ?_, rfl, by simp⟩
        have := List.pairwise_iff_getElem.1 hs h k hhl hk
        rcases Nat.lt_or_ge h k with h' | h'
        · have := this h'; omega
        · obtain rfl : k = h := by omega
          rw [ht]; omega
    · have hlti : ¬ (i : Int) < j := by omega
      by_cases hil : i ≤ l.length
      · have hlow : lowI l x = i := lowI_of hil h1 fun h => h2 i h (by omega)
        rw [hlow]
        by_cases hin : i < l.length
        · obtain ⟨t, ht⟩ : ∃ t, l[i] = t := ⟨_, rfl⟩
          have hini : (i : Int) < l.length := by omega
          have hn2 := sisnan_ok t
          have hgt : l[i]? = some t := by rw [List.getElem?_eq_getElem hin, ht]
          rw [hgt]
          by_cases he : t = x
          · repeat' first | refine aw_N [] (And.intro @hlti (And.intro @hin (And.intro @hini (And.intro @ht @he)))) (And.intro @hn (And.intro @hn2 trivial)) ?_ | refine aw_cond rfl (fun h => ?_) (fun h => ?_)
            all_goals first | rfl | (simp [tupOf, he]; done) | trace_state
          · repeat' first | refine aw_N [] (And.intro @hlti (And.intro @hin (And.intro @hini (And.intro @ht @he)))) (And.intro @hn (And.intro @hn2 trivial)) ?_ | refine aw_cond rfl (fun h => ?_) (fun h => ?_)
            all_goals first | rfl | (simp [tupOf, he]; done) | trace_state
        · have hini : ¬ (i : Int) < l.length := by omega
          repeat' first | refine aw_N [] (And.intro @hlti (And.intro @hin @hini)) (And.intro @hn trivial) ?_ | refine aw_cond rfl (fun h => ?_) (fun h => ?_)
          all_goals first | rfl | (simp [tupOf, hin]; done) | trace_state
      · omega
theorem lowI_le (l : List Int) (x : Int) : lowI l x ≤ l.length := (List.takeWhile_sublist _).length_le
/-- Rising numbers, with one more. -/
def withI (l : List Int) (n : Int) : List Int := insAt l (lowI l n) n
theorem withI_len (l : List Int) (n : Int) : (withI l n).length = l.length + 1 := insAt_len l _ n (lowI_le l n)
set_option maxHeartbeats 8000000 in
set_option maxRecDepth 100000 in
theorem gwith_ok {σ : ASt} {b off m : Nat} {us : List Int} (hb : σ.sl b = some (us.map vi)) (hbn : b < σ.next) (hn : off + m ≤ us.length) (x : Int) (hbig : m ≤ 1000000) (hs : ((us.drop off).take m).Pairwise (· ≤ ·)) :
    ACall Try.prog 34 [.hsl b off m, vi x] σ fun r τ => r = .hsl (σ.next + 1) 0 (m + 1) ∧ τ = (((σ.addSl [vi x]).dropSl b).addSl ((withI ((us.drop off).take m) x).map vi)) := by
  have hzl : ((us.drop off).take m).length = m := by simp; omega
  have hbs := ibsearch_ok ((us.drop off).take m) x (by omega) hs
  have hlow := lowI_le ((us.drop off).take m) x
  unfold withI
  refine acall_of Try.func34 Try.ntmps34 rfl ?_
  simp only [List.length_cons, List.length_nil, List.cons_append, List.nil_append, List.replicate]
  repeat' first | refine aw_N [16] trivial trivial ?_ | refine aw_cond rfl (fun h => ?_) (fun h => ?_)
  refine awl_lend [16] rfl rfl rfl (by kernel_rfl) rfl (args' := [.vsl (((us.drop off).take m).map vi), vi x]) (by
    have h1 : off + m ≤ (us.map vi).length := by simpa using hn
    simp [hb, hn, List.map_take, List.map_drop]) hbs (by simp -implicitDefEqProofs only [List.mem_cons, List.not_mem_nil, or_false, forall_eq_or_imp, forall_eq, cl_vsl, cl_p, and_true]; exact fun c hc => by obtain ⟨_, _, rfl⟩ := List.mem_map.1 hc; exact .p _) (by refine pl_tup _ ?_; simp) ?_
  simp -implicitDefEqProofs
  repeat' first | refine aw_N [16] trivial trivial ?_ | refine aw_cond rfl (fun h => ?_) (fun h => ?_)
  have hne : b ≠ σ.next := by omega
  refine awl_cons rfl (opq_call rfl rfl rfl ((iinsert_ok (σ := σ.addSl [vi x]) (b := b) (c := σ.next) (off := off) (n := m) (i := lowI ((us.drop off).take m) x) (us := us) (x := x) (by simp [ASt.addSl, upd, hne, hb]) hn (by omega) (by simp) hne (by omega)).mono fun r τ ⟨e1, e2⟩ => ?_))
  subst e1 e2
  refine awl_run' [] ?_
  simp -implicitDefEqProofs
  repeat' first | refine aw_N [] trivial trivial ?_ | refine aw_cond rfl (fun h => ?_) (fun h => ?_)
  exact ⟨rfl, rfl⟩
end Go.AL
