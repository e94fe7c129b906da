/- Parts of the proof of GraphTells: the logic, contracts, plain laws. -/
import Derived.Test.YtofopejmidlceaaZGraphTells15
/-! Contracts: graph's Nodes, Hang. -/
namespace Go.AL
open Go.Proofs
set_option linter.unusedSimpArgs false
set_option linter.unusedVariables false
def nodesL (L : List Lnk) : List Int := sortI (L.map Prod.fst)
/-- Links of which a graph is made. -/
structure GOk (L : List Lnk) : Prop where
  len : L.length ≤ 1000
  rlen : ∀ p ∈ L, p.2.length ≤ 1000
  nd : (L.map Prod.fst).Nodup
  at_ : ∀ p ∈ L, 0 ≤ p.1 ∧ p.1 < 1024
theorem wf64 {z : Int} (h : 0 ≤ z ∧ z < 1024) : (Lit.int .i64 z).wf = true := by
  simp [Lit.wf, IntKind.min, IntKind.max, IntKind.signed, IntKind.bits]; omega
theorem mapV_keys (L : List Lnk) : mapV (readsM L) = .vmp ((L.map Prod.fst).map fun s => .p (.int .i64 s)) ((esK slV (readsM L)).map Prod.snd) := by
  unfold mapV
  rw [esK_key]
  simp only [readsM, List.map_map]; rfl
set_option maxHeartbeats 8000000 in
set_option maxRecDepth 100000 in
theorem gnodesN_ok : APure Try.prog 11 [.p (.pointer none)] (.p (.slice none 0 0)) := by
  refine apure_in Try.func11 Try.ntmps11 rfl ?_
  repeat' first | refine aw_N [] trivial trivial ?_ | refine aw_cond rfl (fun h => ?_) (fun h => ?_)
  all_goals first | rfl | (simp [tupOf]; done) | trace_state
set_option maxHeartbeats 8000000 in
set_option maxRecDepth 100000 in
theorem gnodesA_ok {L : List Lnk} (hL : GOk L) (σ : ASt) : ACall Try.prog 11 [gV L] σ fun r τ => r = .hsl (σ.next + 1) 0 L.length ∧ τ = (σ.addBx [mapV (readsM L)]).addSl ((nodesL L).map vi) := by
  refine acall_of Try.func11 Try.ntmps11 rfl ?_
  simp only [List.length_cons, List.length_nil, List.cons_append, List.nil_append, List.replicate]
  have hg : gV L = .vel [.agg [mapV (readsM L), mapV (readM L)]] 0 0 := rfl
  rw [hg, mapV_keys]
  obtain ⟨kv, hkv⟩ : ∃ kv, kv = (L.map Prod.fst).map fun s => (.p (.int .i64 s) : AV) := ⟨_, rfl⟩
  obtain ⟨xv, hxv⟩ : ∃ xv, xv = (esK slV (readsM L)).map Prod.snd := ⟨_, rfl⟩
  rw [← hkv, ← hxv]
  repeat' first | refine aw_N [] trivial trivial ?_ | refine aw_cond rfl (fun h => ?_) (fun h => ?_)
  refine awl_cons rfl (opq_call rfl rfl rfl ((ikeysFA_ok _ _ _).mono fun r τ ⟨e1, e2⟩ => ?_))
  subst e1 e2
  refine awl_run' [] ?_
  simp -implicitDefEqProofs
  have hk := acall_sortedN ikeysA_ok Try.underlying3 (σ := σ.addBx [.vmp kv xv]) (k := σ.next) (c := .vmp kv xv) (ns := L.map Prod.fst) (by simp) (.inr ⟨xv, by rw [hkv]⟩) hL.nd (fun s hs => by
    obtain ⟨p, hp, rfl⟩ := List.mem_map.1 hs
    exact wf64 (hL.at_ p hp)) (by have := hL.len; simp; omega)
  rw [List.length_map] at hk
  refine awl_cons rfl (opq_call rfl rfl rfl (hk.mono fun r τ ⟨e1, e2⟩ => ?_))
  subst e1 e2
  refine awl_run' [] ?_
  simp -implicitDefEqProofs
  repeat' first | refine aw_N [] trivial trivial ?_ | refine aw_cond rfl (fun h => ?_) (fun h => ?_)
  exact ⟨rfl, rfl⟩
theorem nodesL_len (L : List Lnk) : (nodesL L).length = L.length := by rw [nodesL, sortI_len, List.length_map]
theorem gnodes_ok {L : List Lnk} (hL : GOk L) : APure Try.prog 11 [gV L] (.vsl ((nodesL L).map vi)) := by
  refine ⟨ACall.fin ((gnodesA_ok hL σ0).mono fun r τ ⟨e1, e2⟩ => ?_)⟩
  subst e1 e2
  refine Fin.close (Fin.of ?_)
  have := nodesL_len L
  simp [σ0, this, List.take_of_length_le]
section
variable {σ : ASt} {D : List Deferred} {Q : Exit → List AV → ASt → Prop} {fr : List AV} {ops : Array Oper} {o : Oper} {rest : List Oper}
theorem awl_lookupX (mu : List Nat) {t : TypeId} {m k : Operand} {ok : Bool} (ho : o.op = .lookup t m k ok) (hw : awanted ops o fr = some true) {d : TypeDesc} {el : TypeId} (ht : tmap Try.prog t = some (d, el)) {es : List (AV × AV)} (hm : aev fr m = .vmp (es.map Prod.fst) (es.map Prod.snd)) {kv : Value} (hk : aev fr k = .p kv)
    {r : Option (Nat × AV)} (hf : amfind d (.p kv) es 0 = some r) {x : AV} (h1 : ∀ j y, r = some (j, y) → x = y) (h2 : r = none → tzero Try.prog el = some x)
    (hk2 : Shut (ARun Try.prog D ops Q mu rest (aput fr o.dst (if ok = true then .tup [x, .p (.bool r.isSome)] else x)) σ)) : AWL Try.prog D ops Q (o :: rest) fr σ := by
  cases r with
  | none => exact awl_lookupB mu ho hw ht hm hk hf (h2 rfl) hk2
  | some q => obtain ⟨j, y⟩ := q; exact awl_lookupB mu ho hw ht hm hk hf (h1 j y rfl) hk2
theorem awl_lookG {m k : Operand} (mu : List Nat) (ho : o.op = .lookup 44 m k false) (hw : awanted ops o fr = some true) {M : List (Int × List Int)} {n : Int} (hm : aev fr m = mapV M) (hk : aev fr k = vi n)
    (hk2 : Shut (ARun Try.prog D ops Q mu rest (aput fr o.dst (zgot (gotK M n))) σ)) : AWL Try.prog D ops Q (o :: rest) fr σ := by
  exact awl_lookupX mu ho hw tmG (es := esK slV M) hm hk (find_esK slV [] .i64 n M 0) (x := zgot (gotK M n)) (zgot_some M n) (zgot_none (P := Try.prog) (el := 23) tz23 M n) hk2
theorem awl_lookI {m k : Operand} (mu : List Nat) (ho : o.op = .lookup 61 m k false) (hw : awanted ops o fr = some true) {b : Nat} {M : List (Int × Int)} {n : Int} (hm : aev fr m = .map b) (hb : σ.mp b = some (esK vi M)) (hk : aev fr k = vi n)
    (hk2 : Shut (ARun Try.prog D ops Q mu rest (aput fr o.dst (vi ((gotK M n).getD 0))) σ)) : AWL Try.prog D ops Q (o :: rest) fr σ := by
  refine awl_lookupW mu ho hw tmI hm hb hk (find_esK vi 0 .i64 n M 0) (x := vi ((gotK M n).getD 0)) (fun j y e => ?_) (fun e => ?_) hk2
  · obtain ⟨_, _, e⟩ := Option.map_eq_some_iff.1 e
    cases e; rfl
  · rw [ixK_none (Option.map_eq_none_iff.1 e)]; exact tz3
theorem awl_putI {m k x : Operand} (mu : List Nat) (ho : o.op = .mapUpdate 61 m k x) (hw : awanted ops o fr = some true) {b : Nat} {M : List (Int × Int)} {n v : Int} (hm : aev fr m = .map b) (hb : σ.mp b = some (esK vi M)) (hk : aev fr k = vi n) (hx : aev fr x = vi v)
    (hk2 : Shut (ARun Try.prog D ops Q mu rest (aput fr o.dst (.p undef)) { σ with mp := upd σ.mp b (some (esK vi (putK M n v))) })) : AWL Try.prog D ops Q (o :: rest) fr σ :=
  awl_mapPut mu (.inr ho) hw tmI hm hb hk (by rw [hx]; exact put_esK vi .i64 M n v) hk2
end
/-! ### Hang -/
def hgS (S : List Int) (k : Nat) (us : List Int) (m : Nat) : ASt := ⟨fun _ => none, fun i => if i = 0 then some (esK vi (S.map fun x => (x, (1 : Int)))) else none, fun i => if i = k then some (us.map vi) else none, m⟩
section
variable (S : List Int) (k : Nat) (us : List Int) (m i : Nat)
@[simp] theorem hgS_bx : (hgS S k us m).bx i = none := rfl
@[simp] theorem hgS_mp : (hgS S k us m).mp i = if i = 0 then some (esK vi (S.map fun x => (x, (1 : Int)))) else none := rfl
@[simp] theorem hgS_sl : (hgS S k us m).sl i = if i = k then some (us.map vi) else none := rfl
@[simp] theorem hgS_next : (hgS S k us m).next = m := rfl
end
theorem le_hgS {S : List Int} {k : Nat} {us : List Int} {m : Nat} {σ : ASt} (h1 : σ.mp 0 = some (esK vi (S.map fun x => (x, (1 : Int))))) (h2 : σ.sl k = some (us.map vi)) (h3 : σ.next ≤ m) : (hgS S k us m).Le σ where
  bx := fun i c e => by cases e
  mp := fun i c e => by
    simp only [hgS_mp] at e
    split at e
    · rename_i hi; subst hi; rw [h1]; exact e
    · cases e
  sl := fun i c e => by
    simp only [hgS_sl] at e
    split at e
    · rename_i hi; subst hi; rw [h2]; exact e
    · cases e
  next := h3
theorem got_ones (S : List Int) (x : Int) : gotK (S.map fun x => (x, (1 : Int))) x = if x ∈ S then some 1 else none := by
  induction S with
  | nil => rfl
  | cons a S ih =>
    simp only [List.map_cons, gotK, ih, List.mem_cons]
    by_cases e : a = x
    · subst e; simp
    · have : ¬ x = a := fun h => e h.symm
      simp [e, this]
theorem put_ones {S : List Int} {x : Int} (h : x ∉ S) : putK (S.map fun x => (x, (1 : Int))) x 1 = (S ++ [x]).map fun x => (x, (1 : Int)) := by
  unfold putK
  have : ixK (S.map fun x => (x, (1 : Int))) x 0 = none := by
    have h1 := ixK_some (S.map fun x => (x, (1 : Int))) x
    rw [got_ones, if_neg h] at h1
    simpa using h1
  rw [this]; simp
/-- Between two passes: seen, and to do. -/
structure HgJ (L : List Lnk) (on S todo : List Int) : Prop where
  nd : S.Nodup
  sound : ∀ x ∈ S, Hg L on x
  from_ : ∀ x ∈ todo, x ∈ on ∨ x ∈ S
  whole : ∀ p ∈ L, ∀ n ∈ p.2, n ∈ on ∨ n ∈ S → p.1 ∈ S ∨ n ∈ todo
def HgI (L : List Lnk) (on : List Int) (q : Nat) (fr : List AV) (σ : ASt) : Prop := ∃ (S us : List Int) (off k m : Nat), off ≤ us.length ∧ us.length - off + (L.length - S.length) = q ∧ q ≤ on.length + L.length ∧ us.length ≤ on.length + L.length ∧ k < m ∧ HgJ L on S (us.drop off) ∧ σ = hgS S k us m ∧ fr = frm 48 [(0, gV L), (5, .map 0), (6, .hsl k off (us.length - off))]
/-- Within one, behind j of those that read n. -/
structure HgJ3 (L : List Lnk) (on S todo : List Int) (n : Int) (j : Nat) : Prop where
  nd : S.Nodup
  sound : ∀ x ∈ S, Hg L on x
  from_ : ∀ x ∈ todo, x ∈ on ∨ x ∈ S
  src : n ∈ on ∨ n ∈ S
  whole : ∀ p ∈ L, ∀ n' ∈ p.2, n' ∈ on ∨ n' ∈ S → p.1 ∈ S ∨ n' ∈ todo ∨ (n' = n ∧ p.1 ∉ (rdL L n).take j)
def HgI3 (L : List Lnk) (on : List Int) (q : Nat) (n : Int) (q3 : Nat) (fr : List AV) (σ : ASt) : Prop := ∃ (S us : List Int) (off k m j : Nat), j + q3 = (rdL L n).length ∧ off ≤ us.length ∧ us.length - off + (L.length - S.length) < q ∧ us.length ≤ on.length + L.length ∧ k < m ∧ HgJ3 L on S (us.drop off) n j ∧ σ = hgS S k us m ∧ fr = frm 48 [(0, gV L), (5, .map 0), (6, .hsl k off (us.length - off)), (31, .vsl ((rdL L n).map vi)), (32, vi ((rdL L n).length : Nat)), (33, vi (j : Nat))]
theorem HgJ.pop {L : List Lnk} {on S : List Int} {us : List Int} {off : Nat} {n : Int} (h : HgJ L on S (us.drop off)) (hn : us[off]? = some n) : HgJ3 L on S (us.drop (off + 1)) n 0 := by
  have hlt : off < us.length := (List.getElem?_eq_some_iff.1 hn).1
  have hd : us.drop off = n :: us.drop (off + 1) := by
    rw [List.drop_eq_getElem_cons hlt]
    congr 1
    rw [List.getElem?_eq_getElem hlt] at hn
    exact Option.some.inj hn
  rw [hd] at h
  refine ⟨h.nd, h.sound, fun x hx => h.from_ x (List.mem_cons_of_mem _ hx), h.from_ n List.mem_cons_self, fun p hp n' hn' hs => ?_⟩
  rcases h.whole p hp n' hn' hs with h1 | h1
  · exact .inl h1
  · rcases List.mem_cons.1 h1 with rfl | h1
    · exact .inr (.inr ⟨rfl, by simp⟩)
    · exact .inr (.inl h1)
theorem HgJ3.seen {L : List Lnk} {on S todo : List Int} {n x : Int} {j : Nat} (h : HgJ3 L on S todo n j) (hx : (rdL L n)[j]? = some x) (hm : x ∈ S) : HgJ3 L on S todo n (j + 1) := by
  refine ⟨h.nd, h.sound, h.from_, h.src, fun p hp n' hn' hs => ?_⟩
  rcases h.whole p hp n' hn' hs with h1 | h1 | ⟨h1, h2⟩
  · exact .inl h1
  · exact .inr (.inl h1)
  · by_cases e : p.1 = x
    · exact .inl (e ▸ hm)
    · refine .inr (.inr ⟨h1, fun hc => ?_⟩)
      rw [List.take_add_one, hx, Option.toList_some, List.mem_append, List.mem_singleton] at hc
      exact hc.elim h2 e
theorem HgJ3.new {L : List Lnk} {on S todo : List Int} {n x : Int} {j : Nat} (h : HgJ3 L on S todo n j) (hx : (rdL L n)[j]? = some x) (hm : x ∉ S) : HgJ3 L on (S ++ [x]) (todo ++ [x]) n (j + 1) := by
  obtain ⟨p0, hp0, hn0, rfl⟩ := mem_rdL.1 (List.mem_of_getElem? hx)
  refine ⟨?_, fun y hy => ?_, fun y hy => ?_, ?_, fun p hp n' hn' hs => ?_⟩
  · rw [List.nodup_append]
    refine ⟨h.nd, by simp, fun a ha b hb => ?_⟩
    obtain rfl := List.mem_singleton.1 hb
    exact fun e => hm (e ▸ ha)
  · rcases List.mem_append.1 hy with hy | hy
    · exact h.sound y hy
    · obtain rfl := List.mem_singleton.1 hy
      rcases h.src with h1 | h1
      · exact .base p0 hp0 n hn0 h1
      · exact .step p0 hp0 n hn0 (h.sound n h1)
  · rcases List.mem_append.1 hy with hy | hy
    · exact (h.from_ y hy).imp id (List.mem_append_left _)
    · exact .inr (List.mem_append_right _ hy)
  · exact h.src.imp id (List.mem_append_left _)
  · by_cases e : n' = p0.1
    · exact .inr (.inl (by rw [e]; simp))
    · have hs' : n' ∈ on ∨ n' ∈ S := hs.imp id fun h1 => (List.mem_append.1 h1).elim id fun h2 => absurd (List.mem_singleton.1 h2) e
      rcases h.whole p hp n' hn' hs' with h1 | h1 | ⟨h1, h2⟩
      · exact .inl (List.mem_append_left _ h1)
      · exact .inr (.inl (List.mem_append_left _ h1))
      · by_cases e2 : p.1 = p0.1
        · exact .inl (by rw [e2]; simp)
        · refine .inr (.inr ⟨h1, fun hc => ?_⟩)
          rw [List.take_add_one, hx, Option.toList_some, List.mem_append, List.mem_singleton] at hc
          exact hc.elim h2 e2
theorem HgJ3.done {L : List Lnk} {on S todo : List Int} {n : Int} {j : Nat} (h : HgJ3 L on S todo n j) (hj : (rdL L n).length ≤ j) : HgJ L on S todo := by
  refine ⟨h.nd, h.sound, h.from_, fun p hp n' hn' hs => ?_⟩
  rcases h.whole p hp n' hn' hs with h1 | h1 | ⟨h1, h2⟩
  · exact .inl h1
  · exact .inr h1
  · rw [List.take_of_length_le hj] at h2
    subst h1
    exact absurd (mem_rdL.2 ⟨p, hp, hn', rfl⟩) h2
theorem keys_len {L : List Lnk} {S : List Int} (hn : S.Nodup) (hs : ∀ x ∈ S, x ∈ L.map Prod.fst) : S.length ≤ L.length := by
  have key : ∀ (S l : List Int), S.Nodup → (∀ x ∈ S, x ∈ l) → S.length ≤ l.length := by
    intro S
    induction S with
    | nil => intro l _ _; exact Nat.zero_le _
    | cons x S ih =>
      intro l hn hs
      have hx := hs x List.mem_cons_self
      obtain ⟨h1, h2⟩ := List.nodup_cons.1 hn
      have := ih (l.erase x) h2 fun y hy => (List.mem_erase_of_ne (fun e => h1 (by rw [← e]; exact hy))).2 (hs y (List.mem_cons_of_mem _ hy))
      rw [List.length_erase_of_mem hx] at this
      have hl : 0 < l.length := List.length_pos_of_mem hx
      simp; omega
  have := key S _ hn hs
  simpa using this
theorem rdL_len (L : List Lnk) (n : Int) : (rdL L n).length ≤ L.length := by
  unfold rdL
  rw [List.length_map]
  exact List.length_filter_le _ _
set_option maxHeartbeats 8000000 in
set_option maxRecDepth 100000 in
theorem ghang_ok {L : List Lnk} (hL : GOk L) (on : List Int) (hon : on.length ≤ 100000) : APure Try.prog 17 [gV L, .vsl (on.map vi)] (.vsl ((hangL L on).map vi)) := by
  have hg : gV L = .vel [.agg [mapV (readsM L), mapV (readM L)]] 0 0 := rfl
  refine apure_in Try.func17 Try.ntmps17 rfl ?_
  repeat' first | refine aw_N [] trivial trivial ?_ | refine aw_cond rfl (fun h => ?_) (fun h => ?_)
  refine aw_scope_loop 0 [0, 5, 6] (fun q fr σ => HgI L on q fr σ) rfl ?_ fun enter => ?_
  · rintro q fr σ ⟨S, us, off, k, m, hoff, hq, hqb, hul, hkm, hJ, rfl, rfl⟩
    simp -implicitDefEqProofs
    have hSl : S.length ≤ L.length := keys_len hJ.nd fun x hx => (hJ.sound x hx).node
    have hLl := hL.len
    by_cases h0 : us.length - off = 0
    · have hnil : us.drop off = [] := List.drop_eq_nil_of_le (by omega)
      rw [hnil] at hJ
      have hres : sortI S = hangL L on := hangL_eq hL.nd hJ.sound (fun p hp n hn hs => (hJ.whole p hp n hn hs).elim id fun h => by cases h) (sortI_lt hJ.nd) (sortI_mem S)
      have hkeys : (esK vi (S.map fun x => (x, (1 : Int)))).map Prod.fst = S.map fun s => .p (.int .i64 s) := by simp [esK]
      repeat' first | refine aw_N [] @h0 trivial ?_ | refine aw_cond rfl (fun h => ?_) (fun h => ?_)
      refine awl_cons rfl (opq_call rfl rfl rfl ((ikeysFBm_ok 0 _).mono fun r τ ⟨e1, e2⟩ => ?_))
      subst e1 e2
      refine awl_run' [] ?_
      simp -implicitDefEqProofs
      refine awl_cons rfl (opq_call rfl rfl rfl ((acall_sortedN ikeysB_ok Try.underlying3 (k := m) (c := .map 0) (ns := S) (by simp) (.inl ⟨0, esK vi (S.map fun x => (x, (1 : Int))), rfl, by simp, hkeys⟩) hJ.nd (fun s hs => by
        obtain ⟨p, hp, rfl⟩ := List.mem_map.1 (hJ.sound s hs).node
        exact wf64 (hL.at_ p hp)) (by omega)).mono fun r τ ⟨e1, e2⟩ => ?_))
      subst e1 e2
      refine awl_run' [] ?_
      simp -implicitDefEqProofs
      repeat' first | refine aw_M [] trivial trivial ?_ | refine aw_cond rfl (fun h => ?_) (fun h => ?_)
      have hsl := sortI_len S
      rw [hres] at hsl
      simp [tupOf, hsl, hres, List.take_of_length_le]
    · obtain ⟨n, hn⟩ : ∃ n, us[off]? = some n := ⟨_, List.getElem?_eq_getElem (by omega)⟩
      have h0i : ¬ ((us.length - off : Nat) : Int) = 0 := by omega
      have h0n : ¬ (us.length - off = 0) := h0
      have hlt : off < us.length := by omega
      have h1n : 1 ≤ us.length - off := by omega
      have h1i : (1 : Int) ≤ ((us.length - off : Nat) : Int) := by omega
      have hJ3 := hJ.pop hn
      have hgot := got_readM L n
      have hrl := rdL_len L n
      rw [hg]
      have h0p : 0 < us.length - off := by omega
      have hsb : us.length - off - 1 = us.length - (off + 1) := by omega
      have hnn : us[off] = n := by rw [List.getElem?_eq_getElem hlt] at hn; exact Option.some.inj hn
      repeat' first | refine aw_N [] (And.intro @h0 (And.intro @h0i (And.intro @h0p (And.intro @hn (And.intro @hnn (And.intro @hlt (And.intro @h1n (And.intro @h1i @hsb)))))))) trivial ?_ | refine aw_cond rfl (fun h => ?_) (fun h => ?_)
      refine awl_lookG [] rfl rfl (M := readM L) (n := n) rfl rfl ?_
      cases hq2 : gotK (readM L) n with
      | none =>
        rw [hq2] at hgot
        have hr0 : rdL L n = [] := hgot.symm
        have hz0 : zgot none = .p (.slice none 0 0) := rfl
        simp -implicitDefEqProofs [hz0]
        repeat' first | refine aw_N [] trivial trivial ?_ | refine aw_cond rfl (fun h => ?_) (fun h => ?_)
        refine aw_nilV (i := 31) rfl ?_
        simp -implicitDefEqProofs only [List.set]
        refine aw_loopW [0, 5, 6, 31, 32, 33] (fun q3 fr σ => HgI3 L on q n q3 fr σ) (rdL L n).length ?_ ?_
        · refine ⟨hgS S k us m, le_hgS (by simp) (by simp) (by simp), S, us, off + 1, k, m, 0, by omega, by omega, by omega, by omega, by omega, hJ3, rfl, ?_⟩
          simp [hg, hr0]
        · have hsrc := hJ3.src
          clear hsrc hJ3 h0p hsb hnn h1i h1n hlt h0i h0 hn hSl hJ hkm hul hq hoff h0n S us off k m
          rintro q3 fr σ ⟨S, us, off, k, m, j, hj3, hoff, hpot, hul, hkm, hJ, rfl, rfl⟩
          simp -implicitDefEqProofs
          have hSl : S.length ≤ L.length := keys_len hJ.nd fun x hx => (hJ.sound x hx).node
          have hrv : ((rdL L n).map vi).length = (rdL L n).length := List.length_map _
          by_cases hltj : j < (rdL L n).length
          · have hltji : (j : Int) < (rdL L n).length := by omega
            obtain ⟨x, hx⟩ : ∃ x, (rdL L n)[j] = x := ⟨_, rfl⟩
            have hxg : (rdL L n)[j]? = some x := by rw [List.getElem?_eq_getElem hltj, hx]
            have wj : IntKind.i64.wrap ((j : Int) + 1) = (j : Int) + 1 := wrap_id (by omega) (by omega)
            repeat' first | refine aw_N [] (And.intro @hltj (And.intro @hltji (And.intro @hx (And.intro @hxg @hrv)))) trivial ?_ | refine aw_cond rfl (fun h => ?_) (fun h => ?_)
            refine awl_lookI [] rfl rfl (b := 0) (M := S.map fun x => (x, (1 : Int))) (n := x) rfl (by simp) rfl ?_
            rw [got_ones]
            by_cases hxS : x ∈ S
            · simp -implicitDefEqProofs [hxS]
              repeat' first | refine aw_N [] @wj trivial ?_ | refine aw_cond rfl (fun h => ?_) (fun h => ?_)
              refine ⟨q3 - 1, by omega, hgS S k us m, le_hgS (by simp) (by simp) (by simp), S, us, off, k, m, j + 1, by omega, hoff, hpot, hul, hkm, hJ.seen hxg hxS, rfl, ?_⟩
              simp
            · have hS1 : (S ++ [x]).length ≤ L.length := keys_len (hJ.new hxg hxS).nd fun y hy => ((hJ.new hxg hxS).sound y hy).node
              simp at hS1
              simp -implicitDefEqProofs [hxS]
              repeat' first | refine aw_N [] trivial trivial ?_ | refine aw_cond rfl (fun h => ?_) (fun h => ?_)
              refine awl_putI [] rfl rfl (b := 0) (M := S.map fun x => (x, (1 : Int))) (n := x) (v := 1) rfl (by simp) rfl rfl ?_
              rw [put_ones hxS]
              simp -implicitDefEqProofs
              repeat' first | refine aw_N [] trivial trivial ?_ | refine aw_cond rfl (fun h => ?_) (fun h => ?_)
              refine awl_append [] rfl rfl rfl (xs := us.map vi) (by simp) (by simp; omega) rfl (by simp) te23 tet23 tz3 rfl (fun y hy => by obtain ⟨_, _, rfl⟩ := List.mem_map.1 hy; rfl) (by simp) (by simp; omega) (by simp; omega) ?_
              simp -implicitDefEqProofs
              repeat' first | refine aw_N [] @wj trivial ?_ | refine aw_cond rfl (fun h => ?_) (fun h => ?_)
              refine ⟨q3 - 1, by omega, hgS (S ++ [x]) m (us.drop off ++ [x]) (m + 1), le_hgS (by simp) (by simp [List.take_of_length_le]) (by simp), S ++ [x], us.drop off ++ [x], 0, m, m + 1, j + 1, by omega, by omega, by simp; omega, by simp; omega, by omega, hJ.new hxg hxS, rfl, ?_⟩
              simp
          · have hltji : ¬ (j : Int) < (rdL L n).length := by omega
            repeat' first | refine aw_N [] @hltji trivial ?_ | refine aw_cond rfl (fun h => ?_) (fun h => ?_)
            refine aw_goto ⟨rfl, _, hpot, hgS S k us m, le_hgS (by simp) (by simp) (by simp), S, us, off, k, m, hoff, rfl, by omega, hul, hkm, hJ.done (by omega), rfl, ?_⟩
            simp
      | some l =>
        rw [hq2] at hgot
        have hr0 : l = rdL L n := hgot
        subst hr0
        have hz0 : zgot (some (rdL L n)) = .vsl ((rdL L n).map vi) := rfl
        simp -implicitDefEqProofs [hz0]
        repeat' first | refine aw_N [] trivial trivial ?_ | refine aw_cond rfl (fun h => ?_) (fun h => ?_)
        refine aw_loopW [0, 5, 6, 31, 32, 33] (fun q3 fr σ => HgI3 L on q n q3 fr σ) (rdL L n).length ?_ ?_
        · refine ⟨hgS S k us m, le_hgS (by simp) (by simp) (by simp), S, us, off + 1, k, m, 0, by omega, by omega, by omega, by omega, by omega, hJ3, rfl, ?_⟩
          simp [hg, hz0]
        · have hsrc := hJ3.src
          clear hsrc hJ3 h0p hsb hnn h1i h1n hlt h0i h0 hn hSl hJ hkm hul hq hoff h0n S us off k m
          rintro q3 fr σ ⟨S, us, off, k, m, j, hj3, hoff, hpot, hul, hkm, hJ, rfl, rfl⟩
          simp -implicitDefEqProofs
          have hSl : S.length ≤ L.length := keys_len hJ.nd fun x hx => (hJ.sound x hx).node
          have hrv : ((rdL L n).map vi).length = (rdL L n).length := List.length_map _
          by_cases hltj : j < (rdL L n).length
          · have hltji : (j : Int) < (rdL L n).length := by omega
            obtain ⟨x, hx⟩ : ∃ x, (rdL L n)[j] = x := ⟨_, rfl⟩
            have hxg : (rdL L n)[j]? = some x := by rw [List.getElem?_eq_getElem hltj, hx]
            have wj : IntKind.i64.wrap ((j : Int) + 1) = (j : Int) + 1 := wrap_id (by omega) (by omega)
            repeat' first | refine aw_N [] (And.intro @hltj (And.intro @hltji (And.intro @hx (And.intro @hxg @hrv)))) trivial ?_ | refine aw_cond rfl (fun h => ?_) (fun h => ?_)
            refine awl_lookI [] rfl rfl (b := 0) (M := S.map fun x => (x, (1 : Int))) (n := x) rfl (by simp) rfl ?_
            rw [got_ones]
            by_cases hxS : x ∈ S
            · simp -implicitDefEqProofs [hxS]
              repeat' first | refine aw_N [] @wj trivial ?_ | refine aw_cond rfl (fun h => ?_) (fun h => ?_)
              refine ⟨q3 - 1, by omega, hgS S k us m, le_hgS (by simp) (by simp) (by simp), S, us, off, k, m, j + 1, by omega, hoff, hpot, hul, hkm, hJ.seen hxg hxS, rfl, ?_⟩
              simp
            · have hS1 : (S ++ [x]).length ≤ L.length := keys_len (hJ.new hxg hxS).nd fun y hy => ((hJ.new hxg hxS).sound y hy).node
              simp at hS1
              simp -implicitDefEqProofs [hxS]
              repeat' first | refine aw_N [] trivial trivial ?_ | refine aw_cond rfl (fun h => ?_) (fun h => ?_)
              refine awl_putI [] rfl rfl (b := 0) (M := S.map fun x => (x, (1 : Int))) (n := x) (v := 1) rfl (by simp) rfl rfl ?_
              rw [put_ones hxS]
              simp -implicitDefEqProofs
              repeat' first | refine aw_N [] trivial trivial ?_ | refine aw_cond rfl (fun h => ?_) (fun h => ?_)
              refine awl_append [] rfl rfl rfl (xs := us.map vi) (by simp) (by simp; omega) rfl (by simp) te23 tet23 tz3 rfl (fun y hy => by obtain ⟨_, _, rfl⟩ := List.mem_map.1 hy; rfl) (by simp) (by simp; omega) (by simp; omega) ?_
              simp -implicitDefEqProofs
              repeat' first | refine aw_N [] @wj trivial ?_ | refine aw_cond rfl (fun h => ?_) (fun h => ?_)
              refine ⟨q3 - 1, by omega, hgS (S ++ [x]) m (us.drop off ++ [x]) (m + 1), le_hgS (by simp) (by simp [List.take_of_length_le]) (by simp), S ++ [x], us.drop off ++ [x], 0, m, m + 1, j + 1, by omega, by omega, by simp; omega, by simp; omega, by omega, hJ.new hxg hxS, rfl, ?_⟩
              simp
          · have hltji : ¬ (j : Int) < (rdL L n).length := by omega
            repeat' first | refine aw_N [] @hltji trivial ?_ | refine aw_cond rfl (fun h => ?_) (fun h => ?_)
            refine aw_goto ⟨rfl, _, hpot, hgS S k us m, le_hgS (by simp) (by simp) (by simp), S, us, off, k, m, hoff, rfl, by omega, hul, hkm, hJ.done (by omega), rfl, ?_⟩
            simp
  · rw [hg]
    repeat' first | refine aw_N [] trivial trivial ?_ | refine aw_cond rfl (fun h => ?_) (fun h => ?_)
    refine awl_makeMap [] rfl rfl ?_
    simp -implicitDefEqProofs
    refine awl_cons rfl (opq_call rfl rfl rfl ((iclone_ok (σ := σ0.addMp []) on (by omega)).mono fun r τ h => ?_))
    obtain ⟨k, m, h1, h2, rfl, rfl⟩ := h
    refine awl_run' [] ?_
    simp -implicitDefEqProofs
    repeat' first | refine aw_N [] trivial trivial ?_ | refine aw_cond rfl (fun h => ?_) (fun h => ?_)
    refine aw_label ?_
    refine enter (on.length + L.length) _ _ ⟨hgS [] k on m, le_hgS (by simp [ASt.withSl, esK]) (by simp [ASt.withSl]) (by simp [ASt.withSl]), [], on, 0, k, m, by omega, by simp, by omega, by omega, h2, ⟨by simp, by simp, fun x hx => .inl (by simpa using hx), fun p hp n hn hs => ?_⟩, rfl, ?_⟩
    · rcases hs with h | h
      · exact .inr (by simpa using h)
      · cases h
    · simp [hg]
end Go.AL
/-! Contracts: graph's cycle, Cyclic; a number put into what is nil, or not. -/
namespace Go.AL
open Go.Proofs
set_option linter.unusedSimpArgs false
set_option linter.unusedVariables false
open Classical in
noncomputable def onCyc (L : List Lnk) (n : Int) : Bool := decide (n ∈ hangL L [n])
noncomputable def cycL (L : List Lnk) : List Int := (nodesL L).filter fun n => onCyc L n
theorem hangL_len (L : List Lnk) (on : List Int) : (hangL L on).length ≤ L.length := by
  unfold hangL
  rw [sortI_len]
  refine Nat.le_trans (List.length_filter_le _ _) ?_
  simp
set_option maxHeartbeats 8000000 in
set_option maxRecDepth 100000 in
theorem gcycle_ok {L : List Lnk} (hL : GOk L) (n : Int) : APure Try.prog 30 [gV L, vi n] (vb (onCyc L n)) := by
  have hh := ghang_ok hL [n] (by simp)
  have hhl := hangL_len L [n]
  have hLl := hL.len
  have hc := icontains_ok (hangL L [n]) n (by omega)
  have hd : decide (n ∈ hangL L [n]) = onCyc L n := by unfold onCyc; rw [decide_eq_decide]
  rw [hd] at hc
  generalize hangL L [n] = l at *
  generalize onCyc L n = r at *
  simp only [List.map_cons, List.map_nil] at hh
  refine apure_in Try.func30 Try.ntmps30 rfl ?_
  repeat' first | refine aw_N [] trivial (And.intro @hh (And.intro @hc trivial)) ?_ | refine aw_cond rfl (fun h => ?_) (fun h => ?_)
  all_goals first | rfl | (simp [tupOf]; done) | trace_state
set_option maxHeartbeats 8000000 in
set_option maxRecDepth 100000 in
theorem gcyclic1_ok {L : List Lnk} (hL : GOk L) (n : Int) : BK Try.prog 29 [vi n, .ptr 0 0] [gV L] (vb (!onCyc L n)) [gV L] := by
  have hc := gcycle_ok hL n
  generalize onCyc L n = r at *
  refine ⟨?_, by simp, by simp, by simp⟩
  refine bc_of Try.func29 Try.ntmps29 rfl ?_
  simp only [List.length_cons, List.length_nil, List.cons_append, List.nil_append, List.replicate]
  repeat' first | refine aw_N [] trivial (And.intro @hc trivial) ?_ | refine aw_cond rfl (fun h => ?_) (fun h => ?_)
  exact ⟨rfl, rfl⟩
set_option maxHeartbeats 8000000 in
set_option maxRecDepth 100000 in
theorem gorder1_ok (l : List Int) (hl : l.length ≤ 1000) (n : Int) : BK Try.prog 32 [vi n, .ptr 0 0] [.vsl (l.map vi)] (vb (decide (n ∈ l))) [.vsl (l.map vi)] := by
  have hc := icontains_ok l n (by omega)
  refine ⟨?_, by simp, by simp, by simp⟩
  refine bc_of Try.func32 Try.ntmps32 rfl ?_
  simp only [List.length_cons, List.length_nil, List.cons_append, List.nil_append, List.replicate]
  repeat' first | refine aw_N [] trivial (And.intro @hc trivial) ?_ | refine aw_cond rfl (fun h => ?_) (fun h => ?_)
  exact ⟨rfl, rfl⟩
set_option maxHeartbeats 8000000 in
set_option maxRecDepth 100000 in
theorem gcyclic_ok {L : List Lnk} (hL : GOk L) : APure Try.prog 13 [gV L] (.vsl ((cycL L).map vi)) := by
  have hgc : Cl (gV L) := by simp
  have hnl := nodesL_len L
  have hLl := hL.len
  refine apure_in Try.func13 Try.ntmps13 rfl ?_
  repeat' first | refine aw_N [1] trivial trivial ?_ | refine aw_cond rfl (fun h => ?_) (fun h => ?_)
  refine awl_cons rfl (opq_call rfl rfl rfl ((gnodesA_ok hL _).mono fun r τ ⟨e1, e2⟩ => ?_))
  subst e1 e2
  refine awl_run' [1] ?_
  simp -implicitDefEqProofs
  repeat' first | refine aw_N [1] trivial trivial ?_ | refine aw_cond rfl (fun h => ?_) (fun h => ?_)
  have hd := ideleteC_ok (fq := 29) (by kernel_rfl) (σ := ((σ0.addBx [gV L]).addBx [mapV (readsM L)]).addSl ((nodesL L).map vi)) (cs := [gV L]) (p := fun n => !onCyc L n) (l := nodesL L) (fun z _ => gcyclic1_ok hL z) (by omega) (by simp) (b := 0) (k := 2) (by simp [ASt.addBx, ASt.addSl, upd, σ0]) (by simp [ASt.addBx, ASt.addSl, upd, σ0]) (by omega) (by simp [ASt.addBx, ASt.addSl, upd, σ0])
  rw [hnl] at hd
  refine awl_cons rfl (opq_call rfl rfl rfl (hd.mono fun r τ ⟨e1, e2⟩ => ?_))
  subst e1 e2
  refine awl_run' [1] ?_
  simp -implicitDefEqProofs
  repeat' first | refine aw_N [1] trivial trivial ?_ | refine aw_cond rfl (fun h => ?_) (fun h => ?_)
  all_goals first | (simp [tupOf, cycL]; done) | trace_state
set_option maxHeartbeats 8000000 in
set_option maxRecDepth 100000 in
theorem iindexfuncN_ok {σ : ASt} (fq : FuncId) (b : Nat) : ACall Try.prog 39 [.p (.slice none 0 0), .fn (.func fq) [] [.ptr b 0]] σ fun r τ => r = vi (-1) := by
  refine acall_of Try.func39 Try.ntmps39 rfl ?_
  simp only [List.length_cons, List.length_nil, List.cons_append, List.nil_append, List.replicate]
  repeat' first | refine aw_N [] trivial trivial ?_ | refine aw_cond rfl (fun h => ?_) (fun h => ?_)
  refine aw_loopW [0, 1, 7, 8] (fun q fr σ' => σ' = σ ∧ fr = frm 19 [(0, .p (.slice none 0 0)), (1, .fn (.func fq) [] [.ptr b 0]), (7, vi 0), (8, vi 0)]) 0 ?_ ?_
  · exact ⟨_, ⟨fun _ _ h => h, fun _ _ h => h, fun _ _ h => h, Nat.le_refl _⟩, rfl, by simp⟩
  · rintro q fr σ' ⟨rfl, rfl⟩
    simp -implicitDefEqProofs
    repeat' first | refine aw_N [] trivial trivial ?_ | refine aw_cond rfl (fun h => ?_) (fun h => ?_)
    all_goals first | rfl | trace_state
set_option maxHeartbeats 8000000 in
set_option maxRecDepth 100000 in
theorem gcyclicN_ok : APure Try.prog 13 [.p (.pointer none)] (.p (.slice none 0 0)) := by
  have hn := gnodesN_ok
  have hd : ∀ σ : ASt, ACall Try.prog 28 [.p (.slice none 0 0), .fn (.func 29) [] [.ptr 0 0]] σ fun r τ => r = .p (.slice none 0 0) := fun σ => by
    refine acall_of Try.func28 Try.ntmps28 rfl ?_
    simp only [List.length_cons, List.length_nil, List.cons_append, List.nil_append, List.replicate]
    repeat' first | refine aw_N [] trivial trivial ?_ | refine aw_cond rfl (fun h => ?_) (fun h => ?_)
    refine awl_cons rfl (opq_call rfl rfl rfl ((iindexfuncN_ok _ 0).mono fun r τ e1 => ?_))
    subst e1
    refine awl_run' [] ?_
    simp -implicitDefEqProofs
    repeat' first | refine aw_N [] trivial trivial ?_ | refine aw_cond rfl (fun h => ?_) (fun h => ?_)
    all_goals first | rfl | trace_state
  refine apure_in Try.func13 Try.ntmps13 rfl ?_
  repeat' first | refine aw_N [1] trivial trivial ?_ | refine aw_cond rfl (fun h => ?_) (fun h => ?_)
  refine awl_pure' [1] rfl rfl rfl (by kernel_rfl) rfl hn (by simp) (by simp) ?_
  simp -implicitDefEqProofs
  repeat' first | refine aw_N [1] trivial trivial ?_ | refine aw_cond rfl (fun h => ?_) (fun h => ?_)
  refine awl_cons rfl (opq_call rfl rfl rfl ((hd _).mono fun r τ e1 => ?_))
  subst e1
  refine awl_run' [1] ?_
  simp -implicitDefEqProofs
  repeat' first | refine aw_N [1] trivial trivial ?_ | refine aw_cond rfl (fun h => ?_) (fun h => ?_)
  all_goals first | rfl | (simp [tupOf]; done) | trace_state
set_option maxHeartbeats 8000000 in
set_option maxRecDepth 100000 in
theorem ghangN_ok (on : List Int) : APure Try.prog 17 [.p (.pointer none), .vsl (on.map vi)] (.p (.slice none 0 0)) := by
  refine apure_in Try.func17 Try.ntmps17 rfl ?_
  repeat' first | refine aw_N [] trivial trivial ?_ | refine aw_cond rfl (fun h => ?_) (fun h => ?_)
  refine aw_scope ?_
  repeat' first | refine aw_N [] trivial trivial ?_ | refine aw_cond rfl (fun h => ?_) (fun h => ?_)
  all_goals first | rfl | (simp [tupOf]; done) | trace_state
set_option maxHeartbeats 8000000 in
set_option maxRecDepth 100000 in
theorem gorderN_ok : APure Try.prog 15 [.p (.pointer none)] (.p (.slice none 0 0)) := by
  refine apure_in Try.func15 Try.ntmps15 rfl ?_
  repeat' first | refine aw_N [4] trivial trivial ?_ | refine aw_cond rfl (fun h => ?_) (fun h => ?_)
  all_goals first | rfl | (simp [tupOf]; done) | trace_state
end Go.AL
/-! Nil, taken as an empty slice of the function's own. -/
namespace Go.AL
open Go.RowKit (Below)
set_option linter.unusedVariables false
set_option linter.unusedSimpArgs false
variable {P : Program} {σ : ASt} {D : List Deferred} {Q : Exit → List AV → ASt → Prop} {fr : List AV}
theorem aw_nilH {c : Code} {i : Nat} (hi : fr[i]? = some (.p (.slice none 0 0))) (h : AW P D c Q (fr.set i (.hsl σ.next 0 0)) (σ.addSl [])) : AW P D c Q fr σ := by
  intro r iR G a w hs
  obtain ⟨G', h1, h2, h3⟩ := new_nil hs.w w (Below.refl _ _) none
  have hr := hs.tmps.mono h1
  refine wp_mono (h r iR G' a w ⟨⟨by simpa using hr.1, fun j c v hc hv => ?_⟩, hs.defers.mono h1, h2⟩) fun e a w h => lift_le h1 h
  rw [List.getElem?_set] at hc
  split at hc
  · rename_i e
    subst e
    split at hc
    · obtain rfl := Option.some.inj hc
      have := hr.2 i _ v hi hv
      cases this
      exact h3
    · cases hc
  · exact hr.2 j c v hc hv
end Go.AL
/-! The order of a graph, plainly. -/
namespace Go.AL
open Go.Proofs
set_option linter.unusedSimpArgs false
set_option linter.unusedVariables false
noncomputable def plainL (L : List Lnk) : List Int := (nodesL L).filter fun n => !onCyc L n
def redL (L : List Lnk) (n : Int) : List Int := (gotK (readsM L) n).getD []
/-- How many of those that are read are plain, and not told. -/
def wtc (P : List Int) (o l : List Int) : Nat := (l.filter fun x => decide (x ∈ P) && !decide (x ∈ o)).length
noncomputable def wtL (L : List Lnk) (o : List Int) (n : Int) : Nat := wtc (plainL L) o (redL L n)
noncomputable def rdyL (L : List Lnk) (o : List Int) : List Int := (plainL L).filter fun y => !decide (y ∈ o) && decide (wtL L o y = 0)
noncomputable def ordI (L : List Lnk) : Nat → List Int
  | 0 => []
  | i + 1 => ordI L i ++ (rdyL L (ordI L i)).head?.toList
noncomputable def ordL (L : List Lnk) : List Int := ordI L L.length
theorem plainL_lt {L : List Lnk} (hn : (L.map Prod.fst).Nodup) : (plainL L).Pairwise (· < ·) := (sortI_lt hn).filter _
theorem plainL_len (L : List Lnk) : (plainL L).length ≤ L.length := by
  rw [← nodesL_len L]; exact List.length_filter_le _ _
theorem plainL_node {L : List Lnk} {y : Int} (h : y ∈ plainL L) : ∃ p ∈ L, p.1 = y := by
  have := (List.mem_filter.1 h).1
  rw [nodesL, sortI_mem] at this
  obtain ⟨p, hp, e⟩ := List.mem_map.1 this
  exact ⟨p, hp, e⟩
theorem key_inj {L : List Lnk} (hn : (L.map Prod.fst).Nodup) {p q : Lnk} (hp : p ∈ L) (hq : q ∈ L) (e : p.1 = q.1) : p = q := by
  induction L with
  | nil => cases hp
  | cons c L ih =>
    simp only [List.map_cons, List.nodup_cons] at hn
    rcases List.mem_cons.1 hp with h1 | hp' <;> rcases List.mem_cons.1 hq with h2 | hq'
    · rw [h1, h2]
    · subst h1; exact (hn.1 (List.mem_map.2 ⟨q, hq', e.symm⟩)).elim
    · subst h2; exact (hn.1 (List.mem_map.2 ⟨p, hp', e⟩)).elim
    · exact ih hn.2 hp' hq'
theorem redL_of {L : List Lnk} (hn : (L.map Prod.fst).Nodup) {p : Lnk} (hp : p ∈ L) : redL L p.1 = csL p.2 := by
  unfold redL; rw [got_readsM hn hp]; rfl
theorem redL_nodup {L : List Lnk} (hn : (L.map Prod.fst).Nodup) {y : Int} (hy : y ∈ plainL L) : (redL L y).Nodup := by
  obtain ⟨p, hp, rfl⟩ := plainL_node hy
  rw [redL_of hn hp]
  exact lt_nodup (csL_lt _)
theorem rdL_red {L : List Lnk} (hn : (L.map Prod.fst).Nodup) {y n : Int} (hy : y ∈ plainL L) : y ∈ rdL L n ↔ n ∈ redL L y := by
  obtain ⟨p, hp, rfl⟩ := plainL_node hy
  rw [redL_of hn hp, csL_mem, mem_rdL]
  constructor
  · rintro ⟨q, hq, h1, h2⟩
    rw [← key_inj hn hq hp h2]; exact h1
  · intro h; exact ⟨p, hp, h, rfl⟩
theorem rdL_nodup {L : List Lnk} (hn : (L.map Prod.fst).Nodup) (n : Int) : (rdL L n).Nodup := by
  unfold rdL
  exact hn.sublist (List.Sublist.map _ List.filter_sublist)
theorem wtc_step (P o : List Int) {n : Int} (hP : n ∈ P) (ho : n ∉ o) : ∀ l : List Int, l.Nodup → wtc P o l = wtc P (o ++ [n]) l + if n ∈ l then 1 else 0
  | [], _ => rfl
  | x :: l, hl => by
    obtain ⟨h1, h2⟩ := List.nodup_cons.1 hl
    have ih := wtc_step P o hP ho l h2
    unfold wtc at ih ⊢
    by_cases e : x = n
    · subst e
      have hx : ¬ x ∈ l := h1
      rw [if_neg hx] at ih
      simp [hP, ho, ih]
    · have e' : ¬ n = x := fun h => e h.symm
      by_cases hc : x ∈ P ∧ x ∉ o
      · have hc1 : (decide (x ∈ P) && !decide (x ∈ o)) = true := by simp [hc.1, hc.2]
        have hc2 : (decide (x ∈ P) && !decide (x ∈ o ++ [n])) = true := by simp [hc.1, hc.2, e]
        rw [List.filter_cons_of_pos (by simp only [hc1]), List.filter_cons_of_pos (by simp only [hc2]), List.length_cons, List.length_cons, ih]
        simp only [List.mem_cons, e', false_or]
        omega
      · have hc1 : (decide (x ∈ P) && !decide (x ∈ o)) = false := by
          by_cases h : x ∈ P
          · have : x ∈ o := Classical.not_not.1 fun h' => hc ⟨h, h'⟩
            simp [this]
          · simp [h]
        have hc2 : (decide (x ∈ P) && !decide (x ∈ o ++ [n])) = false := by
          by_cases h : x ∈ P
          · have : x ∈ o := Classical.not_not.1 fun h' => hc ⟨h, h'⟩
            simp [this]
          · simp [h]
        rw [List.filter_cons_of_neg (by simp only [hc1]; decide), List.filter_cons_of_neg (by simp only [hc2]; decide), ih]
        simp [e']
theorem wtL_step {L : List Lnk} (hn : (L.map Prod.fst).Nodup) {o : List Int} {n y : Int} (hP : n ∈ plainL L) (ho : n ∉ o) (hy : y ∈ plainL L) : wtL L o y = wtL L (o ++ [n]) y + if y ∈ rdL L n then 1 else 0 := by
  have := wtc_step (plainL L) o hP ho (redL L y) (redL_nodup hn hy)
  simp only [rdL_red hn hy]
  exact this
/-! ### with -/
theorem lowI_front (l : List Int) (x : Int) : ∀ y ∈ l.take (lowI l x), y < x := by
  have : l.take (lowI l x) = l.takeWhile fun y => decide (y < x) := by
    unfold lowI
    induction l with
    | nil => rfl
    | cons a l ih =>
      by_cases h : a < x
      · simp [List.takeWhile_cons, h, ih]
      · simp [List.takeWhile_cons, h]
  intro y hy
  rw [this] at hy
  have := List.all_eq_true.1 (List.all_takeWhile (p := fun y => decide (y < x)) (l := l)) y hy
  simpa using this
theorem lowI_back {l : List Int} {x : Int} (hs : l.Pairwise (· < ·)) : ∀ y ∈ l.drop (lowI l x), x ≤ y := by
  induction l with
  | nil => simp
  | cons a l ih =>
    obtain ⟨h1, h2⟩ := List.pairwise_cons.1 hs
    intro y hy
    unfold lowI at hy
    by_cases h : a < x
    · simp only [List.takeWhile_cons, decide_eq_true h, if_true, List.length_cons, List.drop_succ_cons] at hy
      exact ih h2 y hy
    · simp only [List.takeWhile_cons, decide_eq_false h, Bool.false_eq_true, if_false, List.length_nil, List.drop_zero] at hy
      rcases List.mem_cons.1 hy with rfl | hy
      · omega
      · have := h1 y hy; omega
theorem withI_mem (l : List Int) (x y : Int) : y ∈ withI l x ↔ y = x ∨ y ∈ l := by
  unfold withI insAt
  rw [List.mem_append, List.mem_cons]
  have := List.take_append_drop (lowI l x) l
  constructor
  · rintro (h | h | h)
    · exact .inr (List.mem_of_mem_take h)
    · exact .inl h
    · exact .inr (List.mem_of_mem_drop h)
  · rintro (h | h)
    · exact .inr (.inl h)
    · rw [← this] at h
      exact (List.mem_append.1 h).imp id .inr
theorem withI_lt {l : List Int} {x : Int} (hs : l.Pairwise (· < ·)) (hx : x ∉ l) : (withI l x).Pairwise (· < ·) := by
  unfold withI insAt
  rw [List.pairwise_append]
  refine ⟨hs.sublist (List.take_sublist _ _), ?_, fun a ha b hb => ?_⟩
  · rw [List.pairwise_cons]
    refine ⟨fun y hy => ?_, hs.sublist (List.drop_sublist _ _)⟩
    have h1 := lowI_back hs y hy
    have h2 : x ≠ y := fun e => hx (e ▸ List.mem_of_mem_drop hy)
    omega
  · have h1 := lowI_front l x a ha
    rcases List.mem_cons.1 hb with rfl | hb
    · exact h1
    · have := lowI_back hs b hb; omega
theorem with_filter {P : List Int} (hP : P.Pairwise (· < ·)) {q q' : Int → Bool} {x : Int} (hx : x ∈ P) (hq : q x = false) (hq' : ∀ y ∈ P, q' y = (q y || decide (y = x))) : withI (P.filter q) x = P.filter q' := by
  refine rise_ext (withI_lt (hP.filter _) fun h => ?_) (hP.filter _) fun y => ?_
  · have := (List.mem_filter.1 h).2; rw [hq] at this; cases this
  · rw [withI_mem, List.mem_filter, List.mem_filter]
    constructor
    · rintro (rfl | ⟨h1, h2⟩)
      · exact ⟨hx, by rw [hq' y hx]; simp⟩
      · exact ⟨h1, by rw [hq' y h1, h2]; rfl⟩
    · rintro ⟨h1, h2⟩
      rw [hq' y h1, Bool.or_eq_true, decide_eq_true_eq] at h2
      exact h2.elim (fun h => .inr ⟨h1, h⟩) .inl
/-! ### the order -/
structure OrdOk (L : List Lnk) (o : List Int) : Prop where
  eq : o = ordI L o.length
  sub : ∀ y ∈ o, y ∈ plainL L
  nd : o.Nodup
  zero : ∀ y ∈ o, wtL L o y = 0
theorem OrdOk.nil (L : List Lnk) : OrdOk L [] := ⟨rfl, by simp, by simp, by simp⟩
theorem sub_len {l : List Int} : ∀ {S : List Int}, S.Nodup → (∀ x ∈ S, x ∈ l) → S.length ≤ l.length
  | [], _, _ => Nat.zero_le _
  | x :: S, hn, hs => by
    obtain ⟨h1, h2⟩ := List.nodup_cons.1 hn
    have hx := hs x List.mem_cons_self
    have := sub_len (l := l.erase x) h2 fun y hy => (List.mem_erase_of_ne (fun e => h1 (by rw [← e]; exact hy))).2 (hs y (List.mem_cons_of_mem _ hy))
    rw [List.length_erase_of_mem hx] at this
    have hl : 0 < l.length := List.length_pos_of_mem hx
    simp; omega
theorem OrdOk.len {L : List Lnk} {o : List Int} (h : OrdOk L o) : o.length ≤ (plainL L).length := sub_len h.nd h.sub
theorem mem_rdyL {L : List Lnk} {o : List Int} {y : Int} : y ∈ rdyL L o ↔ y ∈ plainL L ∧ y ∉ o ∧ wtL L o y = 0 := by
  unfold rdyL
  rw [List.mem_filter]
  simp
theorem OrdOk.step {L : List Lnk} (hn : (L.map Prod.fst).Nodup) {o : List Int} {n : Int} (h : OrdOk L o) (hr : (rdyL L o).head? = some n) : OrdOk L (o ++ [n]) := by
  obtain ⟨hP, ho, hz⟩ := mem_rdyL.1 (List.mem_of_mem_head? hr)
  have mono : ∀ y ∈ plainL L, wtL L o y = 0 → wtL L (o ++ [n]) y = 0 := fun y hy h0 => by
    have := wtL_step hn hP ho hy; omega
  refine ⟨?_, fun y hy => ?_, ?_, fun y hy => ?_⟩
  · rw [List.length_append, List.length_singleton, ordI, ← h.eq, hr]; rfl
  · rcases List.mem_append.1 hy with hy | hy
    · exact h.sub y hy
    · obtain rfl := List.mem_singleton.1 hy; exact hP
  · rw [List.nodup_append]
    refine ⟨h.nd, by simp, fun a ha b hb => ?_⟩
    obtain rfl := List.mem_singleton.1 hb
    exact fun e => ho (e ▸ ha)
  · rcases List.mem_append.1 hy with hy | hy
    · exact mono y (h.sub y hy) (h.zero y hy)
    · obtain rfl := List.mem_singleton.1 hy; exact mono y hP hz
theorem OrdOk.done {L : List Lnk} {o : List Int} (h : OrdOk L o) (hr : rdyL L o = []) : o = ordL L := by
  have key : ∀ k, ordI L (o.length + k) = o := by
    intro k
    induction k with
    | zero => exact h.eq.symm
    | succ k ih => rw [Nat.add_succ, ordI, ih, hr]; simp
  have hl := h.len
  have := plainL_len L
  have := key (L.length - o.length)
  rw [show o.length + (L.length - o.length) = L.length by omega] at this
  exact this.symm
theorem ordOk_ordI {L : List Lnk} (hn : (L.map Prod.fst).Nodup) : ∀ i, ∃ o, OrdOk L o ∧ ordI L i = o ∧ (o.length = i ∨ rdyL L o = [])
  | 0 => ⟨[], .nil L, rfl, .inl rfl⟩
  | i + 1 => by
    obtain ⟨o, h1, h2, h3⟩ := ordOk_ordI hn i
    rw [ordI, h2]
    cases hr : (rdyL L o).head? with
    | none =>
      refine ⟨o, h1, by simp, .inr ?_⟩
      exact List.head?_eq_none_iff.1 hr
    | some n =>
      rcases h3 with h3 | h3
      · exact ⟨o ++ [n], h1.step hn hr, by simp, .inl (by simp [h3])⟩
      · rw [h3] at hr; cases hr
/-- The order is whole: no one more is ready. -/
theorem ordL_ok {L : List Lnk} (hn : (L.map Prod.fst).Nodup) : OrdOk L (ordL L) ∧ rdyL L (ordL L) = [] := by
  obtain ⟨o, h1, h2, h3⟩ := ordOk_ordI hn L.length
  have he : ordL L = o := h2
  rw [he]
  refine ⟨h1, ?_⟩
  rcases h3 with h3 | h3
  · refine List.eq_nil_iff_forall_not_mem.2 fun y hy => ?_
    obtain ⟨hP, ho, _⟩ := mem_rdyL.1 hy
    have := sub_len (l := plainL L) (S := y :: o) (List.nodup_cons.2 ⟨ho, h1.nd⟩) (fun x hx => by
      rcases List.mem_cons.1 hx with rfl | hx
      · exact hP
      · exact h1.sub x hx)
    have h4 := plainL_len L
    simp at this; omega
  · exact h3
/-- Behind the head. -/
theorem rdyL_tail {L : List Lnk} (hn : (L.map Prod.fst).Nodup) {o : List Int} {n : Int} {r : List Int} (hr : rdyL L o = n :: r) : r = (plainL L).filter fun y => !decide (y ∈ o ++ [n]) && decide (wtL L (o ++ [n]) y + (if y ∈ (rdL L n).drop 0 then 1 else 0) = 0) := by
  have hs : (rdyL L o).Pairwise (· < ·) := (plainL_lt hn).filter _
  obtain ⟨hP, ho, hz⟩ := mem_rdyL.1 (hr ▸ List.mem_cons_self : n ∈ rdyL L o)
  rw [hr] at hs
  obtain ⟨hs1, hs2⟩ := List.pairwise_cons.1 hs
  refine rise_ext hs2 ((plainL_lt hn).filter _) fun y => ?_
  rw [List.mem_filter]
  have hm : y ∈ rdyL L o ↔ y = n ∨ y ∈ r := by rw [hr, List.mem_cons]
  constructor
  · intro hy
    obtain ⟨h1, h2, h3⟩ := mem_rdyL.1 (hm.2 (.inr hy))
    have hne : y ≠ n := fun e => by have := hs1 y hy; omega
    have := wtL_step hn hP ho h1
    refine ⟨h1, ?_⟩
    rw [List.drop_zero, ← this, h3]
    simp [h2, hne]
  · rintro ⟨h1, h2⟩
    rw [List.drop_zero, ← wtL_step hn hP ho h1] at h2
    simp at h2
    exact (hm.1 (mem_rdyL.2 ⟨h1, h2.1.1, h2.2⟩)).resolve_left h2.1.2
end Go.AL
/-! Contract: graph's Order. -/
namespace Go.AL
open Go.Proofs
set_option linter.unusedSimpArgs false
set_option linter.unusedVariables false
theorem gwithD_ok {σ : ASt} {b off : Nat} {us : List Int} (hb : σ.sl b = some (us.map vi)) (hbn : b < σ.next) (hn : off ≤ us.length) (x : Int) (hbig : us.length - off ≤ 1000000) (hs : (us.drop off).Pairwise (· < ·)) :
    ACall Try.prog 34 [.hsl b off (us.length - off), vi x] σ fun r τ => r = .hsl (σ.next + 1) 0 (withI (us.drop off) x).length ∧ τ = (((σ.addSl [vi x]).dropSl b).addSl ((withI (us.drop off) x).map vi)) := by
  have ht : (us.drop off).take (us.length - off) = us.drop off := List.take_of_length_le (by simp)
  have h := gwith_ok hb hbn (off := off) (m := us.length - off) (by omega) x hbig (by rw [ht]; exact hs.imp fun h => by omega)
  rw [ht] at h
  rw [withI_len, List.length_drop]
  exact h
def oS (W : List (Int × Int)) (b : Nat) (us : List Int) (c : Nat) (vs : List Int) (m : Nat) : ASt := ⟨fun _ => none, fun i => if i = 3 then some (esK vi W) else none, fun i => if i = b then some (us.map vi) else if i = c then some (vs.map vi) else none, m⟩
section
variable (W : List (Int × Int)) (b : Nat) (us : List Int) (c : Nat) (vs : List Int) (m i : Nat)
@[simp] theorem oS_bx : (oS W b us c vs m).bx i = none := rfl
@[simp] theorem oS_mp : (oS W b us c vs m).mp i = if i = 3 then some (esK vi W) else none := rfl
@[simp] theorem oS_sl : (oS W b us c vs m).sl i = if i = b then some (us.map vi) else if i = c then some (vs.map vi) else none := rfl
@[simp] theorem oS_next : (oS W b us c vs m).next = m := rfl
end
theorem le_oS {W : List (Int × Int)} {b : Nat} {us : List Int} {c : Nat} {vs : List Int} {m : Nat} {σ : ASt} (h1 : σ.mp 3 = some (esK vi W)) (h2 : σ.sl b = some (us.map vi)) (h4 : c ≠ b → σ.sl c = some (vs.map vi)) (h3 : σ.next ≤ m) : (oS W b us c vs m).Le σ where
  bx := fun i c e => by cases e
  mp := fun i c e => by
    simp only [oS_mp] at e
    split at e
    · rename_i hi; subst hi; rw [h1]; exact e
    · cases e
  sl := fun i x e => by
    simp only [oS_sl] at e
    split at e
    · rename_i hi; subst hi; rw [h2]; exact e
    · split at e
      · rename_i hn hi; subst hi; rw [h4 hn]; exact e
      · cases e
  next := h3
def WOk (P : List Int) (W : List (Int × Int)) (f : Int → Nat) : Prop := ∀ y ∈ P, (gotK W y).getD 0 = (f y : Int)
theorem WOk.put {P : List Int} {W : List (Int × Int)} {f f' : Int → Nat} (h : WOk P W f) (n : Int) (v : Nat) (hf : ∀ y ∈ P, f' y = if n = y then v else f y) : WOk P (putK W n (v : Int)) f' := fun y hy => by
  rw [gotK_put, hf y hy]
  split
  · rfl
  · exact h y hy
theorem WOk.out {P : List Int} {W : List (Int × Int)} {f f' : Int → Nat} (h : WOk P W f) {n : Int} (hn : n ∉ P) (v : Int) (hf : ∀ y ∈ P, f' y = f y) : WOk P (putK W n v) f' := fun y hy => by
  have hne : ¬ n = y := fun e => hn (by rw [e]; exact hy)
  rw [gotK_put, if_neg hne, hf y hy]
  exact h y hy
theorem WOk.congr {P : List Int} {W : List (Int × Int)} {f f' : Int → Nat} (h : WOk P W f) (hf : ∀ y ∈ P, f' y = f y) : WOk P W f' := fun y hy => by rw [hf y hy]; exact h y hy
noncomputable def f1 (L : List Lnk) (i : Nat) (y : Int) : Nat := if y ∈ (plainL L).take i then wtL L [] y else 0
noncomputable def f2 (L : List Lnk) (i : Nat) (n : Int) (j : Nat) (y : Int) : Nat := if y = n then wtc (plainL L) [] ((redL L n).take j) else f1 L i y
noncomputable def r1 (L : List Lnk) (i : Nat) : List Int := (plainL L).filter fun y => decide (y ∈ (plainL L).take i) && decide (wtL L [] y = 0)
noncomputable def f3 (L : List Lnk) (o : List Int) (n : Int) (j : Nat) (y : Int) : Nat := wtL L o y + if y ∈ (rdL L n).drop j then 1 else 0
noncomputable def r3 (L : List Lnk) (o : List Int) (n : Int) (j : Nat) : List Int := (plainL L).filter fun y => !decide (y ∈ o) && decide (f3 L o n j y = 0)
theorem redL_len {L : List Lnk} (hL : GOk L) {y : Int} (hy : y ∈ plainL L) : (redL L y).length ≤ 1000 := by
  obtain ⟨p, hp, rfl⟩ := plainL_node hy
  rw [redL_of hL.nd hp]
  exact Nat.le_trans (csL_len _) (hL.rlen p hp)
theorem got_redL {L : List Lnk} (hL : GOk L) {y : Int} (hy : y ∈ plainL L) : gotK (readsM L) y = some (redL L y) := by
  obtain ⟨p, hp, rfl⟩ := plainL_node hy
  rw [redL_of hL.nd hp, got_readsM hL.nd hp]
theorem wtc_le (P o l : List Int) : wtc P o l ≤ l.length := List.length_filter_le _ _
theorem nd_take {P : List Int} (h : P.Nodup) {i : Nat} {n : Int} (hn : P[i]? = some n) : n ∉ P.take i := fun hm => by
  obtain ⟨k, hk⟩ := List.getElem?_of_mem hm
  have hki : k < i := by
    have := (List.getElem?_eq_some_iff.1 hk).1
    simp at this; omega
  rw [List.getElem?_take_of_lt hki] at hk
  have h1 := (List.getElem?_eq_some_iff.1 hn)
  obtain ⟨h2, h3⟩ := List.getElem?_eq_some_iff.1 hk
  obtain ⟨h4, h5⟩ := h1
  have := (List.pairwise_iff_getElem.1 h) k i h2 h4 hki
  exact this (h3.trans h5.symm)
theorem f2_zero {L : List Lnk} (hn : (L.map Prod.fst).Nodup) {i : Nat} {n : Int} (hi : (plainL L)[i]? = some n) (y : Int) : f2 L i n 0 y = f1 L i y := by
  unfold f2
  split
  · rename_i e; subst e
    rw [f1, if_neg (nd_take (lt_nodup (plainL_lt hn)) hi)]; rfl
  · rfl
theorem f2_succ {L : List Lnk} {i : Nat} {n : Int} {j : Nat} {x : Int} (hx : (redL L n)[j]? = some x) (y : Int) : f2 L i n (j + 1) y = if n = y then (f2 L i n j n + if x ∈ plainL L then 1 else 0) else f2 L i n j y := by
  unfold f2
  by_cases e : y = n
  · subst e
    simp only [if_true]
    unfold wtc
    rw [List.take_add_one, hx, Option.toList_some, List.filter_append, List.length_append]
    congr 1
    by_cases h : x ∈ plainL L <;> simp [h]
  · have e' : ¬ n = y := fun h => e h.symm
    simp [e, e']
theorem f2_done {L : List Lnk} {i : Nat} {n : Int} {j : Nat} (hi : (plainL L)[i]? = some n) (hj : (redL L n).length ≤ j) (y : Int) : f1 L (i + 1) y = f2 L i n j y := by
  unfold f2
  rw [List.take_of_length_le hj]
  unfold f1
  rw [List.take_add_one, hi, Option.toList_some]
  simp only [List.mem_append, List.mem_singleton]
  by_cases e : y = n
  · subst e; simp [wtL]
  · simp [e]
theorem r1_succ {L : List Lnk} (hn : (L.map Prod.fst).Nodup) {i : Nat} {n : Int} (hi : (plainL L)[i]? = some n) : r1 L (i + 1) = if wtL L [] n = 0 then withI (r1 L i) n else r1 L i := by
  have hx := List.mem_of_getElem? hi
  have hnt := nd_take (lt_nodup (plainL_lt hn)) hi
  have htk : (plainL L).take (i + 1) = (plainL L).take i ++ [n] := by rw [List.take_add_one, hi, Option.toList_some]
  split
  · rename_i h0
    refine (with_filter (plainL_lt hn) hx (by simp [hnt]) fun y hy => ?_).symm
    rw [htk]
    by_cases e : y = n
    · subst e; simp [h0]
    · simp [e]
  · rename_i h0
    refine List.filter_congr fun y hy => ?_
    rw [htk]
    by_cases e : y = n
    · subst e; simp [h0]
    · simp [e]
theorem r1_whole (L : List Lnk) {i : Nat} (hi : (plainL L).length ≤ i) : r1 L i = rdyL L [] := by
  unfold r1 rdyL
  rw [List.take_of_length_le hi]
  refine List.filter_congr fun y hy => ?_
  simp [hy]
theorem drop_get' {D : List Int} {j : Nat} {x : Int} (hx : D[j]? = some x) : D.drop j = x :: D.drop (j + 1) := by
  obtain ⟨h, e⟩ := List.getElem?_eq_some_iff.1 hx
  rw [List.drop_eq_getElem_cons h, e]
theorem f3_succ {L : List Lnk} (hn : (L.map Prod.fst).Nodup) {o : List Int} {n : Int} {j : Nat} {x : Int} (hx : (rdL L n)[j]? = some x) (y : Int) : f3 L o n (j + 1) y = if x = y then wtL L o x else f3 L o n j y := by
  have hd := drop_get' hx
  have hnd : ((rdL L n).drop j).Nodup := (rdL_nodup hn n).sublist (List.drop_sublist _ _)
  rw [hd] at hnd
  have h1 := (List.nodup_cons.1 hnd).1
  unfold f3
  rw [hd]
  by_cases e : x = y
  · subst e; simp [h1]
  · have e' : ¬ y = x := fun h => e h.symm
    simp [e, e']
theorem f3_at {L : List Lnk} {o : List Int} {n : Int} {j : Nat} {x : Int} (hx : (rdL L n)[j]? = some x) : f3 L o n j x = wtL L o x + 1 := by
  unfold f3; rw [drop_get' hx]; simp
theorem r3_out {L : List Lnk} (hn : (L.map Prod.fst).Nodup) {o : List Int} {n : Int} {j : Nat} {x : Int} (hx : (rdL L n)[j]? = some x) (h : x ∉ plainL L ∨ wtL L o x ≠ 0) : r3 L o n (j + 1) = r3 L o n j := by
  refine List.filter_congr fun y hy => ?_
  rw [f3_succ hn hx]
  by_cases e : x = y
  · subst e
    have h := h.resolve_left fun h' => h' hy
    rw [if_pos rfl, f3_at hx]
    simp [h]
  · rw [if_neg e]
theorem r3_with {L : List Lnk} (hn : (L.map Prod.fst).Nodup) {o : List Int} {n : Int} {j : Nat} {x : Int} (hx : (rdL L n)[j]? = some x) (hP : x ∈ plainL L) (ho : x ∉ o) (h : wtL L o x = 0) : r3 L o n (j + 1) = withI (r3 L o n j) x := by
  refine (with_filter (plainL_lt hn) hP (by rw [f3_at hx]; simp) fun y hy => ?_).symm
  rw [f3_succ hn hx]
  by_cases e : x = y
  · subst e; simp [h, ho]
  · have e' : ¬ y = x := fun h => e h.symm
    simp [e, e']
theorem r3_done {L : List Lnk} {o : List Int} {n : Int} {j : Nat} (hj : (rdL L n).length ≤ j) : r3 L o n j = rdyL L o := by
  unfold r3 rdyL f3
  rw [List.drop_eq_nil_of_le hj]
  simp
theorem f3_done {L : List Lnk} {o : List Int} {n : Int} {j : Nat} (hj : (rdL L n).length ≤ j) (y : Int) : wtL L o y = f3 L o n j y := by
  unfold f3
  rw [List.drop_eq_nil_of_le hj]
  simp
theorem f3_zero {L : List Lnk} (hn : (L.map Prod.fst).Nodup) {o : List Int} {n : Int} (hP : n ∈ plainL L) (ho : n ∉ o) {y : Int} (hy : y ∈ plainL L) : f3 L (o ++ [n]) n 0 y = wtL L o y := by
  unfold f3
  rw [wtL_step hn hP ho hy, List.drop_zero]
theorem r1_lt {L : List Lnk} (hn : (L.map Prod.fst).Nodup) (i : Nat) : (r1 L i).Pairwise (· < ·) := (plainL_lt hn).filter _
theorem r3_lt {L : List Lnk} (hn : (L.map Prod.fst).Nodup) (o : List Int) (n : Int) (j : Nat) : (r3 L o n j).Pairwise (· < ·) := (plainL_lt hn).filter _
theorem r1_len (L : List Lnk) (i : Nat) : (r1 L i).length ≤ (plainL L).length := List.length_filter_le _ _
theorem r3_len (L : List Lnk) (o : List Int) (n : Int) (j : Nat) : (r3 L o n j).length ≤ (plainL L).length := List.length_filter_le _ _
/-- Who is told reads no one who is not. -/
theorem told_not {L : List Lnk} (hn : (L.map Prod.fst).Nodup) {o : List Int} {n x : Int} {j : Nat} (hk : OrdOk L o) (hr : n ∈ rdyL L o) (hx : (rdL L n)[j]? = some x) (hP : x ∈ plainL L) : x ∉ o ++ [n] := fun hm => by
  obtain ⟨h1, h2, h3⟩ := mem_rdyL.1 hr
  have h4 := wtL_step hn h1 h2 hP
  rw [if_pos (List.mem_of_getElem? hx)] at h4
  rcases List.mem_append.1 hm with hm | hm
  · have := hk.zero x hm; omega
  · obtain rfl := List.mem_singleton.1 hm; omega
end Go.AL
