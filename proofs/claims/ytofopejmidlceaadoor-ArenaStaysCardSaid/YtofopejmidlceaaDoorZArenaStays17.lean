/- Parts of the proof of ArenaStays: the logic, contracts, plain laws. -/
import Derived.Test.YtofopejmidlceaaDoorZArenaStays16
import Derived.Test.YtofopejmidlceaaDoorZArenaStays14
import Derived.Test.YtofopejmidlceaaDoorZArenaStays11
/-! Contract: arena's reached. -/
namespace Go.AL
open Go.Proofs
set_option linter.unusedSimpArgs false
set_option linter.unusedVariables false
/-- What is reached from roots. -/
inductive Rch (M : Nods) (on : List Int) : Int → Prop
  | root (h : Int) : h ∈ on → (gotK M h).isSome = true → Rch M on h
  | step (h : Int) (x : Nd) (r : Int) : Rch M on h → gotK M h = some x → r ∈ x.refs → (gotK M r).isSome = true → Rch M on r
theorem Rch.live {M : Nods} {on : List Int} {h : Int} (hr : Rch M on h) : (gotK M h).isSome = true := by cases hr <;> assumption
def potU (M : Nods) (S : List Int) : Nat := (M.map fun p => if p.1 ∈ S then 0 else p.2.refs.length + 1).sum
theorem potU_mono (M : Nods) {S S' : List Int} (h : ∀ x ∈ S, x ∈ S') : potU M S' ≤ potU M S := by
  unfold potU
  induction M with
  | nil => simp
  | cons p M ih =>
    simp only [List.map_cons, List.sum_cons]
    by_cases h1 : p.1 ∈ S
    · simp [h1, h _ h1]; omega
    · by_cases h2 : p.1 ∈ S' <;> simp [h1, h2] <;> omega
theorem potU_new : ∀ (M : Nods) (S : List Int) (h : Int) (x : Nd), h ∉ S → gotK M h = some x → potU M (S ++ [h]) + x.refs.length + 1 ≤ potU M S
  | [], S, h, x, _, hg => by cases hg
  | (k, y) :: M, S, h, x, hS, hg => by
    rw [gotK] at hg
    by_cases e : k = h
    · subst e
      rw [if_pos rfl] at hg
      cases hg
      have := potU_mono M (S := S) (S' := S ++ [k]) fun x hx => List.mem_append_left _ hx
      have e1 : potU ((k, y) :: M) (S ++ [k]) = potU M (S ++ [k]) := by simp [potU]
      have e2 : potU ((k, y) :: M) S = y.refs.length + 1 + potU M S := by simp [potU, hS]
      omega
    · rw [if_neg e] at hg
      have ih := potU_new M S h x hS hg
      by_cases h1 : k ∈ S
      · have e1 : potU ((k, y) :: M) (S ++ [h]) = potU M (S ++ [h]) := by simp [potU, h1]
        have e2 : potU ((k, y) :: M) S = potU M S := by simp [potU, h1]
        omega
      · have e1 : potU ((k, y) :: M) (S ++ [h]) = y.refs.length + 1 + potU M (S ++ [h]) := by simp [potU, h1, e]
        have e2 : potU ((k, y) :: M) S = y.refs.length + 1 + potU M S := by simp [potU, h1]
        omega
theorem potU_le (M : Nods) (S : List Int) (b : Nat) (h : ∀ p ∈ M, p.2.refs.length + 1 ≤ b) : potU M S ≤ M.length * b := by
  unfold potU
  induction M with
  | nil => simp
  | cons p M ih =>
    have h1 := ih fun q hq => h q (List.mem_cons_of_mem _ hq)
    have h2 := h p List.mem_cons_self
    simp only [List.map_cons, List.sum_cons, List.length_cons, Nat.add_mul, Nat.one_mul]
    split <;> omega
theorem gotK_pair {M : Nods} (hn : (M.map Prod.fst).Nodup) {p : Int × Nd} (hp : p ∈ M) : gotK M p.1 = some p.2 := by
  induction M with
  | nil => cases hp
  | cons q M ih =>
    obtain ⟨h1, h2⟩ := List.nodup_cons.1 hn
    obtain ⟨a, x⟩ := q
    rw [gotK]
    rcases List.mem_cons.1 hp with rfl | hp
    · simp
    · have : a ≠ p.1 := fun e => h1 (List.mem_map.2 ⟨p, hp, e.symm⟩)
      rw [if_neg this]; exact ih h2 hp
def ones (S : List Int) : List (Int × Int) := S.map fun x => (x, (1 : Int))
theorem gotO (S : List Int) (x : Int) : gotK (ones S) x = if x ∈ S then some 1 else none := by
  unfold ones
  induction S with
  | nil => rfl
  | cons a S ih =>
    simp only [List.map_cons, gotK, ih, List.mem_cons]
    by_cases e : a = x
    · subst e; simp
    · have : ¬ x = a := fun h => e h.symm
      simp [e, this]
theorem putO {S : List Int} {x : Int} (h : x ∉ S) : putK (ones S) x 1 = ones (S ++ [x]) := by
  rw [putK_new (by rw [gotO, if_neg h])]
  simp [ones]
/-- An arena, what was seen, and some slices beside it. -/
def arM (a : Int) (es fs : List (AV × AV)) (c : Int) (k : Nat) (S : List Int) (ss : List (Nat × List AV)) (m : Nat) : ASt := ⟨fun i => if i = 0 then some [.p (.int .i64 a), .map 1, .map 2, .p (.int .i64 c)] else none, fun i => if i = 1 then some es else if i = 2 then some fs else if i = k then some (esK vi (ones S)) else none, fun i => lkN ss i, m⟩
section
variable (a : Int) (es fs : List (AV × AV)) (c : Int) (k : Nat) (S : List Int) (ss : List (Nat × List AV)) (m i : Nat)
@[simp] theorem arM_bx : (arM a es fs c k S ss m).bx i = if i = 0 then some [.p (.int .i64 a), .map 1, .map 2, .p (.int .i64 c)] else none := rfl
@[simp] theorem arM_mp : (arM a es fs c k S ss m).mp i = if i = 1 then some es else if i = 2 then some fs else if i = k then some (esK vi (ones S)) else none := rfl
@[simp] theorem arM_sl : (arM a es fs c k S ss m).sl i = lkN ss i := rfl
@[simp] theorem arM_next : (arM a es fs c k S ss m).next = m := rfl
end
theorem le_arM {a : Int} {es fs : List (AV × AV)} {c : Int} {k : Nat} {S : List Int} {ss : List (Nat × List AV)} {m : Nat} {σ : ASt} (h1 : σ.bx 0 = some [.p (.int .i64 a), .map 1, .map 2, .p (.int .i64 c)]) (h2 : σ.mp 1 = some es) (h3 : σ.mp 2 = some fs) (h4 : σ.mp k = some (esK vi (ones S))) (h5 : ∀ p ∈ ss, σ.sl p.1 = some p.2) (h6 : σ.next ≤ m) : (arM a es fs c k S ss m).Le σ where
  bx := fun i cs e => by
    simp only [arM_bx] at e
    split at e
    · rename_i hi; subst hi; rw [h1]; exact e
    · cases e
  mp := fun i cs e => by
    simp only [arM_mp] at e
    split at e
    · rename_i hi; subst hi; rw [h2]; exact e
    · split at e
      · rename_i hi; subst hi; rw [h3]; exact e
      · split at e
        · rename_i hi; subst hi; rw [h4]; exact e
        · cases e
  sl := fun i cs e => h5 _ (lkN_mem e)
  next := h6
theorem at_arM {a : Int} {es fs : List (AV × AV)} {c : Int} {k : Nat} {S : List Int} {ss : List (Nat × List AV)} {m : Nat} (hk : 2 < k) (h2 : ∀ p ∈ ss, 2 < p.1) : ArAt (arM a es fs c k S ss m) 0 1 2 a es fs c := by
  have s0 : lkN ss 0 = none := lkN_lo fun p hp => by have := h2 p hp; omega
  have s1 : lkN ss 1 = none := lkN_lo fun p hp => by have := h2 p hp; omega
  have s2 : lkN ss 2 = none := lkN_lo fun p hp => by have := h2 p hp; omega
  have k0 : ¬ 0 = k := by omega
  exact ⟨by simp, by simp, by simp, by omega, by omega, by omega, by simp [s0, k0], by simp [s1], by simp [s2]⟩
theorem arM_ar (a : Int) (es fs es' fs' : List (AV × AV)) (c c' : Int) (k : Nat) (S : List Int) (ss : List (Nat × List AV)) (m : Nat) : (arM a es fs c k S ss m).ar 0 1 2 a es' fs' c' = arM a es' fs' c' k S ss m := by
  unfold ASt.ar arM
  congr 1
  · funext i
    by_cases h : i = 0
    · subst h; simp [upd]
    · simp [upd, h]
  · funext i
    by_cases h2 : i = 2
    · subst h2; simp [upd]
    · by_cases h1 : i = 1
      · subst h1; simp [upd]
      · simp [upd, h1, h2]
attribute [simp] arM_ar
/-- Between two passes: seen, and to do. -/
structure RcJ (M : Nods) (on S todo : List Int) : Prop where
  nd : S.Nodup
  sound : ∀ x ∈ S, Rch M on x
  from_ : ∀ x ∈ todo, (gotK M x).isSome = true → Rch M on x
  roots : ∀ x ∈ on, (gotK M x).isSome = true → x ∈ S ∨ x ∈ todo
  whole : ∀ h ∈ S, ∀ x, gotK M h = some x → ∀ r ∈ x.refs, (gotK M r).isSome = true → r ∈ S ∨ r ∈ todo
theorem RcJ.start (M : Nods) (on : List Int) : RcJ M on [] on := ⟨by simp, by simp, fun x hx hl => .root x hx hl, fun x hx _ => .inr hx, by simp⟩
theorem RcJ.done {M : Nods} {on S : List Int} (h : RcJ M on S []) : ∀ x, x ∈ S ↔ Rch M on x := fun x => ⟨h.sound x, fun hr => by
  induction hr with
  | root k hk hl => exact (h.roots k hk hl).elim id fun h => by cases h
  | step k y r _ hg hr hl ih => exact (h.whole k ih y hg r hr hl).elim id fun h => by cases h⟩
theorem RcJ.old {M : Nods} {on S todo : List Int} {h : Int} (hJ : RcJ M on S (todo ++ [h])) (hs : gotK M h = none ∨ h ∈ S) : RcJ M on S todo := by
  have key : ∀ x, (gotK M x).isSome = true → x ∈ S ∨ x ∈ todo ++ [h] → x ∈ S ∨ x ∈ todo := fun x hl hx => by
    rcases hx with hx | hx
    · exact .inl hx
    · rcases List.mem_append.1 hx with hx | hx
      · exact .inr hx
      · obtain rfl := List.mem_singleton.1 hx
        rcases hs with hs | hs
        · rw [hs] at hl; cases hl
        · exact .inl hs
  exact ⟨hJ.nd, hJ.sound, fun x hx => hJ.from_ x (List.mem_append_left _ hx), fun x hx hl => key x hl (hJ.roots x hx hl), fun k hk x hg r hr hl => key r hl (hJ.whole k hk x hg r hr hl)⟩
theorem RcJ.new {M : Nods} {on S todo : List Int} {h : Int} {y : Nd} (hJ : RcJ M on S (todo ++ [h])) (hg : gotK M h = some y) (hs : h ∉ S) : RcJ M on (S ++ [h]) (todo ++ y.refs) := by
  have hR := hJ.from_ h (by simp) (by rw [hg]; rfl)
  have key : ∀ x, x ∈ S ∨ x ∈ todo ++ [h] → x ∈ S ++ [h] ∨ x ∈ todo ++ y.refs := fun x hx => by
    rcases hx with hx | hx
    · exact .inl (List.mem_append_left _ hx)
    · rcases List.mem_append.1 hx with hx | hx
      · exact .inr (List.mem_append_left _ hx)
      · exact .inl (List.mem_append_right _ hx)
  refine ⟨?_, fun x hx => ?_, fun x hx hl => ?_, fun x hx hl => key x (hJ.roots x hx hl), fun k hk x hx r hr hl => ?_⟩
  · rw [List.nodup_append]
    refine ⟨hJ.nd, by simp, fun a ha b hb => ?_⟩
    obtain rfl := List.mem_singleton.1 hb
    exact fun e => hs (e ▸ ha)
  · rcases List.mem_append.1 hx with hx | hx
    · exact hJ.sound x hx
    · obtain rfl := List.mem_singleton.1 hx; exact hR
  · rcases List.mem_append.1 hx with hx | hx
    · exact hJ.from_ x (List.mem_append_left _ hx) hl
    · exact .step h y x hR hg hx hl
  · rcases List.mem_append.1 hk with hk | hk
    · exact key r (hJ.whole k hk x hx r hr hl)
    · obtain rfl := List.mem_singleton.1 hk
      rw [hg] at hx
      cases hx
      exact .inr (List.mem_append_right _ hr)
theorem tmI : tmap Tryd.prog 80 = some (.int .i64, 3) := by kernel_rfl
section
variable {σ : ASt} {D : List Deferred} {Q : Exit → List AV → ASt → Prop} {fr : List AV} {ops : Array Oper} {o : Oper} {rest : List Oper}
theorem awl_lookI {m k : Operand} (mu : List Nat) (ho : o.op = .lookup 80 m k false) (hw : awanted ops o fr = some true) {b : Nat} {M : List (Int × Int)} {n : Int} (hm : aev fr m = .map b) (hb : σ.mp b = some (esK vi M)) (hk : aev fr k = vi n)
    (hk2 : Shut (ARun Tryd.prog D ops Q mu rest (aput fr o.dst (vi ((gotK M n).getD 0))) σ)) : AWL Tryd.prog D ops Q (o :: rest) fr σ := by
  refine awl_lookupW mu ho hw tmI hm hb hk (find_esK vi 0 .i64 n M 0) (x := vi ((gotK M n).getD 0)) (fun j y e => ?_) (fun e => ?_) hk2
  · obtain ⟨_, _, e⟩ := Option.map_eq_some_iff.1 e
    cases e; rfl
  · rw [ixK_none (Option.map_eq_none_iff.1 e)]; exact tz3
theorem awl_putI {m k x : Operand} (mu : List Nat) (ho : o.op = .mapUpdate 80 m k x) (hw : awanted ops o fr = some true) {b : Nat} {M : List (Int × Int)} {n v : Int} (hm : aev fr m = .map b) (hb : σ.mp b = some (esK vi M)) (hk : aev fr k = vi n) (hx : aev fr x = vi v)
    (hk2 : Shut (ARun Tryd.prog D ops Q mu rest (aput fr o.dst (.p undef)) { σ with mp := upd σ.mp b (some (esK vi (putK M n v))) })) : AWL Tryd.prog D ops Q (o :: rest) fr σ :=
  awl_mapPut mu (.inr ho) hw tmI hm hb hk (by rw [hx]; exact put_esK vi .i64 M n v) hk2
end
def RhI (M : Nods) (fs : List (AV × AV)) (a c : Int) (on : List Int) (bd : Nat) (q : Nat) (fr : List AV) (σ : ASt) : Prop := ∃ (S us : List Int) (n k ks m : Nat), n ≤ us.length ∧ us.length ≤ bd ∧ n + potU M S = q ∧ q ≤ bd ∧ 2 < k ∧ k < m ∧ 2 < ks ∧ ks < m ∧ RcJ M on S (us.take n) ∧ σ = arM a (esK ndA M) fs c k S [(ks, us.map vi)] m ∧ fr = frm 46 [(0, .ptr 0 0), (5, .map k), (6, .hsl ks 0 n)]
set_option maxHeartbeats 8000000 in
set_option maxRecDepth 100000 in
theorem areached_ok (M : Nods) (N : Nms) (a c : Int) (m0 : Nat) (hm0 : 2 < m0) (h : AI M N c) (on : List Int) (hon : on.length ≤ 1000000) : ACall Tryd.prog 35 [.ptr 0 0, .vsl (on.map vi)] (arG a (esK ndA M) (esT vi N) c [] [] m0) fun r τ => ∃ (S : List Int) (k m : Nat), 2 < k ∧ k < m ∧ r = .map k ∧ S.Nodup ∧ (∀ x, x ∈ S ↔ Rch M on x) ∧ (arM a (esK ndA M) (esT vi N) c k S [] m).Le τ := by
  have hfs : clM (esT vi N) := cl_esT N
  refine acall_of Tryd.func35 Tryd.ntmps35 rfl ?_
  simp only [List.length_cons, List.length_nil, List.cons_append, List.nil_append, List.replicate]
  obtain ⟨bd, hbd⟩ : ∃ bd, bd = 10001100000 := ⟨_, rfl⟩
  repeat' first | refine aw_N [] trivial trivial ?_ | refine aw_cond rfl (fun h => ?_) (fun h => ?_)
  refine aw_scope_loop 0 [0, 5, 6] (fun q fr σ => RhI M (esT vi N) a c on bd q fr σ) rfl ?_ fun enter => ?_
  · rintro q fr σ ⟨S, us, n, k, ks, m, hn, hub, hq, hqb, hk1, hk2, hs1, hs2, hJ, rfl, rfl⟩
    simp -implicitDefEqProofs
    by_cases h0 : n = 0
    · subst h0
      repeat' first | refine aw_N [] trivial trivial ?_ | refine aw_cond rfl (fun h => ?_) (fun h => ?_)
      exact ⟨S, k, hk1, m, hk2, rfl, hJ.nd, hJ.done, le_arM (by simp) (by simp) (by simp) (by simp [show ¬ k = 1 by omega, show ¬ k = 2 by omega]) (by simp) (by simp)⟩
    · obtain ⟨j, hj⟩ : ∃ j, n = j + 1 := ⟨n - 1, by omega⟩
      have hjl : j < us.length := by omega
      obtain ⟨t, ht⟩ : ∃ t, us[j] = t := ⟨_, rfl⟩
      have htg : us[j]? = some t := by rw [List.getElem?_eq_getElem hjl, ht]
      have h0i : ¬ (n : Int) = 0 := by omega
      have w1 : IntKind.i64.wrap ((n : Int) - 1) = (j : Int) := by rw [show (n : Int) - 1 = j by omega]; exact wrap_id (by omega) (by omega)
      have hjn : j < n := by omega
      have hjn' : j ≤ n := by omega
      have hjni : (j : Int) < n := by omega
      have hjni' : (j : Int) ≤ n := by omega
      have huv : (us.map vi).length = us.length := List.length_map _
      have k1 : ¬ k = 1 := by omega
      have k2 : ¬ k = 2 := by omega
      rw [hj, List.take_add_one, htg, Option.toList_some] at hJ
      have hh := ahas_ok M (esT vi N) a c t
      repeat' first | refine aw_N [] (And.intro @h0 (And.intro @h0i (And.intro @w1 (And.intro @hjl (And.intro @ht (And.intro @htg (And.intro @hjn (And.intro @hjn' (And.intro @hjni (And.intro @hjni' @huv)))))))))) trivial ?_ | refine aw_cond rfl (fun h => ?_) (fun h => ?_)
      refine awl_ar [] rfl rfl rfl (by kernel_rfl) hh rfl (by simp) (by simp) (cl_esN M) hfs (cl_esN M) hfs (at_arM hk1 (by simp; omega)) ?_
      cases hg : gotK M t with
      | none =>
        simp -implicitDefEqProofs
        repeat' first | refine aw_N [] trivial trivial ?_ | refine aw_cond rfl (fun h => ?_) (fun h => ?_)
        refine aw_goto ⟨rfl, j + potU M S, by omega, _, le_same _, S, us, j, k, ks, m, by omega, hub, rfl, by omega, hk1, hk2, hs1, hs2, hJ.old (.inl hg), rfl, by simp⟩
      | some y =>
        simp -implicitDefEqProofs
        refine awl_unopt 30 (c := .map k) rfl ?_
        refine awl_unopt 31 (c := vi t) rfl ?_
        simp -implicitDefEqProofs only [List.set]
        refine awl_lookI [] rfl rfl (b := k) (M := ones S) (n := t) rfl (by simp [k1, k2]) rfl ?_
        rw [gotO]
        by_cases hS : t ∈ S
        · simp -implicitDefEqProofs [hS]
          repeat' first | refine aw_N [] trivial trivial ?_ | refine aw_cond rfl (fun h => ?_) (fun h => ?_)
          refine aw_goto ⟨rfl, j + potU M S, by omega, _, le_same _, S, us, j, k, ks, m, by omega, hub, rfl, by omega, hk1, hk2, hs1, hs2, hJ.old (.inr hS), rfl, by simp⟩
        · simp -implicitDefEqProofs [hS]
          repeat' first | refine aw_N [] trivial trivial ?_ | refine aw_cond rfl (fun h => ?_) (fun h => ?_)
          refine awl_putI [] rfl rfl (b := k) (M := ones S) (n := t) (v := 1) rfl (by simp [k1, k2]) rfl rfl ?_
          rw [putO hS]
          simp -implicitDefEqProofs
          refine aw_weak (τ := arM a (esK ndA M) (esT vi N) c k (S ++ [t]) [(ks, us.map vi)] m) (le_arM (by simp) (by simp [upd, Ne.symm k1]) (by simp [upd, Ne.symm k2]) (by simp) (by simp) (by simp)) ?_
          repeat' first | refine aw_N [] trivial trivial ?_ | refine aw_cond rfl (fun h => ?_) (fun h => ?_)
          refine awl_lookupW [] rfl rfl tmN rfl (es := esK ndA M) (by simp) rfl (find_esK ndA ndZ .i64 t M 0) (x := ngot (gotK M t)) (ngot_some M t ndZ) (ngot_none tz40 M t ndZ) ?_
          rw [hg]
          simp -implicitDefEqProofs [show ngot (some y) = .agg [vi y.k, .vsl (y.refs.map vi), .vsl (y.nums.map vi), vs y.text] from rfl]
          repeat' first | refine aw_N [] trivial trivial ?_ | refine aw_cond rfl (fun h => ?_) (fun h => ?_)
          have hyo := (h.pos t y hg).2.2.rl
          have hpn := potU_new M S t y hS hg
          have hJn := hJ.new hg hS
          by_cases hy0 : y.refs = []
          · rw [hy0]
            simp -implicitDefEqProofs
            refine awl_append0 [] (b := ks) (off := 0) (k := j) rfl rfl rfl (.inl rfl) tet33 ts3 ?_
            simp -implicitDefEqProofs
            repeat' first | refine aw_N [] trivial trivial ?_ | refine aw_cond rfl (fun h => ?_) (fun h => ?_)
            rw [hy0, List.append_nil] at hJn
            refine aw_goto ⟨rfl, j + potU M (S ++ [t]), by omega, _, le_same _, S ++ [t], us, j, k, ks, m, by omega, hub, rfl, by omega, hk1, hk2, hs1, hs2, hJn, rfl, by simp⟩
          · refine awl_append [] rfl rfl rfl (b := ks) (xs := us.map vi) (by simp) (by simp; omega) rfl (by simp [hy0]) te33 tet33 tz3 rfl (fun y hy => by obtain ⟨_, _, rfl⟩ := List.mem_map.1 hy; rfl) (by simp) (by simp; omega) (by simp; omega) ?_
            simp -implicitDefEqProofs
            repeat' first | refine aw_N [] trivial trivial ?_ | refine aw_cond rfl (fun h => ?_) (fun h => ?_)
            have m1 : ¬ m = 1 := by omega
            have m2 : ¬ m = 2 := by omega
            refine aw_goto ⟨rfl, j + y.refs.length + potU M (S ++ [t]), by omega, arM a (esK ndA M) (esT vi N) c k (S ++ [t]) [(m, (us.take j ++ y.refs).map vi)] (m + 1), le_arM (by simp) (by simp) (by simp) (by simp [k1, k2]) (by simp) (by simp), S ++ [t], us.take j ++ y.refs, j + y.refs.length, k, m, m + 1, by simp; omega, by simp; omega, rfl, by omega, hk1, by omega, by omega, by omega, ?_, rfl, by simp⟩
            rw [List.take_of_length_le (by simp; omega)]; exact hJn
  · repeat' first | refine aw_N [] trivial trivial ?_ | refine aw_cond rfl (fun h => ?_) (fun h => ?_)
    refine awl_makeMap [] rfl rfl ?_
    simp -implicitDefEqProofs
    refine awl_cons rfl (opq_call rfl rfl rfl ((iclone_ok (σ := (arG a (esK ndA M) (esT vi N) c [] [] m0).addMp []) on (by omega)).mono fun r τ h => ?_))
    obtain ⟨ks, m, h1, h2, rfl, rfl⟩ := h
    simp [ASt.addMp] at h1
    refine awl_run' [] ?_
    simp -implicitDefEqProofs
    repeat' first | refine aw_N [] trivial trivial ?_ | refine aw_cond rfl (fun h => ?_) (fun h => ?_)
    refine aw_label ?_
    have hp := potU_le M [] 100001 fun p hp => by
      have h3 := gotK_mem.2 (List.mem_map_of_mem (f := Prod.fst) hp)
      have h4 : gotK M p.1 = some p.2 := gotK_pair h.ndM hp
      have := (h.pos p.1 p.2 h4).2.2.rl
      omega
    have hkl := h.klen
    have hp2 : M.length * 100001 ≤ 100000 * 100001 := Nat.mul_le_mul_right _ hkl
    refine enter (on.length + potU M []) _ _ ⟨arM a (esK ndA M) (esT vi N) c m0 [] [(ks, on.map vi)] m, le_arM (by simp [ASt.withSl, ASt.addMp]) (by simp [ASt.withSl, ASt.addMp, upd, show ¬ 1 = m0 by omega]) (by simp [ASt.withSl, ASt.addMp, upd, show ¬ 2 = m0 by omega]) (by simp [ASt.withSl, ASt.addMp, ones, esK]) (by simp [ASt.withSl, ASt.addMp]) (by simp [ASt.withSl, ASt.addMp]), [], on, on.length, m0, ks, m, by omega, by omega, rfl, by omega, hm0, by omega, by omega, by omega, ?_, rfl, by simp⟩
    rw [List.take_of_length_le (by omega)]
    exact RcJ.start M on
end Go.AL
/-! Contracts: arena's Reach, Sweep. -/
namespace Go.AL
open Go.Proofs
set_option linter.unusedSimpArgs false
set_option linter.unusedVariables false
open Classical in
/-- The handles that are reached. -/
noncomputable def rchL (M : Nods) (on : List Int) : List Int := (livL M).filter fun x => decide (Rch M on x)
theorem mem_livL {M : Nods} {x : Int} : x ∈ livL M ↔ (gotK M x).isSome = true := by rw [livL, sortI_mem, gotK_mem]
theorem livL_lt {M : Nods} (h : (M.map Prod.fst).Nodup) : (livL M).Pairwise (· < ·) := sortI_lt h
open Classical in
theorem mem_rchL {M : Nods} {on : List Int} {x : Int} : x ∈ rchL M on ↔ Rch M on x := by
  unfold rchL
  rw [List.mem_filter, mem_livL, decide_eq_true_eq]
  exact ⟨fun h => h.2, fun h => ⟨h.live, h⟩⟩
open Classical in
theorem rchL_lt {M : Nods} (h : (M.map Prod.fst).Nodup) (on : List Int) : (rchL M on).Pairwise (· < ·) := (livL_lt h).filter _
theorem rchL_eq {M : Nods} (h : (M.map Prod.fst).Nodup) {on S : List Int} (hn : S.Nodup) (hS : ∀ x, x ∈ S ↔ Rch M on x) : sortI S = rchL M on :=
  rise_ext (sortI_lt hn) (rchL_lt h on) fun x => by rw [sortI_mem, hS, mem_rchL]
set_option maxHeartbeats 8000000 in
set_option maxRecDepth 100000 in
theorem areach_ok (M : Nods) (N : Nms) (a c : Int) (h : AI M N c) (on : List Int) (hon : on.length ≤ 1000000) : AC Tryd.prog 20 [.vsl (on.map vi)] a (esK ndA M) (esT vi N) c (.vsl ((rchL M on).map vi)) (esK ndA M) (esT vi N) c := by
  have hkl := h.klen
  refine ac_in Tryd.func20 Tryd.ntmps20 rfl ?_
  rw [show arS a (esK ndA M) (esT vi N) c = arG a (esK ndA M) (esT vi N) c [] [] 3 from rfl]
  repeat' first | refine aw_N [] trivial trivial ?_ | refine aw_cond rfl (fun h => ?_) (fun h => ?_)
  refine awl_cons rfl (opq_call rfl rfl rfl ((areached_ok M N a c 3 (by omega) h on hon).mono fun r τ hq => ?_))
  obtain ⟨S, k, m, hk1, hk2, rfl, hS1, hS2, hle⟩ := hq
  refine AWL.less hle ?_
  have k1 : ¬ k = 1 := by omega
  have k2 : ¬ k = 2 := by omega
  have hSl : S.length ≤ 100000 := by
    have := sub_len S (M.map Prod.fst) hS1 fun x hx => gotK_mem.1 ((hS2 x).1 hx).live
    rw [List.length_map] at this; omega
  refine awl_run' [] ?_
  simp -implicitDefEqProofs
  refine awl_cons rfl (opq_call rfl rfl rfl ((ikeysFI_ok k _).mono fun r τ ⟨e1, e2⟩ => ?_))
  subst e1 e2
  refine awl_run' [] ?_
  simp -implicitDefEqProofs
  refine awl_cons rfl (opq_call rfl rfl rfl ((acall_sortedN ikeysI_ok Tryd.underlying3 (k := m) (c := .map k) (ns := S) (by simp [ASt.addBx]) (.inl ⟨k, esK vi (ones S), rfl, by simp [ASt.addBx, k1, k2], by rw [esN_fst]; simp [ones]⟩) hS1 (fun s hs => wfI (by have := h.key s (gotK_mem.1 ((hS2 s).1 hs).live); omega)) (by omega)).mono fun r τ ⟨e1, e2⟩ => ?_))
  subst e1 e2
  have hlen : (rchL M on).length = S.length := by rw [← rchL_eq h.ndM hS1 hS2, sortI_len]
  rw [rchL_eq h.ndM hS1 hS2]
  refine awl_run' [] ?_
  simp -implicitDefEqProofs
  repeat' first | refine aw_M [] trivial trivial ?_ | refine aw_cond rfl (fun h => ?_) (fun h => ?_)
  have m0 : ¬ 0 = m := by omega
  refine ⟨by simp [tupOf, hlen, clo, clo1, clo0, ASt.addBx, ASt.addSl, List.take_of_length_le], by simp [ASt.noSl, ASt.addBx, ASt.addSl, upd, m0], by simp [ASt.noSl, ASt.addBx, ASt.addSl, upd], by simp [ASt.noSl, ASt.addBx, ASt.addSl, upd]⟩
def AsI (M : Nods) (N : Nms) (a c : Int) (S : List Int) (k m : Nat) (q : Nat) (fr : List AV) (σ : ASt) : Prop := ∃ (i : Nat) (e : AS) (D : List Int), i + q = (livL M).length ∧ D = ((livL M).take i).filter (fun x => !decide (x ∈ S)) ∧ e = (⟨M, N, c⟩ : AS).drops D ∧ σ = arM a (esK ndA e.M) (esT vi e.N) e.c k S [] m ∧ fr = frm 36 [(2, .vel [.ptr 0 0] 0 0), (4, vi 0), (5, vi 0), (6, .map k), (7, vi (D.length : Nat)), (19, .vsl ((livL M).map vi)), (20, vi ((livL M).length : Nat)), (21, vi (i : Nat))]
set_option maxHeartbeats 8000000 in
set_option maxRecDepth 100000 in
theorem asweepE_ok (M : Nods) (N : Nms) (a c : Int) (h : AI M N c) (on : List Int) (hon : on.length ≤ 1000000) (hb : on.any (badS M) = true) : AC Tryd.prog 19 [.vsl (on.map vi)] a (esK ndA M) (esT vi N) c (.tup [vi 0, vi 4]) (esK ndA M) (esT vi N) c := by
  have hkl := h.klen
  have hfs : clM (esT vi N) := cl_esT N
  refine ac_in Tryd.func19 Tryd.ntmps19 rfl ?_
  repeat' first | refine aw_N [] trivial trivial ?_ | refine aw_cond rfl (fun h => ?_) (fun h => ?_)
  have hi := icontS_ok M (esT vi N) hfs a c on (by omega)
  refine awl_cons rfl (opq_call rfl rfl rfl (hi.mono fun r τ ⟨e1, e2⟩ => ?_))
  subst e1
  refine AWL.less e2 ?_
  rw [hb]
  refine awl_run' [] ?_
  simp -implicitDefEqProofs
  repeat' first | refine aw_N [] trivial trivial ?_ | refine aw_cond rfl (fun h => ?_) (fun h => ?_)
  exact ⟨by simp [tupOf], by simp, by simp, by simp⟩
theorem filter_take {l : List Int} {p : Int → Bool} {i : Nat} {x : Int} (hx : l[i]? = some x) : (l.take (i + 1)).filter p = (l.take i).filter p ++ if p x = true then [x] else [] := by
  rw [List.take_add_one, hx, List.filter_append]
  simp [List.filter_cons]
theorem drops_snoc (s : AS) (l : List Int) (x : Int) : s.drops (l ++ [x]) = (s.drops l).drop x := by simp [AS.drops]
set_option maxHeartbeats 8000000 in
set_option maxRecDepth 100000 in
theorem asweep_ok (M : Nods) (N : Nms) (a c : Int) (h : AI M N c) (on : List Int) (hon : on.length ≤ 1000000) (hb : on.any (badS M) = false) (D : List Int) (hD : (livL M).filter (fun x => !decide (x ∈ rchL M on)) = D) (d : AS) (hd : (⟨M, N, c⟩ : AS).drops D = d) : AC Tryd.prog 19 [.vsl (on.map vi)] a (esK ndA M) (esT vi N) c (.tup [vi (D.length : Nat), vi 0]) (esK ndA d.M) (esT vi d.N) d.c := by
  have hkl := h.klen
  have hfs : clM (esT vi N) := cl_esT N
  refine ac_in Tryd.func19 Tryd.ntmps19 rfl ?_
  repeat' first | refine aw_N [] trivial trivial ?_ | refine aw_cond rfl (fun h => ?_) (fun h => ?_)
  have hi := icontS_ok M (esT vi N) hfs a c on (by omega)
  refine awl_cons rfl (opq_call rfl rfl rfl (hi.mono fun r τ ⟨e1, e2⟩ => ?_))
  subst e1
  refine AWL.less e2 ?_
  rw [hb]
  refine awl_run' [] ?_
  simp -implicitDefEqProofs
  repeat' first | refine aw_N [] trivial trivial ?_ | refine aw_cond rfl (fun h => ?_) (fun h => ?_)
  rw [show arS a (esK ndA M) (esT vi N) c = arG a (esK ndA M) (esT vi N) c [] [] 3 from rfl]
  refine awl_cons rfl (opq_call rfl rfl rfl ((areached_ok M N a c 3 (by omega) h on hon).mono fun r τ hq => ?_))
  obtain ⟨S, k, m, hk1, hk2, rfl, hS1, hS2, hle⟩ := hq
  refine AWL.less hle ?_
  have k1 : ¬ k = 1 := by omega
  have k2 : ¬ k = 2 := by omega
  have hmem : ∀ x, (x ∈ S) = (x ∈ rchL M on) := fun x => propext (by rw [hS2, mem_rchL])
  refine awl_run' [] ?_
  simp -implicitDefEqProofs
  repeat' first | refine aw_N [] trivial trivial ?_ | refine aw_cond rfl (fun h => ?_) (fun h => ?_)
  refine awl_ar [] rfl rfl rfl (by kernel_rfl) (aliveL_ok M N a c h) rfl (by simp) (by simp) (cl_esN _) (cl_esT _) (cl_esN _) (cl_esT _) (at_arM hk1 (by simp)) ?_
  simp -implicitDefEqProofs
  repeat' first | refine aw_N [] trivial trivial ?_ | refine aw_cond rfl (fun h => ?_) (fun h => ?_)
  have hLl := livL_len M
  refine aw_loopW [2, 4, 5, 6, 7, 19, 20, 21] (fun q fr σ => AsI M N a c S k m q fr σ) (livL M).length ?_ ?_
  · exact ⟨_, le_same _, 0, ⟨M, N, c⟩, [], by omega, by simp, by simp [AS.drops], rfl, by simp⟩
  · rintro q fr σ ⟨i, e, E, hi, hE, he, rfl, rfl⟩
    simp -implicitDefEqProofs
    have hlv : ((livL M).map vi).length = (livL M).length := List.length_map _
    have hEl : E.length ≤ i := by
      rw [hE]
      have := List.length_filter_le (fun x => !decide (x ∈ S)) ((livL M).take i)
      rw [List.length_take] at this; omega
    by_cases hlt : i < (livL M).length
    · have hlti : (i : Int) < (livL M).length := by omega
      obtain ⟨x, hx1⟩ : ∃ x, (livL M)[i] = x := ⟨_, rfl⟩
      have hxg : (livL M)[i]? = some x := by rw [List.getElem?_eq_getElem hlt, hx1]
      have wi : IntKind.i64.wrap ((i : Int) + 1) = (i : Int) + 1 := wrap_id (by omega) (by omega)
      have wn : IntKind.i64.wrap ((E.length : Int) + 1) = (E.length : Int) + 1 := wrap_id (by omega) (by omega)
      have hft := filter_take (p := fun x => !decide (x ∈ S)) hxg
      rw [← hE] at hft
      repeat' first | refine aw_N [] (And.intro @hlt (And.intro @hlti (And.intro @hx1 (And.intro @hxg @hlv)))) trivial ?_ | refine aw_cond rfl (fun h => ?_) (fun h => ?_)
      refine awl_lookI [] rfl rfl (b := k) (M := ones S) (n := x) rfl (by simp [k1, k2]) rfl ?_
      rw [gotO]
      by_cases hS : x ∈ S
      · simp -implicitDefEqProofs [hS]
        repeat' first | refine aw_N [] @wi trivial ?_ | refine aw_cond rfl (fun h => ?_) (fun h => ?_)
        rw [if_neg (by simp [hS]), List.append_nil] at hft
        exact ⟨q - 1, by omega, _, le_same _, i + 1, e, E, by omega, hft.symm, he, rfl, by simp⟩
      · simp -implicitDefEqProofs [hS]
        repeat' first | refine aw_N [] trivial trivial ?_ | refine aw_cond rfl (fun h => ?_) (fun h => ?_)
        have hea : AI e.M e.N e.c := by rw [he]; exact AS.drops_ai (s := ⟨M, N, c⟩) h
        have hxE : x ∉ E := by
          rw [hE]
          intro hm
          have hm := (List.mem_filter.1 hm).1
          obtain ⟨j, hj1⟩ := List.getElem?_of_mem hm
          rw [List.getElem?_take] at hj1
          split at hj1
          · rename_i hj
            have := List.pairwise_iff_getElem.1 (livL_lt h.ndM) j i (by omega) hlt hj
            rw [List.getElem?_eq_getElem (by omega)] at hj1
            rw [Option.some.inj hj1, hx1] at this
            omega
          · cases hj1
        have heg : gotK e.M x = gotK M x := by rw [he, AS.drops_got (s := ⟨M, N, c⟩) h, if_neg hxE]
        obtain ⟨y, hy⟩ : ∃ y, gotK M x = some y := by
          have := mem_livL.1 (List.mem_of_getElem? hxg)
          cases hq : gotK M x with
          | none => rw [hq] at this; cases this
          | some y => exact ⟨y, rfl⟩
        rw [hy] at heg
        have hyo := (hea.pos x y heg).2.2
        have hdr := adrop_ok e.M e.N a e.c x y heg hyo
        have htk : (⟨M, N, c⟩ : AS).drops (E ++ [x]) = ⟨delK e.M x, delT e.N (nmB y), min e.c x⟩ := by
          rw [drops_snoc, ← he]
          unfold AS.drop
          rw [heg]
        refine awl_ar [] rfl rfl rfl (by kernel_rfl) hdr rfl (by simp) (by simp) (cl_esN _) (cl_esT _) (cl_esN _) (cl_esT _) (at_arM hk1 (by simp)) ?_
        simp -implicitDefEqProofs
        repeat' first | refine aw_N [] (And.intro @wi @wn) trivial ?_ | refine aw_cond rfl (fun h => ?_) (fun h => ?_)
        rw [if_pos (by simp [hS])] at hft
        exact ⟨q - 1, by omega, _, le_same _, i + 1, _, E ++ [x], by omega, hft.symm, htk.symm, rfl, by simp⟩
    · have hlti : ¬ (i : Int) < (livL M).length := by omega
      rw [List.take_of_length_le (by omega)] at hE
      have hED : E = D := by
        rw [hE, ← hD]
        congr 1
        funext x
        simp [hmem x]
      subst hED
      rw [hd] at he
      subst he
      repeat' first | refine aw_N [] @hlti trivial ?_ | refine aw_cond rfl (fun h => ?_) (fun h => ?_)
      exact ⟨by simp [tupOf], by simp, by simp, by simp⟩
end Go.AL
/-! A slice of one's own, said more softly, or shorter. -/
namespace Go.AL
set_option linter.unusedVariables false
set_option linter.unusedSimpArgs false
variable {P : Program} {σ : ASt} {R : AV → ASt → Prop} {D : List Deferred} {Q : Exit → List AV → ASt → Prop} {fr : List AV} {ops : Array Oper} {o : Oper} {rest : List Oper}
/-- xs' says no more than xs. -/
structure SoftL (xs xs' : List AV) : Prop where
  len : xs'.length ≤ xs.length
  pos : 0 < xs'.length
  cell : ∀ (i : Nat) x x', xs[i]? = some x → xs'[i]? = some x' → x'.cells.length = x.cells.length ∧ ∀ (j : Nat) c c', x.cells[j]? = some c → x'.cells[j]? = some c' → ∀ G w v, Rep G w c v → Rep G w c' v
theorem SlOK.soft {G : Ghost} {w : World} {b : Nat} {xs xs' : List AV} (h : SlOK G w b xs) (hs : SoftL xs xs') : SlOK G w b xs' := by
  rcases h with ⟨_, rfl⟩ | ⟨β, o, s, cap, arr, el, h1, h2, h3, h4, h5, h6⟩
  · have h1 : xs'.length ≤ 0 := hs.len
    have h2 := hs.pos
    omega
  · have hl := hs.len
    have at_ : ∀ (i : Nat) x', xs'[i]? = some x' → ∃ x, xs[i]? = some x := fun i x' hx => by
      have := (List.getElem?_eq_some_iff.1 hx).1
      exact ⟨_, List.getElem?_eq_getElem (by omega)⟩
    refine .inr ⟨β, o, s, cap, arr, el, h1, h2, ⟨hs.pos, by omega⟩, h4, fun i x' hx => ?_, fun i j c' v hc hv => ?_⟩
    · obtain ⟨x, hx0⟩ := at_ i x' hx
      rw [(hs.cell i x x' hx0 hx).1]; exact h5 i x hx0
    · unfold rowCell at hc
      obtain ⟨x', hx, hcj⟩ := Option.bind_eq_some_iff.1 hc
      obtain ⟨x, hx0⟩ := at_ i x' hx
      obtain ⟨q1, q2⟩ := hs.cell i x x' hx0 hx
      have hj : j < x.cells.length := by rw [← q1]; exact (List.getElem?_eq_some_iff.1 hcj).1
      refine q2 j _ c' (List.getElem?_eq_getElem hj) hcj G w v (h6 i j _ v ?_ hv)
      unfold rowCell
      rw [hx0, Option.bind_some, List.getElem?_eq_getElem hj]
theorem SoftL.take {xs : List AV} {n : Nat} (h0 : 0 < n) (h1 : n ≤ xs.length) : SoftL xs (xs.take n) := by
  refine ⟨by simp; omega, by simp; omega, fun i x x' hx hx' => ?_⟩
  rw [List.getElem?_take] at hx'
  split at hx'
  · rw [hx] at hx'
    cases hx'
    exact ⟨rfl, fun j c c' hc hc' G w v hv => by rw [hc] at hc'; cases hc'; exact hv⟩
  · cases hx'
/-- nil is the empty list. -/
theorem rep_nil {G : Ghost} {w : World} {v : Value} (h : Rep G w (.p (.slice none 0 0)) v) : Rep G w (.vsl []) v := by
  cases h; exact .vnil none 0
end Go.AL
/-! The document's arena under change: contracts of free. -/
namespace Go.AL
open Go.Proofs
set_option linter.unusedSimpArgs false
set_option linter.unusedVariables false
/-- The document's arena, number 0, its nodes and marks, and some slices beside it. -/
def rcS (size : Int) (nds : List Nd) (is : List Bool) (k1 k2 : Nat) (bs ss : List (Nat × List AV)) (m : Nat) : ASt := ⟨fun i => if i = 0 then some [vi size, .hsl k1 0 nds.length, .hsl k2 0 is.length] else lkN bs i, fun _ => none, fun i => if i = k1 then some (nds.map ndA) else if i = k2 then some (is.map fun b => vb b) else lkN ss i, m⟩
section
variable (size : Int) (nds : List Nd) (is : List Bool) (k1 k2 : Nat) (bs ss : List (Nat × List AV)) (m i : Nat)
@[simp] theorem rcS_bx : (rcS size nds is k1 k2 bs ss m).bx i = if i = 0 then some [vi size, .hsl k1 0 nds.length, .hsl k2 0 is.length] else lkN bs i := rfl
@[simp] theorem rcS_mp : (rcS size nds is k1 k2 bs ss m).mp i = none := rfl
@[simp] theorem rcS_sl : (rcS size nds is k1 k2 bs ss m).sl i = if i = k1 then some (nds.map ndA) else if i = k2 then some (is.map fun b => vb b) else lkN ss i := rfl
@[simp] theorem rcS_next : (rcS size nds is k1 k2 bs ss m).next = m := rfl
end
structure RcN (k1 k2 m : Nat) (bs ss : List (Nat × List AV)) : Prop where
  l1 : 0 < k1 ∧ k1 < m
  l2 : 0 < k2 ∧ k2 < m
  n : k1 ≠ k2
  s : ∀ p ∈ ss, 0 < p.1 ∧ p.1 < m ∧ p.1 ≠ k1 ∧ p.1 ≠ k2
  nd : (ss.map Prod.fst).Nodup
  bl : ∀ p ∈ bs, 0 < p.1 ∧ p.1 < m
  bd : (bs.map Prod.fst).Nodup
/-- Where the first one is that is not live. -/
def freeR : List Bool → Nat → Option Nat
  | [], _ => none
  | b :: l, i => if b = true then freeR l (i + 1) else some i
end Go.AL
/-! Between two parts: what the ways ahead have in common. -/
namespace Go.AL
set_option linter.unusedVariables false
variable {P : Program} {σ : ASt} {D : List Deferred} {Q Q2 : Exit → List AV → ASt → Prop} {fr : List AV}
end Go.AL
/-! The document's arena under change: one node put. -/
namespace Go.AL
open Go.Proofs
set_option linter.unusedSimpArgs false
set_option linter.unusedVariables false
end Go.AL
/-! The document's arena against the program's: wrong, Get, Live. -/
namespace Go.AL
open Go.Proofs
set_option linter.unusedSimpArgs false
set_option linter.unusedVariables false
/-- The document's lists say what the program's map says. -/
structure Rel (M : Nods) (nds : List Nd) (is : List Bool) : Prop where
  len : nds.length = is.length
  pos : 1 ≤ is.length
  at_ : ∀ h : Nat, 1 ≤ h → gotK M h = if is[h]? = some true then nds[h]? else none
theorem Rel.got {M : Nods} {nds : List Nd} {is : List Bool} (hR : Rel M nds is) {h : Nat} (h1 : 1 ≤ h) (hi : is[h]? = some true) : ∃ x, nds[h]? = some x ∧ gotK M h = some x := by
  have h2 := (List.getElem?_eq_some_iff.1 hi).1
  have h3 := hR.len
  refine ⟨_, List.getElem?_eq_getElem (by omega), ?_⟩
  rw [hR.at_ h h1, if_pos hi, List.getElem?_eq_getElem (by omega)]
/-- The handles of marks. -/
def liveR : List Bool → Nat → List Int
  | [], _ => []
  | b :: l, i => if b = true then (i : Int) :: liveR l (i + 1) else liveR l (i + 1)
theorem liveR_mem : ∀ (l : List Bool) (i : Nat) (x : Int), x ∈ liveR l i ↔ ∃ j : Nat, l[j]? = some true ∧ x = (i + j : Nat)
  | [], i, x => by simp [liveR]
  | b :: l, i, x => by
    have ih := liveR_mem l (i + 1) x
    have key : (∃ j : Nat, (b :: l)[j]? = some true ∧ x = ((i + j : Nat) : Int)) ↔ (b = true ∧ x = (i : Int)) ∨ ∃ j : Nat, l[j]? = some true ∧ x = ((i + 1 + j : Nat) : Int) := by
      constructor
      · rintro ⟨j, h1, h2⟩
        cases j with
        | zero => simp at h1; exact .inl ⟨h1, by simpa using h2⟩
        | succ j => exact .inr ⟨j, by simpa using h1, by rw [h2]; congr 1; omega⟩
      · rintro (⟨h1, h2⟩ | ⟨j, h1, h2⟩)
        · exact ⟨0, by simp [h1], by simpa using h2⟩
        · exact ⟨j + 1, by simpa using h1, by rw [h2]; congr 1; omega⟩
    rw [key, liveR]
    cases b <;> simp [ih]
theorem liveR_lt : ∀ (l : List Bool) (i : Nat), (liveR l i).Pairwise (· < ·)
  | [], i => by simp [liveR]
  | b :: l, i => by
    have ih := liveR_lt l (i + 1)
    rw [liveR]
    split
    · refine List.pairwise_cons.2 ⟨fun x hx => ?_, ih⟩
      obtain ⟨j, _, rfl⟩ := (liveR_mem l (i + 1) x).1 hx
      omega
    · exact ih
theorem Rel.live {M : Nods} {N : Nms} {c : Int} {nds : List Nd} {is : List Bool} (hA : AI M N c) (hR : Rel M nds is) : liveR (is.drop 1) 1 = livL M := by
  refine rise_ext (liveR_lt _ _) (livL_lt hA.ndM) fun x => ?_
  rw [liveR_mem, mem_livL]
  constructor
  · rintro ⟨j, h1, rfl⟩
    rw [List.getElem?_drop] at h1
    obtain ⟨y, _, h2⟩ := hR.got (by omega) h1
    rw [h2]; rfl
  · intro h
    have h1 : 1 ≤ x := by
      cases hq : gotK M x with
      | none => rw [hq] at h; cases h
      | some y => exact (hA.pos x y hq).1
    obtain ⟨n, rfl⟩ : ∃ n : Nat, x = n := ⟨x.toNat, by omega⟩
    rw [hR.at_ n (by omega)] at h
    refine ⟨n - 1, ?_, by congr 1; omega⟩
    rw [List.getElem?_drop, show 1 + (n - 1) = n by omega]
    by_cases e : is[n]? = some true
    · exact e
    · rw [if_neg e] at h; cases h
end Go.AL
/-! The document's arena: Put. -/
namespace Go.AL
open Go.Proofs
set_option linter.unusedSimpArgs false
set_option linter.unusedVariables false
/-- The document's arena, and the handles of those ahead. -/
structure RS where
  nds : List Nd
  is : List Bool
  out : List Int
/-- One put; none: there is no room. -/
def RS.one (size : Int) (s : RS) (x : Nd) : Option RS :=
  if findR (resN s.out x) (s.nds.drop 1) (s.is.drop 1) 1 = 0 then
    match freeR (s.is.drop 1) 1 with
    | some h => some ⟨s.nds.set h (resN s.out x), s.is.set h true, s.out ++ [(h : Int)]⟩
    | none => if size < (s.is.length : Int) then none else some ⟨s.nds ++ [resN s.out x], s.is ++ [true], s.out ++ [(s.is.length : Int)]⟩
  else some { s with out := s.out ++ [findR (resN s.out x) (s.nds.drop 1) (s.is.drop 1) 1] }
theorem freeR_lt : ∀ (l : List Bool) (i h : Nat), freeR l i = some h → i ≤ h ∧ h < i + l.length ∧ l[h - i]? = some false
  | [], i, h, e => by cases e
  | b :: l, i, h, e => by
    rw [freeR] at e
    split at e
    · obtain ⟨h1, h2, h3⟩ := freeR_lt l (i + 1) h e
      refine ⟨by omega, by simp; omega, ?_⟩
      rw [show h - i = (h - (i + 1)) + 1 by omega, List.getElem?_cons_succ]; exact h3
    · rename_i hb
      cases e
      refine ⟨by omega, by simp, ?_⟩
      simp at hb
      simp [hb]
theorem findR_nn (x : Nd) : ∀ (nds : List Nd) (is : List Bool) (i : Nat), findR x nds is i = 0 ∨ ∃ h : Nat, i ≤ h ∧ h < i + is.length ∧ findR x nds is i = (h : Int)
  | [], is, i => .inl (by simp [findR])
  | y :: nds, [], i => .inl (by simp [findR])
  | y :: nds, b :: is, i => by
    rw [findR]
    split
    · exact .inr ⟨i, Nat.le_refl _, by simp, rfl⟩
    · rcases findR_nn x nds is (i + 1) with h | ⟨h, h1, h2, h3⟩
      · exact .inl h
      · exact .inr ⟨h, by omega, by simp; omega, h3⟩
/-- As it may be, behind n. -/
structure RSOk (n : Nat) (s : RS) : Prop where
  len : s.nds.length = s.is.length
  pos : 1 ≤ s.is.length
  lb : s.is.length ≤ 70000 + s.out.length
  nd : ∀ y ∈ s.nds, NdL y
  hs : ∀ h ∈ s.out, 0 ≤ h ∧ h ≤ 100000
  ol : s.out.length = n
theorem RSOk.one {n : Nat} {size : Int} {s s' : RS} {x : Nd} (h : RSOk n s) (hn : n ≤ 10000) (hx : NdOk x) (e : s.one size x = some s') : RSOk (n + 1) s' := by
  have h1 := h.len
  have h2 := h.pos
  have h3 := h.lb
  have h4 := h.ol
  have hy : NdL (resN s.out x) := ⟨by have := hx.rl; simp [resN]; omega, by have := hx.nl; simp [resN]; omega⟩
  unfold RS.one at e
  split at e
  · split at e
    · rename_i k hk
      obtain ⟨k1, k2, _⟩ := freeR_lt _ _ _ hk
      simp at k2
      cases e
      refine ⟨by simp [h1], by simp; exact h2, by simp; omega, fun y hy2 => ?_, fun k' hk' => ?_, by simp [h4]⟩
      · rcases List.mem_or_eq_of_mem_set hy2 with hy2 | rfl
        · exact h.nd y hy2
        · exact hy
      · rcases List.mem_append.1 hk' with hk' | hk'
        · exact h.hs k' hk'
        · obtain rfl := List.mem_singleton.1 hk'; omega
    · split at e
      · cases e
      · cases e
        refine ⟨by simp [h1], by simp, by simp; omega, fun y hy2 => ?_, fun k' hk' => ?_, by simp [h4]⟩
        · rcases List.mem_append.1 hy2 with hy2 | hy2
          · exact h.nd y hy2
          · obtain rfl := List.mem_singleton.1 hy2; exact hy
        · rcases List.mem_append.1 hk' with hk' | hk'
          · exact h.hs k' hk'
          · obtain rfl := List.mem_singleton.1 hk'; omega
  · rename_i hf
    cases e
    refine ⟨h1, h2, by simp; omega, h.nd, fun k' hk' => ?_, by simp [h4]⟩
    rcases List.mem_append.1 hk' with hk' | hk'
    · exact h.hs k' hk'
    · obtain rfl := List.mem_singleton.1 hk'
      rcases findR_nn (resN s.out x) (s.nds.drop 1) (s.is.drop 1) 1 with h5 | ⟨k, h5, h6, h7⟩
      · exact absurd h5 hf
      · rw [h7]; simp at h6; omega
def RS.puts (size : Int) : RS → List Nd → Option RS
  | s, [] => some s
  | s, x :: l => (s.one size x).bind fun s' => s'.puts size l
end Go.AL
/-! The document's arena: Reach. -/
namespace Go.AL
open Go.Proofs
set_option linter.unusedSimpArgs false
set_option linter.unusedVariables false
/-- What is referred to is live. -/
def Clo (M : Nods) : Prop := ∀ h x, gotK M h = some x → ∀ r ∈ x.refs, r ≤ 0 ∨ (gotK M r).isSome = true
/-- Marks that are reached. -/
structure RhJ (M : Nods) (on : List Int) (n : Nat) (inn : List Bool) : Prop where
  len : inn.length = n
  sound : ∀ h : Nat, inn[h]? = some true → Rch M on (h : Int)
  roots : ∀ r ∈ on, (gotK M r).isSome = true → inn[r.toNat]? = some true
theorem set_true {l : List Bool} {j k : Nat} (h : l[k]? = some true) : (l.set j true)[k]? = some true := by
  rw [List.getElem?_set]
  split
  · rename_i e; subst e; rw [if_pos (List.getElem?_eq_some_iff.1 h).1]
  · exact h
theorem RhJ.set {M : Nods} {on : List Int} {n : Nat} {inn : List Bool} (hJ : RhJ M on n inn) {j : Nat} (hr : Rch M on (j : Int)) : RhJ M on n (inn.set j true) := by
  refine ⟨by simp [hJ.len], fun h hh => ?_, fun r h1 h2 => set_true (hJ.roots r h1 h2)⟩
  rw [List.getElem?_set] at hh
  split at hh
  · rename_i e; subst e; exact hr
  · exact hJ.sound h hh
end Go.AL
/-! The document's arena: Sweep. -/
namespace Go.AL
open Go.Proofs
set_option linter.unusedSimpArgs false
set_option linter.unusedVariables false
end Go.AL
/-! The plain law: the program's arena and the document's, side by side. -/
namespace Go.AL
set_option linter.unusedSimpArgs false
set_option linter.unusedVariables false
theorem findR_at (x : Nd) : ∀ (nds : List Nd) (is : List Bool) (i h : Nat), 1 ≤ i → findR x nds is i = (h : Int) → 1 ≤ h → i ≤ h ∧ is[h - i]? = some true ∧ nds[h - i]? = some x
  | [], is, i, h, _, e, h1 => by simp [findR] at e; omega
  | y :: nds, [], i, h, _, e, h1 => by simp [findR] at e; omega
  | y :: nds, b :: is, i, h, hi, e, h1 => by
    rw [findR] at e
    split at e
    · rename_i hb
      have : i = h := by omega
      subst this
      simp [hb.1, hb.2]
    · obtain ⟨q1, q2, q3⟩ := findR_at x nds is (i + 1) h (by omega) e h1
      refine ⟨by omega, ?_, ?_⟩
      · rw [show h - i = (h - (i + 1)) + 1 by omega, List.getElem?_cons_succ]; exact q2
      · rw [show h - i = (h - (i + 1)) + 1 by omega, List.getElem?_cons_succ]; exact q3
theorem findR_no (x : Nd) : ∀ (nds : List Nd) (is : List Bool) (i : Nat), 1 ≤ i → findR x nds is i = 0 → ∀ j : Nat, is[j]? = some true → nds[j]? = some x → False
  | [], is, i, _, e, j, h1, h2 => by simp at h2
  | y :: nds, [], i, _, e, j, h1, h2 => by simp at h1
  | y :: nds, b :: is, i, hi, e, j, h1, h2 => by
    rw [findR] at e
    split at e
    · omega
    · rename_i hb
      cases j with
      | zero => simp at h1 h2; exact hb ⟨h1, h2⟩
      | succ j => exact findR_no x nds is (i + 1) (by omega) e j (by simpa using h1) (by simpa using h2)
theorem freeR_pre : ∀ (l : List Bool) (i h : Nat), freeR l i = some h → ∀ k, i ≤ k → k < h → l[k - i]? = some true
  | [], i, h, e, k, _, _ => by cases e
  | b :: l, i, h, e, k, h1, h2 => by
    rw [freeR] at e
    split at e
    · rename_i hb
      by_cases hk : k = i
      · subst hk; simp [hb]
      · rw [show k - i = (k - (i + 1)) + 1 by omega, List.getElem?_cons_succ]
        exact freeR_pre l (i + 1) h e k (by omega) h2
    · cases e; omega
theorem freeR_none : ∀ (l : List Bool) (i : Nat), freeR l i = none → ∀ j < l.length, l[j]? = some true
  | [], i, e, j, h => by simp at h
  | b :: l, i, e, j, h => by
    rw [freeR] at e
    split at e
    · rename_i hb
      cases j with
      | zero => simp [hb]
      | succ j => simpa using freeR_none l (i + 1) e j (by simpa using h)
    · cases e
theorem Rel.gotten {M : Nods} {nds : List Nd} {is : List Bool} (hR : Rel M nds is) {h : Nat} {x : Nd} (h1 : 1 ≤ h) (hg : gotK M h = some x) : is[h]? = some true ∧ nds[h]? = some x := by
  rw [hR.at_ h h1] at hg
  by_cases e : is[h]? = some true
  · rw [if_pos e] at hg; exact ⟨e, hg⟩
  · rw [if_neg e] at hg; cases hg
theorem find_eq {M : Nods} {N : Nms} {c : Int} {nds : List Nd} {is : List Bool} (hA : AI M N c) (hR : Rel M nds is) (y : Nd) : findR y (nds.drop 1) (is.drop 1) 1 = (gotT N (nmB y)).getD 0 := by
  have hl := hR.len
  cases hg : gotT N (nmB y) with
  | some h =>
    obtain ⟨x, e1, e2⟩ := hA.bwd _ _ hg
    obtain rfl := nmB_inj e2
    have h1 := (hA.pos h x e1).1
    obtain ⟨n, rfl⟩ : ∃ n : Nat, h = n := ⟨h.toNat, by omega⟩
    obtain ⟨q1, q2⟩ := hR.gotten (by omega) e1
    rcases findR_nn x (nds.drop 1) (is.drop 1) 1 with hf | ⟨k, k1, k2, hf⟩
    · refine (findR_no x _ _ 1 (by omega) hf (n - 1) ?_ ?_).elim
      · rw [List.getElem?_drop, show 1 + (n - 1) = n by omega]; exact q1
      · rw [List.getElem?_drop, show 1 + (n - 1) = n by omega]; exact q2
    · obtain ⟨_, p2, p3⟩ := findR_at x _ _ 1 k (by omega) hf k1
      rw [List.getElem?_drop, show 1 + (k - 1) = k by omega] at p2 p3
      have hk : gotK M (k : Int) = some x := by rw [hR.at_ k k1, if_pos p2]; exact p3
      have := hA.fwd _ _ hk
      rw [hg] at this
      rw [hf, Option.getD_some]; exact (Option.some.inj this).symm
  | none =>
    rcases findR_nn y (nds.drop 1) (is.drop 1) 1 with hf | ⟨k, k1, k2, hf⟩
    · exact hf
    · obtain ⟨_, p2, p3⟩ := findR_at y _ _ 1 k (by omega) hf k1
      rw [List.getElem?_drop, show 1 + (k - 1) = k by omega] at p2 p3
      have hk : gotK M (k : Int) = some y := by rw [hR.at_ k k1, if_pos p2]; exact p3
      have := hA.fwd _ _ hk
      rw [hg] at this; cases this
theorem free_some {M : Nods} {N : Nms} {c : Int} {nds : List Nd} {is : List Bool} (hA : AI M N c) (hR : Rel M nds is) {h : Nat} (hf : freeR (is.drop 1) 1 = some h) : hN M c = (h : Int) := by
  obtain ⟨q1, q2, q3⟩ := freeR_lt _ _ _ hf
  have q4 := freeR_pre _ _ _ hf
  obtain ⟨n1, n2, n3, n4⟩ := hA.next
  rw [List.getElem?_drop, show 1 + (h - 1) = h by omega] at q3
  have hh : gotK M (h : Int) = none := by rw [hR.at_ h q1, if_neg (by rw [q3]; simp)]
  by_cases h1 : hN M c < h
  · obtain ⟨n, hn⟩ : ∃ n : Nat, hN M c = n := ⟨(hN M c).toNat, by omega⟩
    have := q4 n (by omega) (by omega)
    rw [List.getElem?_drop, show 1 + (n - 1) = n by omega] at this
    obtain ⟨x, _, hx⟩ := hR.got (by omega) this
    rw [hn, hx] at n3; cases n3
  · by_cases h2 : (h : Int) < hN M c
    · have := n4 h (by omega) h2
      rw [hh] at this; cases this
    · omega
theorem free_none {M : Nods} {N : Nms} {c : Int} {nds : List Nd} {is : List Bool} (hA : AI M N c) (hR : Rel M nds is) (hf : freeR (is.drop 1) 1 = none) : hN M c = (is.length : Int) := by
  have q4 := freeR_none _ _ hf
  have hp := hR.pos
  obtain ⟨n1, n2, n3, n4⟩ := hA.next
  have hh : gotK M (is.length : Int) = none := by rw [hR.at_ is.length hp, if_neg (by simp)]
  by_cases h1 : hN M c < is.length
  · obtain ⟨n, hn⟩ : ∃ n : Nat, hN M c = n := ⟨(hN M c).toNat, by omega⟩
    have := q4 (n - 1) (by simp; omega)
    rw [List.getElem?_drop, show 1 + (n - 1) = n by omega] at this
    obtain ⟨x, _, hx⟩ := hR.got (by omega) this
    rw [hn, hx] at n3; cases n3
  · by_cases h2 : (is.length : Int) < hN M c
    · have := n4 is.length (by omega) h2
      rw [hh] at this; cases this
    · omega
/-- A batch in both, over M0. -/
structure LkA (size : Nat) (M0 : Nods) (s : PS) (t : RS) : Prop where
  pi : PI M0.length s
  rel : Rel s.M t.nds t.is
  out : t.out = s.hs
  lb : t.is.length ≤ size + 1
  keep : ∀ n, n ∉ s.gs → gotK s.M n = gotK M0 n
  new : ∀ n ∈ s.gs, gotK M0 n = none
  clo : Clo s.M
theorem LkA.one {size : Nat} {M0 : Nods} {s : PS} {t : RS} {x : Nd} (h : LkA size M0 s t) (hx : NdOk (resN s.hs x)) (hl : M0.length + s.hs.length < 100000) (hr : ∀ r ∈ x.refs, r ≤ 0 ∨ (gotK M0 r).isSome = true) (hr2 : ∀ r ∈ x.refs, -1 - r < s.hs.length) :
    match t.one size x with
    | some t' => LkA size M0 (s.put x) t'
    | none => size < (s.put x).M.length := by
  have hA := h.pi.ai
  have hf := find_eq hA h.rel (resN s.hs x)
  have hPI := (h.pi.put hx hl).1
  have hNx := hA.next
  have hln := h.rel.len
  have hps := h.rel.pos
  have live0 : ∀ n, (gotK M0 n).isSome = true → (gotK s.M n).isSome = true := fun n hn => by
    by_cases e : n ∈ s.gs
    · rw [h.new n e] at hn; cases hn
    · rw [h.keep n e]; exact hn
  have hrl : ∀ r ∈ (resN s.hs x).refs, r ≤ 0 ∨ (gotK s.M r).isSome = true := fun r hr0 => by
    obtain ⟨r0, hm, rfl⟩ := List.mem_map.1 hr0
    unfold resR
    split
    · rename_i hneg
      have := hr2 r0 hm
      have hlt : (-1 - r0).toNat < s.hs.length := by omega
      refine .inr (h.pi.hs _ ?_)
      rw [List.getD_eq_getElem?_getD, List.getElem?_eq_getElem hlt]
      exact List.getElem_mem hlt
    · exact (hr r0 hm).imp id (live0 r0)
  unfold RS.one
  rw [h.out, hf]
  cases hg : gotT s.N (nmB (resN s.hs x)) with
  | some k =>
    obtain ⟨y, e1, _⟩ := hA.bwd _ _ hg
    have hk := (hA.pos k y e1).1
    rw [Option.getD_some, if_neg (by omega)]
    have hp : s.put x = { s with hs := s.hs ++ [k] } := by unfold PS.put; rw [hg]
    rw [hp] at hPI ⊢
    exact ⟨hPI, h.rel, by simp, h.lb, h.keep, h.new, h.clo⟩
  | none =>
    rw [Option.getD_none, if_pos rfl]
    have hp : s.put x = ⟨putK s.M (hN s.M s.c) (resN s.hs x), putT s.N (nmB (resN s.hs x)) (hN s.M s.c), hN s.M s.c, s.hs ++ [hN s.M s.c], s.gs ++ [hN s.M s.c]⟩ := by unfold PS.put; rw [hg]
    rw [hp] at hPI ⊢
    obtain ⟨n1, n2, n3, n4⟩ := hNx
    have keep' : ∀ n, n ∉ s.gs ++ [hN s.M s.c] → gotK (putK s.M (hN s.M s.c) (resN s.hs x)) n = gotK M0 n := fun n hn => by
      simp only [List.mem_append, List.mem_singleton, not_or] at hn
      rw [gotK_put, if_neg (fun e => hn.2 e.symm)]
      exact h.keep n hn.1
    have new' : ∀ n ∈ s.gs ++ [hN s.M s.c], gotK M0 n = none := fun n hn => by
      rcases List.mem_append.1 hn with hn | hn
      · exact h.new n hn
      · obtain rfl := List.mem_singleton.1 hn
        by_cases e : hN s.M s.c ∈ s.gs
        · exact h.new _ e
        · rw [← h.keep _ e]; exact n3
    have liveP : ∀ n, (gotK s.M n).isSome = true → (gotK (putK s.M (hN s.M s.c) (resN s.hs x)) n).isSome = true := fun n hn => by
      rw [gotK_put]
      split
      · rfl
      · exact hn
    have clo' : Clo (putK s.M (hN s.M s.c) (resN s.hs x)) := fun k y hk r hr0 => by
      rw [gotK_put] at hk
      split at hk
      · cases hk
        exact (hrl r hr0).imp id (liveP r)
      · exact (h.clo k y hk r hr0).imp id (liveP r)
    cases hfr : freeR (t.is.drop 1) 1 with
    | some k =>
      have hk := free_some hA h.rel hfr
      obtain ⟨q1, q2, q3⟩ := freeR_lt _ _ _ hfr
      simp at q2
      rw [hk] at hPI keep' new' liveP clo' ⊢
      refine ⟨hPI, ⟨by simp [hln], by simp; exact hps, fun n hn => ?_⟩, rfl, by simp; exact h.lb, keep', new', clo'⟩
      rw [gotK_put, List.getElem?_set, List.getElem?_set]
      by_cases e : k = n
      · subst e
        simp [show k < t.is.length by omega, show k < t.nds.length by omega]
      · have e' : ¬ (k : Int) = (n : Int) := by omega
        rw [if_neg e', if_neg e, if_neg e, h.rel.at_ n hn]
    | none =>
      have hk := free_none hA h.rel hfr
      rw [hk] at hPI keep' new' liveP clo' n4 ⊢
      by_cases hsz : (size : Int) < (t.is.length : Int)
      · simp only [if_pos hsz]
        rw [putK_new (by rw [← hk]; exact n3)]
        have := run_le (M := s.M) (c := 1) (n := t.is.length - 1) fun i hi => n4 _ (by omega) (by omega)
        simp only [List.length_append, List.length_singleton]
        omega
      · simp only [if_neg hsz]
        refine ⟨hPI, ⟨by simp [hln], by simp, fun n hn => ?_⟩, rfl, by simp; omega, keep', new', clo'⟩
        rw [gotK_put]
        by_cases e : (t.is.length : Int) = (n : Int)
        · have e2 : n = t.is.length := by omega
          subst e2
          rw [if_pos rfl, ← hln]
          simp [hln]
        · rw [if_neg e, h.rel.at_ n hn, List.getElem?_append, List.getElem?_append]
          have e2 : n ≠ t.is.length := fun e3 => e (by rw [e3])
          by_cases e3 : n < t.is.length
          · have e4 : n < t.nds.length := by omega
            simp only [if_pos e3, if_pos e4]
          · have e4 : ¬ n < t.nds.length := by omega
            have e5 : t.is[n]? = none := List.getElem?_eq_none (by omega)
            have e6 : [true][n - t.is.length]? = none := List.getElem?_eq_none (by simp; omega)
            simp only [if_neg e3, if_neg e4, e5, e6]
            simp
end Go.AL
