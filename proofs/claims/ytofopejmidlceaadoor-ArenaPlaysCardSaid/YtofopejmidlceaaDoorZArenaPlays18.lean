/- Parts of the proof of ArenaPlays: the logic, contracts, plain laws. -/
import Derived.Test.YtofopejmidlceaaDoorZArenaPlays17
import Derived.Test.YtofopejmidlceaaDoorZArenaPlays15
/-! Contract: arena's reached. -/
namespace Go.AL
open Go.Proofs
set_option linter.unusedSimpArgs false
set_option linter.unusedVariables false
/-- What is reached from roots. -/
inductive Rch (M : Nods) (on : List Int) : Int → Prop
  | root (h : Int) : h ∈ on → (gotK M h).isSome = true → Rch M on h
  | step (h : Int) (x : Nd) (r : Int) : Rch M on h → gotK M h = some x → r ∈ x.refs → (gotK M r).isSome = true → Rch M on r
theorem Rch.live {M : Nods} {on : List Int} {h : Int} (hr : Rch M on h) : (gotK M h).isSome = true := by cases hr <;> assumption
def potU (M : Nods) (S : List Int) : Nat := (M.map fun p => if p.1 ∈ S then 0 else p.2.refs.length + 1).sum
theorem potU_mono (M : Nods) {S S' : List Int} (h : ∀ x ∈ S, x ∈ S') : potU M S' ≤ potU M S := by
  unfold potU
  induction M with
  | nil => simp
  | cons p M ih =>
    simp only [List.map_cons, List.sum_cons]
    by_cases h1 : p.1 ∈ S
    · simp [h1, h _ h1]; omega
    · by_cases h2 : p.1 ∈ S' <;> simp [h1, h2] <;> omega
theorem potU_new : ∀ (M : Nods) (S : List Int) (h : Int) (x : Nd), h ∉ S → gotK M h = some x → potU M (S ++ [h]) + x.refs.length + 1 ≤ potU M S
  | [], S, h, x, _, hg => by cases hg
  | (k, y) :: M, S, h, x, hS, hg => by
    rw [gotK] at hg
    by_cases e : k = h
    · subst e
      rw [if_pos rfl] at hg
      cases hg
      have := potU_mono M (S := S) (S' := S ++ [k]) fun x hx => List.mem_append_left _ hx
      have e1 : potU ((k, y) :: M) (S ++ [k]) = potU M (S ++ [k]) := by simp [potU]
      have e2 : potU ((k, y) :: M) S = y.refs.length + 1 + potU M S := by simp [potU, hS]
      omega
    · rw [if_neg e] at hg
      have ih := potU_new M S h x hS hg
      by_cases h1 : k ∈ S
      · have e1 : potU ((k, y) :: M) (S ++ [h]) = potU M (S ++ [h]) := by simp [potU, h1]
        have e2 : potU ((k, y) :: M) S = potU M S := by simp [potU, h1]
        omega
      · have e1 : potU ((k, y) :: M) (S ++ [h]) = y.refs.length + 1 + potU M (S ++ [h]) := by simp [potU, h1, e]
        have e2 : potU ((k, y) :: M) S = y.refs.length + 1 + potU M S := by simp [potU, h1]
        omega
theorem potU_le (M : Nods) (S : List Int) (b : Nat) (h : ∀ p ∈ M, p.2.refs.length + 1 ≤ b) : potU M S ≤ M.length * b := by
  unfold potU
  induction M with
  | nil => simp
  | cons p M ih =>
    have h1 := ih fun q hq => h q (List.mem_cons_of_mem _ hq)
    have h2 := h p List.mem_cons_self
    simp only [List.map_cons, List.sum_cons, List.length_cons, Nat.add_mul, Nat.one_mul]
    split <;> omega
theorem gotK_pair {M : Nods} (hn : (M.map Prod.fst).Nodup) {p : Int × Nd} (hp : p ∈ M) : gotK M p.1 = some p.2 := by
  induction M with
  | nil => cases hp
  | cons q M ih =>
    obtain ⟨h1, h2⟩ := List.nodup_cons.1 hn
    obtain ⟨a, x⟩ := q
    rw [gotK]
    rcases List.mem_cons.1 hp with rfl | hp
    · simp
    · have : a ≠ p.1 := fun e => h1 (List.mem_map.2 ⟨p, hp, e.symm⟩)
      rw [if_neg this]; exact ih h2 hp
def ones (S : List Int) : List (Int × Int) := S.map fun x => (x, (1 : Int))
theorem gotO (S : List Int) (x : Int) : gotK (ones S) x = if x ∈ S then some 1 else none := by
  unfold ones
  induction S with
  | nil => rfl
  | cons a S ih =>
    simp only [List.map_cons, gotK, ih, List.mem_cons]
    by_cases e : a = x
    · subst e; simp
    · have : ¬ x = a := fun h => e h.symm
      simp [e, this]
theorem putO {S : List Int} {x : Int} (h : x ∉ S) : putK (ones S) x 1 = ones (S ++ [x]) := by
  rw [putK_new (by rw [gotO, if_neg h])]
  simp [ones]
/-- An arena, what was seen, and some slices beside it. -/
def arM (a : Int) (es fs : List (AV × AV)) (c : Int) (k : Nat) (S : List Int) (ss : List (Nat × List AV)) (m : Nat) : ASt := ⟨fun i => if i = 0 then some [.p (.int .i64 a), .map 1, .map 2, .p (.int .i64 c)] else none, fun i => if i = 1 then some es else if i = 2 then some fs else if i = k then some (esK vi (ones S)) else none, fun i => lkN ss i, m⟩
section
variable (a : Int) (es fs : List (AV × AV)) (c : Int) (k : Nat) (S : List Int) (ss : List (Nat × List AV)) (m i : Nat)
@[simp] theorem arM_bx : (arM a es fs c k S ss m).bx i = if i = 0 then some [.p (.int .i64 a), .map 1, .map 2, .p (.int .i64 c)] else none := rfl
@[simp] theorem arM_mp : (arM a es fs c k S ss m).mp i = if i = 1 then some es else if i = 2 then some fs else if i = k then some (esK vi (ones S)) else none := rfl
@[simp] theorem arM_sl : (arM a es fs c k S ss m).sl i = lkN ss i := rfl
@[simp] theorem arM_next : (arM a es fs c k S ss m).next = m := rfl
end
theorem le_arM {a : Int} {es fs : List (AV × AV)} {c : Int} {k : Nat} {S : List Int} {ss : List (Nat × List AV)} {m : Nat} {σ : ASt} (h1 : σ.bx 0 = some [.p (.int .i64 a), .map 1, .map 2, .p (.int .i64 c)]) (h2 : σ.mp 1 = some es) (h3 : σ.mp 2 = some fs) (h4 : σ.mp k = some (esK vi (ones S))) (h5 : ∀ p ∈ ss, σ.sl p.1 = some p.2) (h6 : σ.next ≤ m) : (arM a es fs c k S ss m).Le σ where
  bx := fun i cs e => by
    simp only [arM_bx] at e
    split at e
    · rename_i hi; subst hi; rw [h1]; exact e
    · cases e
  mp := fun i cs e => by
    simp only [arM_mp] at e
    split at e
    · rename_i hi; subst hi; rw [h2]; exact e
    · split at e
      · rename_i hi; subst hi; rw [h3]; exact e
      · split at e
        · rename_i hi; subst hi; rw [h4]; exact e
        · cases e
  sl := fun i cs e => h5 _ (lkN_mem e)
  next := h6
theorem at_arM {a : Int} {es fs : List (AV × AV)} {c : Int} {k : Nat} {S : List Int} {ss : List (Nat × List AV)} {m : Nat} (hk : 2 < k) (h2 : ∀ p ∈ ss, 2 < p.1) : ArAt (arM a es fs c k S ss m) 0 1 2 a es fs c := by
  have s0 : lkN ss 0 = none := lkN_lo fun p hp => by have := h2 p hp; omega
  have s1 : lkN ss 1 = none := lkN_lo fun p hp => by have := h2 p hp; omega
  have s2 : lkN ss 2 = none := lkN_lo fun p hp => by have := h2 p hp; omega
  have k0 : ¬ 0 = k := by omega
  exact ⟨by simp, by simp, by simp, by omega, by omega, by omega, by simp [s0, k0], by simp [s1], by simp [s2]⟩
theorem arM_ar (a : Int) (es fs es' fs' : List (AV × AV)) (c c' : Int) (k : Nat) (S : List Int) (ss : List (Nat × List AV)) (m : Nat) : (arM a es fs c k S ss m).ar 0 1 2 a es' fs' c' = arM a es' fs' c' k S ss m := by
  unfold ASt.ar arM
  congr 1
  · funext i
    by_cases h : i = 0
    · subst h; simp [upd]
    · simp [upd, h]
  · funext i
    by_cases h2 : i = 2
    · subst h2; simp [upd]
    · by_cases h1 : i = 1
      · subst h1; simp [upd]
      · simp [upd, h1, h2]
attribute [simp] arM_ar
/-- Between two passes: seen, and to do. -/
structure RcJ (M : Nods) (on S todo : List Int) : Prop where
  nd : S.Nodup
  sound : ∀ x ∈ S, Rch M on x
  from_ : ∀ x ∈ todo, (gotK M x).isSome = true → Rch M on x
  roots : ∀ x ∈ on, (gotK M x).isSome = true → x ∈ S ∨ x ∈ todo
  whole : ∀ h ∈ S, ∀ x, gotK M h = some x → ∀ r ∈ x.refs, (gotK M r).isSome = true → r ∈ S ∨ r ∈ todo
theorem RcJ.start (M : Nods) (on : List Int) : RcJ M on [] on := ⟨by simp, by simp, fun x hx hl => .root x hx hl, fun x hx _ => .inr hx, by simp⟩
theorem RcJ.done {M : Nods} {on S : List Int} (h : RcJ M on S []) : ∀ x, x ∈ S ↔ Rch M on x := fun x => ⟨h.sound x, fun hr => by
  induction hr with
  | root k hk hl => exact (h.roots k hk hl).elim id fun h => by cases h
  | step k y r _ hg hr hl ih => exact (h.whole k ih y hg r hr hl).elim id fun h => by cases h⟩
theorem RcJ.old {M : Nods} {on S todo : List Int} {h : Int} (hJ : RcJ M on S (todo ++ [h])) (hs : gotK M h = none ∨ h ∈ S) : RcJ M on S todo := by
  have key : ∀ x, (gotK M x).isSome = true → x ∈ S ∨ x ∈ todo ++ [h] → x ∈ S ∨ x ∈ todo := fun x hl hx => by
    rcases hx with hx | hx
    · exact .inl hx
    · rcases List.mem_append.1 hx with hx | hx
      · exact .inr hx
      · obtain rfl := List.mem_singleton.1 hx
        rcases hs with hs | hs
        · rw [hs] at hl; cases hl
        · exact .inl hs
  exact ⟨hJ.nd, hJ.sound, fun x hx => hJ.from_ x (List.mem_append_left _ hx), fun x hx hl => key x hl (hJ.roots x hx hl), fun k hk x hg r hr hl => key r hl (hJ.whole k hk x hg r hr hl)⟩
theorem RcJ.new {M : Nods} {on S todo : List Int} {h : Int} {y : Nd} (hJ : RcJ M on S (todo ++ [h])) (hg : gotK M h = some y) (hs : h ∉ S) : RcJ M on (S ++ [h]) (todo ++ y.refs) := by
  have hR := hJ.from_ h (by simp) (by rw [hg]; rfl)
  have key : ∀ x, x ∈ S ∨ x ∈ todo ++ [h] → x ∈ S ++ [h] ∨ x ∈ todo ++ y.refs := fun x hx => by
    rcases hx with hx | hx
    · exact .inl (List.mem_append_left _ hx)
    · rcases List.mem_append.1 hx with hx | hx
      · exact .inr (List.mem_append_left _ hx)
      · exact .inl (List.mem_append_right _ hx)
  refine ⟨?_, fun x hx => ?_, fun x hx hl => ?_, fun x hx hl => key x (hJ.roots x hx hl), fun k hk x hx r hr hl => ?_⟩
  · rw [List.nodup_append]
    refine ⟨hJ.nd, by simp, fun a ha b hb => ?_⟩
    obtain rfl := List.mem_singleton.1 hb
    exact fun e => hs (e ▸ ha)
  · rcases List.mem_append.1 hx with hx | hx
    · exact hJ.sound x hx
    · obtain rfl := List.mem_singleton.1 hx; exact hR
  · rcases List.mem_append.1 hx with hx | hx
    · exact hJ.from_ x (List.mem_append_left _ hx) hl
    · exact .step h y x hR hg hx hl
  · rcases List.mem_append.1 hk with hk | hk
    · exact key r (hJ.whole k hk x hx r hr hl)
    · obtain rfl := List.mem_singleton.1 hk
      rw [hg] at hx
      cases hx
      exact .inr (List.mem_append_right _ hr)
theorem tmI : tmap Tryd.prog 80 = some (.int .i64, 3) := by kernel_rfl
section
variable {σ : ASt} {D : List Deferred} {Q : Exit → List AV → ASt → Prop} {fr : List AV} {ops : Array Oper} {o : Oper} {rest : List Oper}
theorem awl_lookI {m k : Operand} (mu : List Nat) (ho : o.op = .lookup 80 m k false) (hw : awanted ops o fr = some true) {b : Nat} {M : List (Int × Int)} {n : Int} (hm : aev fr m = .map b) (hb : σ.mp b = some (esK vi M)) (hk : aev fr k = vi n)
    (hk2 : Shut (ARun Tryd.prog D ops Q mu rest (aput fr o.dst (vi ((gotK M n).getD 0))) σ)) : AWL Tryd.prog D ops Q (o :: rest) fr σ := by
  refine awl_lookupW mu ho hw tmI hm hb hk (find_esK vi 0 .i64 n M 0) (x := vi ((gotK M n).getD 0)) (fun j y e => ?_) (fun e => ?_) hk2
  · obtain ⟨_, _, e⟩ := Option.map_eq_some_iff.1 e
    cases e; rfl
  · rw [ixK_none (Option.map_eq_none_iff.1 e)]; exact tz3
theorem awl_putI {m k x : Operand} (mu : List Nat) (ho : o.op = .mapUpdate 80 m k x) (hw : awanted ops o fr = some true) {b : Nat} {M : List (Int × Int)} {n v : Int} (hm : aev fr m = .map b) (hb : σ.mp b = some (esK vi M)) (hk : aev fr k = vi n) (hx : aev fr x = vi v)
    (hk2 : Shut (ARun Tryd.prog D ops Q mu rest (aput fr o.dst (.p undef)) { σ with mp := upd σ.mp b (some (esK vi (putK M n v))) })) : AWL Tryd.prog D ops Q (o :: rest) fr σ :=
  awl_mapPut mu (.inr ho) hw tmI hm hb hk (by rw [hx]; exact put_esK vi .i64 M n v) hk2
end
def RhI (M : Nods) (fs : List (AV × AV)) (a c : Int) (on : List Int) (bd : Nat) (q : Nat) (fr : List AV) (σ : ASt) : Prop := ∃ (S us : List Int) (n k ks m : Nat), n ≤ us.length ∧ us.length ≤ bd ∧ n + potU M S = q ∧ q ≤ bd ∧ 2 < k ∧ k < m ∧ 2 < ks ∧ ks < m ∧ RcJ M on S (us.take n) ∧ σ = arM a (esK ndA M) fs c k S [(ks, us.map vi)] m ∧ fr = frm 46 [(0, .ptr 0 0), (5, .map k), (6, .hsl ks 0 n)]
set_option maxHeartbeats 8000000 in
set_option maxRecDepth 100000 in
theorem areached_ok (M : Nods) (N : Nms) (a c : Int) (m0 : Nat) (hm0 : 2 < m0) (h : AI M N c) (on : List Int) (hon : on.length ≤ 1000000) : ACall Tryd.prog 35 [.ptr 0 0, .vsl (on.map vi)] (arG a (esK ndA M) (esT vi N) c [] [] m0) fun r τ => ∃ (S : List Int) (k m : Nat), 2 < k ∧ k < m ∧ r = .map k ∧ S.Nodup ∧ (∀ x, x ∈ S ↔ Rch M on x) ∧ (arM a (esK ndA M) (esT vi N) c k S [] m).Le τ := by
  have hfs : clM (esT vi N) := cl_esT N
  refine acall_of Tryd.func35 Tryd.ntmps35 rfl ?_
  simp only [List.length_cons, List.length_nil, List.cons_append, List.nil_append, List.replicate]
  obtain ⟨bd, hbd⟩ : ∃ bd, bd = 10001100000 := ⟨_, rfl⟩
  repeat' first | refine aw_N [] trivial trivial ?_ | refine aw_cond rfl (fun h => ?_) (fun h => ?_)
  refine aw_scope_loop 0 [0, 5, 6] (fun q fr σ => RhI M (esT vi N) a c on bd q fr σ) rfl ?_ fun enter => ?_
  · rintro q fr σ ⟨S, us, n, k, ks, m, hn, hub, hq, hqb, hk1, hk2, hs1, hs2, hJ, rfl, rfl⟩
    simp -implicitDefEqProofs
    by_cases h0 : n = 0
    · subst h0
      repeat' first | refine aw_N [] trivial trivial ?_ | refine aw_cond rfl (fun h => ?_) (fun h => ?_)
      exact ⟨S, k, hk1, m, hk2, rfl, hJ.nd, hJ.done, le_arM (by simp) (by simp) (by simp) (by simp [show ¬ k = 1 by omega, show ¬ k = 2 by omega]) (by simp) (by simp)⟩
    · obtain ⟨j, hj⟩ : ∃ j, n = j + 1 := ⟨n - 1, by omega⟩
      have hjl : j < us.length := by omega
      obtain ⟨t, ht⟩ : ∃ t, us[j] = t := ⟨_, rfl⟩
      have htg : us[j]? = some t := by rw [List.getElem?_eq_getElem hjl, ht]
      have h0i : ¬ (n : Int) = 0 := by omega
      have w1 : IntKind.i64.wrap ((n : Int) - 1) = (j : Int) := by rw [show (n : Int) - 1 = j by omega]; exact wrap_id (by omega) (by omega)
      have hjn : j < n := by omega
      have hjn' : j ≤ n := by omega
      have hjni : (j : Int) < n := by omega
      have hjni' : (j : Int) ≤ n := by omega
      have huv : (us.map vi).length = us.length := List.length_map _
      have k1 : ¬ k = 1 := by omega
      have k2 : ¬ k = 2 := by omega
      rw [hj, List.take_add_one, htg, Option.toList_some] at hJ
      have hh := ahas_ok M (esT vi N) a c t
      repeat' first | refine aw_N [] (And.intro @h0 (And.intro @h0i (And.intro @w1 (And.intro @hjl (And.intro @ht (And.intro @htg (And.intro @hjn (And.intro @hjn' (And.intro @hjni (And.intro @hjni' @huv)))))))))) trivial ?_ | refine aw_cond rfl (fun h => ?_) (fun h => ?_)
      refine awl_ar [] rfl rfl rfl (by kernel_rfl) hh rfl (by simp) (by simp) (cl_esN M) hfs (cl_esN M) hfs (at_arM hk1 (by simp; omega)) ?_
      cases hg : gotK M t with
      | none =>
        simp -implicitDefEqProofs
        repeat' first | refine aw_N [] trivial trivial ?_ | refine aw_cond rfl (fun h => ?_) (fun h => ?_)
        refine aw_goto ⟨rfl, j + potU M S, by omega, _, le_same _, S, us, j, k, ks, m, by omega, hub, rfl, by omega, hk1, hk2, hs1, hs2, hJ.old (.inl hg), rfl, by simp⟩
      | some y =>
        simp -implicitDefEqProofs
        refine awl_unopt 30 (c := .map k) rfl ?_
        refine awl_unopt 31 (c := vi t) rfl ?_
        simp -implicitDefEqProofs only [List.set]
        refine awl_lookI [] rfl rfl (b := k) (M := ones S) (n := t) rfl (by simp [k1, k2]) rfl ?_
        rw [gotO]
        by_cases hS : t ∈ S
        · simp -implicitDefEqProofs [hS]
          repeat' first | refine aw_N [] trivial trivial ?_ | refine aw_cond rfl (fun h => ?_) (fun h => ?_)
          refine aw_goto ⟨rfl, j + potU M S, by omega, _, le_same _, S, us, j, k, ks, m, by omega, hub, rfl, by omega, hk1, hk2, hs1, hs2, hJ.old (.inr hS), rfl, by simp⟩
        · simp -implicitDefEqProofs [hS]
          repeat' first | refine aw_N [] trivial trivial ?_ | refine aw_cond rfl (fun h => ?_) (fun h => ?_)
          refine awl_putI [] rfl rfl (b := k) (M := ones S) (n := t) (v := 1) rfl (by simp [k1, k2]) rfl rfl ?_
          rw [putO hS]
          simp -implicitDefEqProofs
          refine aw_weak (τ := arM a (esK ndA M) (esT vi N) c k (S ++ [t]) [(ks, us.map vi)] m) (le_arM (by simp) (by simp [upd, Ne.symm k1]) (by simp [upd, Ne.symm k2]) (by simp) (by simp) (by simp)) ?_
          repeat' first | refine aw_N [] trivial trivial ?_ | refine aw_cond rfl (fun h => ?_) (fun h => ?_)
          refine awl_lookupW [] rfl rfl tmN rfl (es := esK ndA M) (by simp) rfl (find_esK ndA ndZ .i64 t M 0) (x := ngot (gotK M t)) (ngot_some M t ndZ) (ngot_none tz40 M t ndZ) ?_
          rw [hg]
          simp -implicitDefEqProofs [show ngot (some y) = .agg [vi y.k, .vsl (y.refs.map vi), .vsl (y.nums.map vi), vs y.text] from rfl]
          repeat' first | refine aw_N [] trivial trivial ?_ | refine aw_cond rfl (fun h => ?_) (fun h => ?_)
          have hyo := (h.pos t y hg).2.2.rl
          have hpn := potU_new M S t y hS hg
          have hJn := hJ.new hg hS
          by_cases hy0 : y.refs = []
          · rw [hy0]
            simp -implicitDefEqProofs
            refine awl_append0 [] (b := ks) (off := 0) (k := j) rfl rfl rfl (.inl rfl) tet33 ts3 ?_
            simp -implicitDefEqProofs
            repeat' first | refine aw_N [] trivial trivial ?_ | refine aw_cond rfl (fun h => ?_) (fun h => ?_)
            rw [hy0, List.append_nil] at hJn
            refine aw_goto ⟨rfl, j + potU M (S ++ [t]), by omega, _, le_same _, S ++ [t], us, j, k, ks, m, by omega, hub, rfl, by omega, hk1, hk2, hs1, hs2, hJn, rfl, by simp⟩
          · refine awl_append [] rfl rfl rfl (b := ks) (xs := us.map vi) (by simp) (by simp; omega) rfl (by simp [hy0]) te33 tet33 tz3 rfl (fun y hy => by obtain ⟨_, _, rfl⟩ := List.mem_map.1 hy; rfl) (by simp) (by simp; omega) (by simp; omega) ?_
            simp -implicitDefEqProofs
            repeat' first | refine aw_N [] trivial trivial ?_ | refine aw_cond rfl (fun h => ?_) (fun h => ?_)
            have m1 : ¬ m = 1 := by omega
            have m2 : ¬ m = 2 := by omega
            refine aw_goto ⟨rfl, j + y.refs.length + potU M (S ++ [t]), by omega, arM a (esK ndA M) (esT vi N) c k (S ++ [t]) [(m, (us.take j ++ y.refs).map vi)] (m + 1), le_arM (by simp) (by simp) (by simp) (by simp [k1, k2]) (by simp) (by simp), S ++ [t], us.take j ++ y.refs, j + y.refs.length, k, m, m + 1, by simp; omega, by simp; omega, rfl, by omega, hk1, by omega, by omega, by omega, ?_, rfl, by simp⟩
            rw [List.take_of_length_le (by simp; omega)]; exact hJn
  · repeat' first | refine aw_N [] trivial trivial ?_ | refine aw_cond rfl (fun h => ?_) (fun h => ?_)
    refine awl_makeMap [] rfl rfl ?_
    simp -implicitDefEqProofs
    refine awl_cons rfl (opq_call rfl rfl rfl ((iclone_ok (σ := (arG a (esK ndA M) (esT vi N) c [] [] m0).addMp []) on (by omega)).mono fun r τ h => ?_))
    obtain ⟨ks, m, h1, h2, rfl, rfl⟩ := h
    simp [ASt.addMp] at h1
    refine awl_run' [] ?_
    simp -implicitDefEqProofs
    repeat' first | refine aw_N [] trivial trivial ?_ | refine aw_cond rfl (fun h => ?_) (fun h => ?_)
    refine aw_label ?_
    have hp := potU_le M [] 100001 fun p hp => by
      have h3 := gotK_mem.2 (List.mem_map_of_mem (f := Prod.fst) hp)
      have h4 : gotK M p.1 = some p.2 := gotK_pair h.ndM hp
      have := (h.pos p.1 p.2 h4).2.2.rl
      omega
    have hkl := h.klen
    have hp2 : M.length * 100001 ≤ 100000 * 100001 := Nat.mul_le_mul_right _ hkl
    refine enter (on.length + potU M []) _ _ ⟨arM a (esK ndA M) (esT vi N) c m0 [] [(ks, on.map vi)] m, le_arM (by simp [ASt.withSl, ASt.addMp]) (by simp [ASt.withSl, ASt.addMp, upd, show ¬ 1 = m0 by omega]) (by simp [ASt.withSl, ASt.addMp, upd, show ¬ 2 = m0 by omega]) (by simp [ASt.withSl, ASt.addMp, ones, esK]) (by simp [ASt.withSl, ASt.addMp]) (by simp [ASt.withSl, ASt.addMp]), [], on, on.length, m0, ks, m, by omega, by omega, rfl, by omega, hm0, by omega, by omega, by omega, ?_, rfl, by simp⟩
    rw [List.take_of_length_le (by omega)]
    exact RcJ.start M on
end Go.AL
/-! Contracts: arena's Reach, Sweep. -/
namespace Go.AL
open Go.Proofs
set_option linter.unusedSimpArgs false
set_option linter.unusedVariables false
open Classical in
/-- The handles that are reached. -/
noncomputable def rchL (M : Nods) (on : List Int) : List Int := (livL M).filter fun x => decide (Rch M on x)
theorem mem_livL {M : Nods} {x : Int} : x ∈ livL M ↔ (gotK M x).isSome = true := by rw [livL, sortI_mem, gotK_mem]
theorem livL_lt {M : Nods} (h : (M.map Prod.fst).Nodup) : (livL M).Pairwise (· < ·) := sortI_lt h
open Classical in
theorem mem_rchL {M : Nods} {on : List Int} {x : Int} : x ∈ rchL M on ↔ Rch M on x := by
  unfold rchL
  rw [List.mem_filter, mem_livL, decide_eq_true_eq]
  exact ⟨fun h => h.2, fun h => ⟨h.live, h⟩⟩
open Classical in
theorem rchL_lt {M : Nods} (h : (M.map Prod.fst).Nodup) (on : List Int) : (rchL M on).Pairwise (· < ·) := (livL_lt h).filter _
theorem rchL_eq {M : Nods} (h : (M.map Prod.fst).Nodup) {on S : List Int} (hn : S.Nodup) (hS : ∀ x, x ∈ S ↔ Rch M on x) : sortI S = rchL M on :=
  rise_ext (sortI_lt hn) (rchL_lt h on) fun x => by rw [sortI_mem, hS, mem_rchL]
set_option maxHeartbeats 8000000 in
set_option maxRecDepth 100000 in
theorem areachN_ok (on : AV) : APure Tryd.prog 20 [.p (.pointer none), on] (.p (.slice none 0 0)) := by
  refine apure_in Tryd.func20 Tryd.ntmps20 rfl ?_
  repeat' first | refine aw_N [] trivial trivial ?_ | refine aw_cond rfl (fun h => ?_) (fun h => ?_)
  all_goals first | rfl | (simp [tupOf]; done) | trace_state
set_option maxHeartbeats 8000000 in
set_option maxRecDepth 100000 in
theorem areach_ok (M : Nods) (N : Nms) (a c : Int) (h : AI M N c) (on : List Int) (hon : on.length ≤ 1000000) : AC Tryd.prog 20 [.vsl (on.map vi)] a (esK ndA M) (esT vi N) c (.vsl ((rchL M on).map vi)) (esK ndA M) (esT vi N) c := by
  have hkl := h.klen
  refine ac_in Tryd.func20 Tryd.ntmps20 rfl ?_
  rw [show arS a (esK ndA M) (esT vi N) c = arG a (esK ndA M) (esT vi N) c [] [] 3 from rfl]
  repeat' first | refine aw_N [] trivial trivial ?_ | refine aw_cond rfl (fun h => ?_) (fun h => ?_)
  refine awl_cons rfl (opq_call rfl rfl rfl ((areached_ok M N a c 3 (by omega) h on hon).mono fun r τ hq => ?_))
  obtain ⟨S, k, m, hk1, hk2, rfl, hS1, hS2, hle⟩ := hq
  refine AWL.less hle ?_
  have k1 : ¬ k = 1 := by omega
  have k2 : ¬ k = 2 := by omega
  have hSl : S.length ≤ 100000 := by
    have := sub_len S (M.map Prod.fst) hS1 fun x hx => gotK_mem.1 ((hS2 x).1 hx).live
    rw [List.length_map] at this; omega
  refine awl_run' [] ?_
  simp -implicitDefEqProofs
  refine awl_cons rfl (opq_call rfl rfl rfl ((ikeysFI_ok k _).mono fun r τ ⟨e1, e2⟩ => ?_))
  subst e1 e2
  refine awl_run' [] ?_
  simp -implicitDefEqProofs
  refine awl_cons rfl (opq_call rfl rfl rfl ((acall_sortedN ikeysI_ok Tryd.underlying3 (k := m) (c := .map k) (ns := S) (by simp [ASt.addBx]) (.inl ⟨k, esK vi (ones S), rfl, by simp [ASt.addBx, k1, k2], by rw [esN_fst]; simp [ones]⟩) hS1 (fun s hs => wfI (by have := h.key s (gotK_mem.1 ((hS2 s).1 hs).live); omega)) (by omega)).mono fun r τ ⟨e1, e2⟩ => ?_))
  subst e1 e2
  have hlen : (rchL M on).length = S.length := by rw [← rchL_eq h.ndM hS1 hS2, sortI_len]
  rw [rchL_eq h.ndM hS1 hS2]
  refine awl_run' [] ?_
  simp -implicitDefEqProofs
  repeat' first | refine aw_M [] trivial trivial ?_ | refine aw_cond rfl (fun h => ?_) (fun h => ?_)
  have m0 : ¬ 0 = m := by omega
  refine ⟨by simp [tupOf, hlen, clo, clo1, clo0, ASt.addBx, ASt.addSl, List.take_of_length_le], by simp [ASt.noSl, ASt.addBx, ASt.addSl, upd, m0], by simp [ASt.noSl, ASt.addBx, ASt.addSl, upd], by simp [ASt.noSl, ASt.addBx, ASt.addSl, upd]⟩
set_option maxHeartbeats 8000000 in
set_option maxRecDepth 100000 in
theorem asweepN_ok (on : AV) : APure Tryd.prog 19 [.p (.pointer none), on] (.tup [vi 0, vi 1]) := by
  refine apure_in Tryd.func19 Tryd.ntmps19 rfl ?_
  repeat' first | refine aw_N [] trivial trivial ?_ | refine aw_cond rfl (fun h => ?_) (fun h => ?_)
  all_goals first | rfl | (simp [tupOf]; done) | trace_state
def AsI (M : Nods) (N : Nms) (a c : Int) (S : List Int) (k m : Nat) (q : Nat) (fr : List AV) (σ : ASt) : Prop := ∃ (i : Nat) (e : AS) (D : List Int), i + q = (livL M).length ∧ D = ((livL M).take i).filter (fun x => !decide (x ∈ S)) ∧ e = (⟨M, N, c⟩ : AS).drops D ∧ σ = arM a (esK ndA e.M) (esT vi e.N) e.c k S [] m ∧ fr = frm 36 [(2, .vel [.ptr 0 0] 0 0), (4, vi 0), (5, vi 0), (6, .map k), (7, vi (D.length : Nat)), (19, .vsl ((livL M).map vi)), (20, vi ((livL M).length : Nat)), (21, vi (i : Nat))]
set_option maxHeartbeats 8000000 in
set_option maxRecDepth 100000 in
theorem asweepE_ok (M : Nods) (N : Nms) (a c : Int) (h : AI M N c) (on : List Int) (hon : on.length ≤ 1000000) (hb : on.any (badS M) = true) : AC Tryd.prog 19 [.vsl (on.map vi)] a (esK ndA M) (esT vi N) c (.tup [vi 0, vi 4]) (esK ndA M) (esT vi N) c := by
  have hkl := h.klen
  have hfs : clM (esT vi N) := cl_esT N
  refine ac_in Tryd.func19 Tryd.ntmps19 rfl ?_
  repeat' first | refine aw_N [] trivial trivial ?_ | refine aw_cond rfl (fun h => ?_) (fun h => ?_)
  have hi := icontS_ok M (esT vi N) hfs a c on (by omega)
  refine awl_cons rfl (opq_call rfl rfl rfl (hi.mono fun r τ ⟨e1, e2⟩ => ?_))
  subst e1
  refine AWL.less e2 ?_
  rw [hb]
  refine awl_run' [] ?_
  simp -implicitDefEqProofs
  repeat' first | refine aw_N [] trivial trivial ?_ | refine aw_cond rfl (fun h => ?_) (fun h => ?_)
  exact ⟨by simp [tupOf], by simp, by simp, by simp⟩
theorem filter_take {l : List Int} {p : Int → Bool} {i : Nat} {x : Int} (hx : l[i]? = some x) : (l.take (i + 1)).filter p = (l.take i).filter p ++ if p x = true then [x] else [] := by
  rw [List.take_add_one, hx, List.filter_append]
  simp [List.filter_cons]
theorem drops_snoc (s : AS) (l : List Int) (x : Int) : s.drops (l ++ [x]) = (s.drops l).drop x := by simp [AS.drops]
set_option maxHeartbeats 8000000 in
set_option maxRecDepth 100000 in
theorem asweep_ok (M : Nods) (N : Nms) (a c : Int) (h : AI M N c) (on : List Int) (hon : on.length ≤ 1000000) (hb : on.any (badS M) = false) (D : List Int) (hD : (livL M).filter (fun x => !decide (x ∈ rchL M on)) = D) (d : AS) (hd : (⟨M, N, c⟩ : AS).drops D = d) : AC Tryd.prog 19 [.vsl (on.map vi)] a (esK ndA M) (esT vi N) c (.tup [vi (D.length : Nat), vi 0]) (esK ndA d.M) (esT vi d.N) d.c := by
  have hkl := h.klen
  have hfs : clM (esT vi N) := cl_esT N
  refine ac_in Tryd.func19 Tryd.ntmps19 rfl ?_
  repeat' first | refine aw_N [] trivial trivial ?_ | refine aw_cond rfl (fun h => ?_) (fun h => ?_)
  have hi := icontS_ok M (esT vi N) hfs a c on (by omega)
  refine awl_cons rfl (opq_call rfl rfl rfl (hi.mono fun r τ ⟨e1, e2⟩ => ?_))
  subst e1
  refine AWL.less e2 ?_
  rw [hb]
  refine awl_run' [] ?_
  simp -implicitDefEqProofs
  repeat' first | refine aw_N [] trivial trivial ?_ | refine aw_cond rfl (fun h => ?_) (fun h => ?_)
  rw [show arS a (esK ndA M) (esT vi N) c = arG a (esK ndA M) (esT vi N) c [] [] 3 from rfl]
  refine awl_cons rfl (opq_call rfl rfl rfl ((areached_ok M N a c 3 (by omega) h on hon).mono fun r τ hq => ?_))
  obtain ⟨S, k, m, hk1, hk2, rfl, hS1, hS2, hle⟩ := hq
  refine AWL.less hle ?_
  have k1 : ¬ k = 1 := by omega
  have k2 : ¬ k = 2 := by omega
  have hmem : ∀ x, (x ∈ S) = (x ∈ rchL M on) := fun x => propext (by rw [hS2, mem_rchL])
  refine awl_run' [] ?_
  simp -implicitDefEqProofs
  repeat' first | refine aw_N [] trivial trivial ?_ | refine aw_cond rfl (fun h => ?_) (fun h => ?_)
  refine awl_ar [] rfl rfl rfl (by kernel_rfl) (aliveL_ok M N a c h) rfl (by simp) (by simp) (cl_esN _) (cl_esT _) (cl_esN _) (cl_esT _) (at_arM hk1 (by simp)) ?_
  simp -implicitDefEqProofs
  repeat' first | refine aw_N [] trivial trivial ?_ | refine aw_cond rfl (fun h => ?_) (fun h => ?_)
  have hLl := livL_len M
  refine aw_loopW [2, 4, 5, 6, 7, 19, 20, 21] (fun q fr σ => AsI M N a c S k m q fr σ) (livL M).length ?_ ?_
  · exact ⟨_, le_same _, 0, ⟨M, N, c⟩, [], by omega, by simp, by simp [AS.drops], rfl, by simp⟩
  · rintro q fr σ ⟨i, e, E, hi, hE, he, rfl, rfl⟩
    simp -implicitDefEqProofs
    have hlv : ((livL M).map vi).length = (livL M).length := List.length_map _
    have hEl : E.length ≤ i := by
      rw [hE]
      have := List.length_filter_le (fun x => !decide (x ∈ S)) ((livL M).take i)
      rw [List.length_take] at this; omega
    by_cases hlt : i < (livL M).length
    · have hlti : (i : Int) < (livL M).length := by omega
      obtain ⟨x, hx1⟩ : ∃ x, (livL M)[i] = x := ⟨_, rfl⟩
      have hxg : (livL M)[i]? = some x := by rw [List.getElem?_eq_getElem hlt, hx1]
      have wi : IntKind.i64.wrap ((i : Int) + 1) = (i : Int) + 1 := wrap_id (by omega) (by omega)
      have wn : IntKind.i64.wrap ((E.length : Int) + 1) = (E.length : Int) + 1 := wrap_id (by omega) (by omega)
      have hft := filter_take (p := fun x => !decide (x ∈ S)) hxg
      rw [← hE] at hft
      repeat' first | refine aw_N [] (And.intro @hlt (And.intro @hlti (And.intro @hx1 (And.intro @hxg @hlv)))) trivial ?_ | refine aw_cond rfl (fun h => ?_) (fun h => ?_)
      refine awl_lookI [] rfl rfl (b := k) (M := ones S) (n := x) rfl (by simp [k1, k2]) rfl ?_
      rw [gotO]
      by_cases hS : x ∈ S
      · simp -implicitDefEqProofs [hS]
        repeat' first | refine aw_N [] @wi trivial ?_ | refine aw_cond rfl (fun h => ?_) (fun h => ?_)
        rw [if_neg (by simp [hS]), List.append_nil] at hft
        exact ⟨q - 1, by omega, _, le_same _, i + 1, e, E, by omega, hft.symm, he, rfl, by simp⟩
      · simp -implicitDefEqProofs [hS]
        repeat' first | refine aw_N [] trivial trivial ?_ | refine aw_cond rfl (fun h => ?_) (fun h => ?_)
        have hea : AI e.M e.N e.c := by rw [he]; exact AS.drops_ai (s := ⟨M, N, c⟩) h
        have hxE : x ∉ E := by
          rw [hE]
          intro hm
          have hm := (List.mem_filter.1 hm).1
          obtain ⟨j, hj1⟩ := List.getElem?_of_mem hm
          rw [List.getElem?_take] at hj1
          split at hj1
          · rename_i hj
            have := List.pairwise_iff_getElem.1 (livL_lt h.ndM) j i (by omega) hlt hj
            rw [List.getElem?_eq_getElem (by omega)] at hj1
            rw [Option.some.inj hj1, hx1] at this
            omega
          · cases hj1
        have heg : gotK e.M x = gotK M x := by rw [he, AS.drops_got (s := ⟨M, N, c⟩) h, if_neg hxE]
        obtain ⟨y, hy⟩ : ∃ y, gotK M x = some y := by
          have := mem_livL.1 (List.mem_of_getElem? hxg)
          cases hq : gotK M x with
          | none => rw [hq] at this; cases this
          | some y => exact ⟨y, rfl⟩
        rw [hy] at heg
        have hyo := (hea.pos x y heg).2.2
        have hdr := adrop_ok e.M e.N a e.c x y heg hyo
        have htk : (⟨M, N, c⟩ : AS).drops (E ++ [x]) = ⟨delK e.M x, delT e.N (nmB y), min e.c x⟩ := by
          rw [drops_snoc, ← he]
          unfold AS.drop
          rw [heg]
        refine awl_ar [] rfl rfl rfl (by kernel_rfl) hdr rfl (by simp) (by simp) (cl_esN _) (cl_esT _) (cl_esN _) (cl_esT _) (at_arM hk1 (by simp)) ?_
        simp -implicitDefEqProofs
        repeat' first | refine aw_N [] (And.intro @wi @wn) trivial ?_ | refine aw_cond rfl (fun h => ?_) (fun h => ?_)
        rw [if_pos (by simp [hS])] at hft
        exact ⟨q - 1, by omega, _, le_same _, i + 1, _, E ++ [x], by omega, hft.symm, htk.symm, rfl, by simp⟩
    · have hlti : ¬ (i : Int) < (livL M).length := by omega
      rw [List.take_of_length_le (by omega)] at hE
      have hED : E = D := by
        rw [hE, ← hD]
        congr 1
        funext x
        simp [hmem x]
      subst hED
      rw [hd] at he
      subst he
      repeat' first | refine aw_N [] @hlti trivial ?_ | refine aw_cond rfl (fun h => ?_) (fun h => ?_)
      exact ⟨by simp [tupOf], by simp, by simp, by simp⟩
end Go.AL
/-! A slice of one's own, said more softly, or shorter. -/
namespace Go.AL
set_option linter.unusedVariables false
set_option linter.unusedSimpArgs false
variable {P : Program} {σ : ASt} {R : AV → ASt → Prop} {D : List Deferred} {Q : Exit → List AV → ASt → Prop} {fr : List AV} {ops : Array Oper} {o : Oper} {rest : List Oper}
/-- xs' says no more than xs. -/
structure SoftL (xs xs' : List AV) : Prop where
  len : xs'.length ≤ xs.length
  pos : 0 < xs'.length
  cell : ∀ (i : Nat) x x', xs[i]? = some x → xs'[i]? = some x' → x'.cells.length = x.cells.length ∧ ∀ (j : Nat) c c', x.cells[j]? = some c → x'.cells[j]? = some c' → ∀ G w v, Rep G w c v → Rep G w c' v
theorem SlOK.soft {G : Ghost} {w : World} {b : Nat} {xs xs' : List AV} (h : SlOK G w b xs) (hs : SoftL xs xs') : SlOK G w b xs' := by
  rcases h with ⟨_, rfl⟩ | ⟨β, o, s, cap, arr, el, h1, h2, h3, h4, h5, h6⟩
  · have h1 : xs'.length ≤ 0 := hs.len
    have h2 := hs.pos
    omega
  · have hl := hs.len
    have at_ : ∀ (i : Nat) x', xs'[i]? = some x' → ∃ x, xs[i]? = some x := fun i x' hx => by
      have := (List.getElem?_eq_some_iff.1 hx).1
      exact ⟨_, List.getElem?_eq_getElem (by omega)⟩
    refine .inr ⟨β, o, s, cap, arr, el, h1, h2, ⟨hs.pos, by omega⟩, h4, fun i x' hx => ?_, fun i j c' v hc hv => ?_⟩
    · obtain ⟨x, hx0⟩ := at_ i x' hx
      rw [(hs.cell i x x' hx0 hx).1]; exact h5 i x hx0
    · unfold rowCell at hc
      obtain ⟨x', hx, hcj⟩ := Option.bind_eq_some_iff.1 hc
      obtain ⟨x, hx0⟩ := at_ i x' hx
      obtain ⟨q1, q2⟩ := hs.cell i x x' hx0 hx
      have hj : j < x.cells.length := by rw [← q1]; exact (List.getElem?_eq_some_iff.1 hcj).1
      refine q2 j _ c' (List.getElem?_eq_getElem hj) hcj G w v (h6 i j _ v ?_ hv)
      unfold rowCell
      rw [hx0, Option.bind_some, List.getElem?_eq_getElem hj]
def ASt.setSl (σ : ASt) (b : Nat) (xs : List AV) : ASt := { σ with sl := upd σ.sl b (some xs) }
theorem SimW.setSl {G w} {b : Nat} {xs xs' : List AV} (h : SimW G σ w) (hb : σ.sl b = some xs) (hok : SlOK G w b xs') : SimW G (σ.setSl b xs') w := by
  have hown : ∀ γ k, Owns G (σ.setSl b xs') γ k → Owns G σ γ k := by
    intro γ k hk
    cases hk with
    | bx b' β' cs2 h2 g2 => exact .bx _ _ cs2 h2 g2
    | mp b' β' cs2 h2 g2 => exact .mp _ _ cs2 h2 g2
    | sl b' β' r cs2 h2 g2 =>
      by_cases e : b' = b
      · subst e; exact .sl _ _ r xs hb g2
      · have : σ.sl b' = some cs2 := by simpa [ASt.setSl, upd, e] using h2
        exact .sl _ _ r cs2 this g2
  refine ⟨h.base, h.bx, h.mp, fun b' cs2 e => ?_, fun γ k hk => ?_, h.stIn, fun b' hb' => ?_⟩
  · by_cases e1 : b' = b
    · subst e1
      obtain rfl : xs' = cs2 := by simpa [ASt.setSl, upd] using e
      exact hok
    · exact h.sl b' cs2 (by simpa [ASt.setSl, upd, e1] using e)
  · obtain ⟨a1, a2, a3⟩ := h.own γ k (hown γ k hk)
    exact ⟨a1, fun k' hk' => a2 k' (hown _ _ hk'), a3⟩
  · obtain ⟨a1, a2, a3, a4, a5, a6⟩ := h.fresh b' hb'
    refine ⟨a1, a2, a3, a4, a5, ?_⟩
    by_cases e1 : b' = b
    · subst e1; rw [a6] at hb; cases hb
    · simpa [ASt.setSl, upd, e1] using a6
theorem awl_softSl {l : List Oper} (b : Nat) {xs xs' : List AV} (hb : σ.sl b = some xs) (hs : SoftL xs xs') (h : AWL P D ops Q l fr (σ.setSl b xs')) : AWL P D ops Q l fr σ :=
  fun G a w hw => h G a w ⟨hw.tmps, hw.defers, hw.w.setSl hb ((hw.w.sl b xs hb).soft hs)⟩
theorem SoftL.take {xs : List AV} {n : Nat} (h0 : 0 < n) (h1 : n ≤ xs.length) : SoftL xs (xs.take n) := by
  refine ⟨by simp; omega, by simp; omega, fun i x x' hx hx' => ?_⟩
  rw [List.getElem?_take] at hx'
  split at hx'
  · rw [hx] at hx'
    cases hx'
    exact ⟨rfl, fun j c c' hc hc' G w v hv => by rw [hc] at hc'; cases hc'; exact hv⟩
  · cases hx'
/-- What lies there is softer at the end alone. -/
theorem SoftL.last {xs : List AV} {x x' : AV} (h1 : x'.cells.length = x.cells.length) (h2 : ∀ (j : Nat) c c', x.cells[j]? = some c → x'.cells[j]? = some c' → ∀ G w v, Rep G w c v → Rep G w c' v) : SoftL (xs ++ [x]) (xs ++ [x']) := by
  refine ⟨by simp, by simp, fun i y y' hy hy' => ?_⟩
  rw [List.getElem?_append] at hy hy'
  split at hy
  · rw [if_pos (by assumption), hy] at hy'
    cases hy'
    exact ⟨rfl, fun j c c' hc hc' G w v hv => by rw [hc] at hc'; cases hc'; exact hv⟩
  · rw [if_neg (by assumption)] at hy'
    rw [List.getElem?_singleton] at hy hy'
    split at hy
    · rw [if_pos (by assumption)] at hy'
      cases hy; cases hy'
      exact ⟨h1, h2⟩
    · cases hy
/-- nil is the empty list. -/
theorem rep_nil {G : Ghost} {w : World} {v : Value} (h : Rep G w (.p (.slice none 0 0)) v) : Rep G w (.vsl []) v := by
  cases h; exact .vnil none 0
end Go.AL
/-! The document's arena under change: contracts of free. -/
namespace Go.AL
open Go.Proofs
set_option linter.unusedSimpArgs false
set_option linter.unusedVariables false
/-- The document's arena, number 0, its nodes and marks, and some slices beside it. -/
def rcS (size : Int) (nds : List Nd) (is : List Bool) (k1 k2 : Nat) (bs ss : List (Nat × List AV)) (m : Nat) : ASt := ⟨fun i => if i = 0 then some [vi size, .hsl k1 0 nds.length, .hsl k2 0 is.length] else lkN bs i, fun _ => none, fun i => if i = k1 then some (nds.map ndA) else if i = k2 then some (is.map fun b => vb b) else lkN ss i, m⟩
section
variable (size : Int) (nds : List Nd) (is : List Bool) (k1 k2 : Nat) (bs ss : List (Nat × List AV)) (m i : Nat)
@[simp] theorem rcS_bx : (rcS size nds is k1 k2 bs ss m).bx i = if i = 0 then some [vi size, .hsl k1 0 nds.length, .hsl k2 0 is.length] else lkN bs i := rfl
@[simp] theorem rcS_mp : (rcS size nds is k1 k2 bs ss m).mp i = none := rfl
@[simp] theorem rcS_sl : (rcS size nds is k1 k2 bs ss m).sl i = if i = k1 then some (nds.map ndA) else if i = k2 then some (is.map fun b => vb b) else lkN ss i := rfl
@[simp] theorem rcS_next : (rcS size nds is k1 k2 bs ss m).next = m := rfl
end
structure RcN (k1 k2 m : Nat) (bs ss : List (Nat × List AV)) : Prop where
  l1 : 0 < k1 ∧ k1 < m
  l2 : 0 < k2 ∧ k2 < m
  n : k1 ≠ k2
  s : ∀ p ∈ ss, 0 < p.1 ∧ p.1 < m ∧ p.1 ≠ k1 ∧ p.1 ≠ k2
  nd : (ss.map Prod.fst).Nodup
  bl : ∀ p ∈ bs, 0 < p.1 ∧ p.1 < m
  bd : (bs.map Prod.fst).Nodup
theorem le_rcS {size : Int} {nds : List Nd} {is : List Bool} {k1 k2 : Nat} {bs ss : List (Nat × List AV)} {m : Nat} {σ : ASt} (h1 : σ.bx 0 = some [vi size, .hsl k1 0 nds.length, .hsl k2 0 is.length]) (h2 : σ.sl k1 = some (nds.map ndA)) (h3 : σ.sl k2 = some (is.map fun b => vb b)) (h4 : ∀ p ∈ ss, σ.sl p.1 = some p.2) (h5 : ∀ p ∈ bs, σ.bx p.1 = some p.2) (h6 : σ.next ≤ m) : (rcS size nds is k1 k2 bs ss m).Le σ where
  bx := fun i cs e => by
    simp only [rcS_bx] at e
    split at e
    · rename_i hi; subst hi; rw [h1]; exact e
    · exact h5 _ (lkN_mem e)
  mp := fun i cs e => by cases e
  sl := fun i cs e => by
    simp only [rcS_sl] at e
    split at e
    · rename_i hi; subst hi; rw [h2]; exact e
    · split at e
      · rename_i hi; subst hi; rw [h3]; exact e
      · exact h4 _ (lkN_mem e)
  next := h6
theorem lkN_of {ss : List (Nat × List AV)} (h : (ss.map Prod.fst).Nodup) {p : Nat × List AV} (hp : p ∈ ss) : lkN ss p.1 = some p.2 := by
  induction ss with
  | nil => cases hp
  | cons q ss ih =>
    obtain ⟨a, x⟩ := q
    obtain ⟨h1, h2⟩ := List.nodup_cons.1 h
    rw [lkN_cons]
    rcases List.mem_cons.1 hp with rfl | hp
    · simp
    · rw [if_neg (fun e => h1 (List.mem_map.2 ⟨p, hp, e⟩))]
      exact ih h2 hp
/-- It, lent: closed. -/
theorem cloD_rc {size : Int} {nds : List Nd} {is : List Bool} {k1 k2 : Nat} {bs ss : List (Nat × List AV)} {m : Nat} (h : RcN k1 k2 m bs ss) : cloD (rcS size nds is k1 k2 bs ss m) 2 (.ptr 0 0) = rcV size nds is := by
  have hn : ¬ k2 = k1 := fun e => h.n e.symm
  simp [cloD, rcV, hn, List.take_of_length_le]
theorem soft_nd (xs : List AV) : SoftL (xs ++ [nd0]) (xs ++ [ndA ndZ]) := by
  refine .last rfl fun j c c' hc hc' G w v hv => ?_
  match j, hc, hc' with
  | 0, hc, hc' => cases hc; cases hc'; exact hv
  | 1, hc, hc' => cases hc; cases hc'; exact rep_nil hv
  | 2, hc, hc' => cases hc; cases hc'; exact rep_nil hv
  | 3, hc, hc' => cases hc; cases hc'; exact hv
  | j + 4, hc, hc' => simp [nd0, AV.cells] at hc
/-- Where the first one is that is not live. -/
def freeR : List Bool → Nat → Option Nat
  | [], _ => none
  | b :: l, i => if b = true then freeR l (i + 1) else some i
def FrI (size : Int) (nds : List Nd) (is : List Bool) (k1 k2 : Nat) (bs ss : List (Nat × List AV)) (m : Nat) (FR : Option Nat) (q : Nat) (fr : List AV) (σ : ASt) : Prop := ∃ i : Nat, 1 ≤ i ∧ i + q = is.length ∧ freeR (is.drop i) i = FR ∧ σ = rcS size nds is k1 k2 bs ss m ∧ fr = frm 61 [(0, .ptr 0 0), (3, vi (i : Nat))]
set_option maxHeartbeats 8000000 in
set_option maxRecDepth 100000 in
theorem rfree1_ok (size : Int) (nds : List Nd) (is : List Bool) (k1 k2 : Nat) (bs ss : List (Nat × List AV)) (m : Nat) (hn : RcN k1 k2 m bs ss) (hl : nds.length = is.length) (h0 : 1 ≤ is.length) (hlb : is.length ≤ 1000000) (h : Nat) (hf : freeR (is.drop 1) 1 = some h) :
    ACall Tryd.prog 49 [.ptr 0 0] (rcS size nds is k1 k2 bs ss m) fun r τ => r = vi (h : Nat) ∧ (rcS size nds is k1 k2 bs ss m).Le τ := by
  have hl1 : (is.map fun b => (vb b : AV)).length = is.length := List.length_map _
  have hnk : ¬ k2 = k1 := fun e => hn.n e.symm
  refine acall_of Tryd.func49 Tryd.ntmps49 rfl ?_
  simp only [List.length_cons, List.length_nil, List.cons_append, List.nil_append, List.replicate]
  obtain ⟨FR, hFR⟩ : ∃ FR, freeR (is.drop 1) 1 = FR := ⟨_, rfl⟩
  rw [hFR] at hf
  repeat' first | refine aw_W [33, 44] trivial trivial ?_ | refine aw_cond rfl (fun h => ?_) (fun h => ?_)
  refine aw_loopW [0, 3] (fun q fr σ => FrI size nds is k1 k2 bs ss m FR q fr σ) (is.length - 1) ?_ ?_
  · exact ⟨_, le_same _, 1, by omega, by omega, hFR, rfl, by simp⟩
  · rintro q fr σ ⟨i, hi1, hi, hx, rfl, rfl⟩
    simp -implicitDefEqProofs
    by_cases hlt : i < is.length
    · have hlti : (i : Int) < is.length := by omega
      obtain ⟨b, hb⟩ : ∃ b, is[i] = b := ⟨_, rfl⟩
      have hbg : is[i]? = some b := by rw [List.getElem?_eq_getElem hlt, hb]
      have wi : IntKind.i64.wrap ((i : Int) + 1) = (i : Int) + 1 := wrap_id (by omega) (by omega)
      rw [List.drop_eq_getElem_cons hlt, hb, freeR] at hx
      cases b with
      | true =>
        rw [if_pos rfl] at hx
        repeat' first | refine aw_W [33, 44] (And.intro @hlt (And.intro @hlti (And.intro @hb (And.intro @hbg (And.intro @hl1 (And.intro @hnk @wi)))))) trivial ?_ | refine aw_cond rfl (fun h => ?_) (fun h => ?_)
        exact ⟨q - 1, by omega, _, le_same _, i + 1, by omega, by omega, hx, rfl, by simp⟩
      | false =>
        rw [if_neg (by simp)] at hx
        rw [← hx] at hf
        cases hf
        repeat' first | refine aw_W [33, 44] (And.intro @hlt (And.intro @hlti (And.intro @hb (And.intro @hbg (And.intro @hl1 @hnk))))) trivial ?_ | refine aw_cond rfl (fun h => ?_) (fun h => ?_)
        exact ⟨by simp [tupOf], le_same _⟩
    · have hlti : ¬ (i : Int) < is.length := by omega
      rw [List.drop_eq_nil_of_le (by omega), freeR] at hx
      rw [← hx] at hf
      cases hf
set_option maxHeartbeats 8000000 in
set_option maxRecDepth 100000 in
theorem rfree2_ok (size : Int) (nds : List Nd) (is : List Bool) (k1 k2 : Nat) (bs ss : List (Nat × List AV)) (m : Nat) (hn : RcN k1 k2 m bs ss) (hl : nds.length = is.length) (h0 : 1 ≤ is.length) (hlb : is.length ≤ 1000000) (hf : freeR (is.drop 1) 1 = none) (hsz : size < (is.length : Int)) :
    ACall Tryd.prog 49 [.ptr 0 0] (rcS size nds is k1 k2 bs ss m) fun r τ => r = vi 0 ∧ (rcS size nds is k1 k2 bs ss m).Le τ := by
  have hl1 : (is.map fun b => (vb b : AV)).length = is.length := List.length_map _
  have hnk : ¬ k2 = k1 := fun e => hn.n e.symm
  refine acall_of Tryd.func49 Tryd.ntmps49 rfl ?_
  simp only [List.length_cons, List.length_nil, List.cons_append, List.nil_append, List.replicate]
  obtain ⟨FR, hFR⟩ : ∃ FR, freeR (is.drop 1) 1 = FR := ⟨_, rfl⟩
  rw [hFR] at hf
  repeat' first | refine aw_W [33, 44] trivial trivial ?_ | refine aw_cond rfl (fun h => ?_) (fun h => ?_)
  refine aw_loopW [0, 3] (fun q fr σ => FrI size nds is k1 k2 bs ss m FR q fr σ) (is.length - 1) ?_ ?_
  · exact ⟨_, le_same _, 1, by omega, by omega, hFR, rfl, by simp⟩
  · rintro q fr σ ⟨i, hi1, hi, hx, rfl, rfl⟩
    simp -implicitDefEqProofs
    by_cases hlt : i < is.length
    · have hlti : (i : Int) < is.length := by omega
      obtain ⟨b, hb⟩ : ∃ b, is[i] = b := ⟨_, rfl⟩
      have hbg : is[i]? = some b := by rw [List.getElem?_eq_getElem hlt, hb]
      have wi : IntKind.i64.wrap ((i : Int) + 1) = (i : Int) + 1 := wrap_id (by omega) (by omega)
      rw [List.drop_eq_getElem_cons hlt, hb, freeR] at hx
      cases b with
      | true =>
        rw [if_pos rfl] at hx
        repeat' first | refine aw_W [33, 44] (And.intro @hlt (And.intro @hlti (And.intro @hb (And.intro @hbg (And.intro @hl1 (And.intro @hnk @wi)))))) trivial ?_ | refine aw_cond rfl (fun h => ?_) (fun h => ?_)
        exact ⟨q - 1, by omega, _, le_same _, i + 1, by omega, by omega, hx, rfl, by simp⟩
      | false =>
        rw [if_neg (by simp)] at hx
        rw [← hx] at hf
        cases hf
    · have hlti : ¬ (i : Int) < is.length := by omega
      rw [List.drop_eq_nil_of_le (by omega), freeR] at hx
      repeat' first | refine aw_W [33, 44] (And.intro @hlti @hsz) trivial ?_ | refine aw_cond rfl (fun h => ?_) (fun h => ?_)
      exact ⟨by simp [tupOf], le_same _⟩
set_option maxHeartbeats 8000000 in
set_option maxRecDepth 100000 in
theorem rfree3_ok (size : Int) (nds : List Nd) (is : List Bool) (k1 k2 : Nat) (bs ss : List (Nat × List AV)) (m : Nat) (hn : RcN k1 k2 m bs ss) (hl : nds.length = is.length) (h0 : 1 ≤ is.length) (hlb : is.length ≤ 1000000) (hf : freeR (is.drop 1) 1 = none) (hsz : (is.length : Int) ≤ size) :
    ACall Tryd.prog 49 [.ptr 0 0] (rcS size nds is k1 k2 bs ss m) fun r τ => r = vi (is.length : Nat) ∧ ∃ k1' k2' m', RcN k1' k2' m' bs ss ∧ (rcS size (nds ++ [ndZ]) (is ++ [false]) k1' k2' bs ss m').Le τ := by
  have hl1 : (is.map fun b => (vb b : AV)).length = is.length := List.length_map _
  have hnk : ¬ k2 = k1 := fun e => hn.n e.symm
  refine acall_of Tryd.func49 Tryd.ntmps49 rfl ?_
  simp only [List.length_cons, List.length_nil, List.cons_append, List.nil_append, List.replicate]
  obtain ⟨FR, hFR⟩ : ∃ FR, freeR (is.drop 1) 1 = FR := ⟨_, rfl⟩
  rw [hFR] at hf
  repeat' first | refine aw_W [33, 44] trivial trivial ?_ | refine aw_cond rfl (fun h => ?_) (fun h => ?_)
  refine aw_loopW [0, 3] (fun q fr σ => FrI size nds is k1 k2 bs ss m FR q fr σ) (is.length - 1) ?_ ?_
  · exact ⟨_, le_same _, 1, by omega, by omega, hFR, rfl, by simp⟩
  · rintro q fr σ ⟨i, hi1, hi, hx, rfl, rfl⟩
    simp -implicitDefEqProofs
    by_cases hlt : i < is.length
    · have hlti : (i : Int) < is.length := by omega
      obtain ⟨b, hb⟩ : ∃ b, is[i] = b := ⟨_, rfl⟩
      have hbg : is[i]? = some b := by rw [List.getElem?_eq_getElem hlt, hb]
      have wi : IntKind.i64.wrap ((i : Int) + 1) = (i : Int) + 1 := wrap_id (by omega) (by omega)
      rw [List.drop_eq_getElem_cons hlt, hb, freeR] at hx
      cases b with
      | true =>
        rw [if_pos rfl] at hx
        repeat' first | refine aw_W [33, 44] (And.intro @hlt (And.intro @hlti (And.intro @hb (And.intro @hbg (And.intro @hl1 (And.intro @hnk @wi)))))) trivial ?_ | refine aw_cond rfl (fun h => ?_) (fun h => ?_)
        exact ⟨q - 1, by omega, _, le_same _, i + 1, by omega, by omega, hx, rfl, by simp⟩
      | false =>
        rw [if_neg (by simp)] at hx
        rw [← hx] at hf
        cases hf
    · have hlti : ¬ (i : Int) < is.length := by omega
      rw [List.drop_eq_nil_of_le (by omega), freeR] at hx
      have hsz : ¬ size < (is.length : Int) := by omega
      have a1 := hn.l1
      have a2 := hn.l2
      have mk1 : ¬ m = k1 := by omega
      have mk2 : ¬ m = k2 := by omega
      have k1m : ¬ k1 = m := by omega
      have k2m : ¬ k2 = m := by omega
      repeat' first | refine aw_W [33, 44] (And.intro @hlti @hsz) trivial ?_ | refine aw_cond rfl (fun h => ?_) (fun h => ?_)
      refine awl_append [] rfl rfl rfl (b := m) (xs := []) (ys := is.map fun b => vb b) (by simp) (by simp) (by simp [asrc, upd, k2m, hnk, hl1, List.take_of_length_le]) (by simp; intro e; rw [e] at h0; simp at h0) te61 tet61 tz4 rfl (by simp) (fun y hy => by obtain ⟨_, _, rfl⟩ := List.mem_map.1 hy; exact ⟨rfl, rfl⟩) (by simp; omega) (by simp; omega) ?_
      simp -implicitDefEqProofs [ASt.dropSl, ASt.addSl]
      repeat' first | refine aw_W [33, 44] trivial trivial ?_ | refine aw_cond rfl (fun h => ?_) (fun h => ?_)
      refine awl_append [] rfl rfl rfl (b := m + 1) (xs := is.map fun b => vb b) (by simp [upd]) (by simp) rfl (by simp) te61 tet61 tz4 rfl (fun y hy => by obtain ⟨_, _, rfl⟩ := List.mem_map.1 hy; rfl) (by simp) (by simp; omega) (by simp; omega) ?_
      simp -implicitDefEqProofs [ASt.dropSl, ASt.addSl]
      repeat' first | refine aw_W [33, 44] trivial trivial ?_ | refine aw_cond rfl (fun h => ?_) (fun h => ?_)
      have l4 : ∀ y ∈ nds.map ndA, y.cells.length = 4 := fun y hy => by obtain ⟨_, _, rfl⟩ := List.mem_map.1 hy; rfl
      have n1 : ¬ k1 = m + 1 := by omega
      have n2 : ¬ k1 = m + 1 + 1 := by omega
      have n3 : ¬ k1 = m + 1 + 1 + 1 := by omega
      refine awl_append [] rfl rfl rfl (b := m + 1 + 1 + 1) (xs := []) (ys := nds.map ndA) (by simp [upd]) (by simp) (by simp [asrc, upd, k1m, n1, n2, n3, List.take_of_length_le]) (by simp; intro e; rw [e] at hl; simp at hl; omega) te54 tet54 tz43 rfl (by simp) (fun y hy => by obtain ⟨_, _, rfl⟩ := List.mem_map.1 hy; exact ⟨rfl, rfl⟩) (by simp; omega) (by simp; omega) ?_
      simp -implicitDefEqProofs [ASt.dropSl, ASt.addSl]
      repeat' first | refine aw_W [33, 44] trivial trivial ?_ | refine aw_cond rfl (fun h => ?_) (fun h => ?_)
      refine awl_cons rfl (opq_append rfl rfl (b := m + 1 + 1 + 1 + 1) (xs := nds.map ndA) (by simp [upd]) (by simp) rfl (by simp) te54 tet54 tz43 rfl l4 (by simp [AV.cells]) (by simp; omega) (by simp; omega) ?_)
      refine awl_softSl (m + 1 + 1 + 1 + 1 + 1) (xs' := (nds ++ [ndZ]).map ndA) (xs := nds.map ndA ++ [nd0]) (by simp [ASt.dropSl, ASt.addSl, upd, List.take_of_length_le, nd0]) (by rw [List.map_append]; exact soft_nd _) ?_
      refine awl_run' [] ?_
      simp -implicitDefEqProofs [ASt.dropSl, ASt.addSl, ASt.setSl]
      repeat' first | refine aw_W [33, 44] trivial trivial ?_ | refine aw_cond rfl (fun h => ?_) (fun h => ?_)
      have wl : IntKind.i64.wrap (is.length : Int) = is.length := wrap_id (by omega) (by omega)
      refine ⟨by simp [tupOf, wl], m + 5, m + 2, m + 6, ⟨by omega, by omega, by omega, fun p hp => by have := hn.s p hp; omega, hn.nd, fun p hp => by have := hn.bl p hp; omega, hn.bd⟩, le_rcS (by simp) (by simp [upd]) (by simp [upd, List.take_of_length_le]) (fun p hp => ?_) (fun p hp => by have := hn.bl p hp; simp [upd, show ¬ p.1 = 0 by omega, lkN_of hn.bd hp]) (by simp)⟩
      obtain ⟨q1, q2, q3, q4⟩ := hn.s p hp
      have r0 : ¬ p.1 = m := by omega
      have r1 : ¬ p.1 = m + 1 := by omega
      have r2 : ¬ p.1 = m + 2 := by omega
      have r3 : ¬ p.1 = m + 3 := by omega
      have r4 : ¬ p.1 = m + 4 := by omega
      have r5 : ¬ p.1 = m + 5 := by omega
      simp [upd, r0, r1, r2, r3, r4, r5, q3, q4, lkN_of hn.nd hp]
end Go.AL
/-! Between two parts: what the ways ahead have in common. -/
namespace Go.AL
set_option linter.unusedVariables false
variable {P : Program} {σ : ASt} {D : List Deferred} {Q Q2 : Exit → List AV → ASt → Prop} {fr : List AV}
theorem aw_mid {c c2 : Code} (ks : List Nat) (I : List AV → ASt → Prop) (hI : ∀ fr σ, I fr σ → AW P D c2 Q2 fr σ) (h : AW P D c (thenA (fun fr σ => ∃ τ, ASt.Le τ σ ∧ I (keep ks 0 fr) τ) Q) fr σ) : AW P D c (thenA (AW P D c2 Q2) Q) fr σ := by
  refine AW.mono (fun e fr σ h => ?_) h
  cases e with
  | normal =>
    obtain ⟨τ, hl, h⟩ := h
    exact aw_weak hl (aw_keep ks (hI _ _ h))
  | _ => exact h
end Go.AL
