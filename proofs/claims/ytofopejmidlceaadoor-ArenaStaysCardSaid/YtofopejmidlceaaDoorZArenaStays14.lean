/- Parts of the proof of ArenaStays: the logic, contracts, plain laws. -/
import Derived.Test.YtofopejmidlceaaDoorZArenaStays13
import Derived.Test.YtofopejmidlceaaDoorZArenaStays12
import Derived.Test.YtofopejmidlceaaDoorZArenaStays11
import Derived.Test.YtofopejmidlceaaDoorZArenaStays9
/-! Entries taken out of maps, as lists; delete in a region that draws. -/
namespace Go.AL
set_option linter.unusedVariables false
set_option linter.unusedSimpArgs false
variable {P : Program} {σ : ASt} {R : AV → ASt → Prop} {D : List Deferred} {Q : Exit → List AV → ASt → Prop} {fr : List AV} {ops : Array Oper} {o : Oper} {rest : List Oper} {ρ : Operand → AV}
theorem zl_mapDel {mu imp : List Nat} {l : List Oper} {K : List AV → ASt → Prop} {i : Nat} {old : List ASt} {pd : List Pend} {t t2 : TypeId} {m k : Operand} (hz : zst mu imp o = true) (ho : o.op = .call { callee := .builtin .delete, args := #[m, k], argTypes := #[t, t2] }) (hg : o.guard = none) {d : TypeDesc} {el : TypeId} (ht : tmap P t = some (d, el)) {b : Nat} (hm : aev fr m = .map b) {es es' : List (AV × AV)} (hb : σ.mp b = some es)
    {kv : Value} (hk : aev fr k = .p kv) (hf : amdel d (.p kv) es = some es')
    (hk2 : pendOk P mu imp l (old.length + 1) { σ with mp := upd σ.mp b (some es') } pd ∧ Shut (ZRun P mu imp l K (i + 1) rest (aput fr o.dst (.p undef)) { σ with mp := upd σ.mp b (some es') } (σ :: old) pd)) : ZS P mu imp l K i (o :: rest) fr σ old pd := by
  intro hok
  unfold ZL; rw [if_pos hz]
  refine ⟨_, _, yldT_opq hg fun ρ hρ => ?_, pendOk_yld hok hk2.1, zl_run hk2.2.out hok⟩
  have e1 : ρ m = aev fr m := hρ m (by rw [ho]; simp [Op.operands, Call.operands])
  have e2 : ρ k = aev fr k := hρ k (by rw [ho]; simp [Op.operands, Call.operands])
  exact opq_mapDel ho ht (e1.trans hm) hb (e2.trans hk) hf ⟨rfl, rfl⟩
variable {α : Type}
theorem erase_map' {α β : Type} (g : α → β) : ∀ (l : List α) (j : Nat), (l.map g).eraseIdx j = (l.eraseIdx j).map g
  | [], _ => rfl
  | _ :: _, 0 => rfl
  | a :: l, j + 1 => by simp [erase_map' g l j]
/-! ### entries taken out -/
def delK (M : List (Int × α)) (n : Int) : List (Int × α) := match ixK M n 0 with | none => M | some j => M.eraseIdx j
theorem del_esK (f : α → AV) (d0 : α) (k : IntKind) (M : List (Int × α)) (n : Int) : amdel (.int k) (.p (.int .i64 n)) (esK f M) = some (esK f (delK M n)) := by
  rw [amdel, find_esK f d0, delK]
  cases hq : ixK M n 0 with
  | none => simp [esK]
  | some j => simp only [Option.map_some]; exact congrArg some (erase_map' _ M j)
theorem delK_eq (n : Int) : ∀ (M : List (Int × α)) (i : Nat), (M.map Prod.fst).Nodup → (match ixK M n i with | none => M | some j => M.eraseIdx (j - i)) = M.filter fun p => !decide (p.1 = n)
  | [], i, _ => rfl
  | (a, h) :: M, i, hn => by
    obtain ⟨h1, h2⟩ := List.nodup_cons.1 hn
    have ih := delK_eq n M (i + 1) h2
    have hs := ixK_spec n M (i + 1)
    rw [ixK]
    by_cases e : a = n
    · subst e
      have hf : M.filter (fun p => !decide (p.1 = a)) = M := List.filter_eq_self.2 fun p hp => by
        have : p.1 ≠ a := fun e => h1 (List.mem_map.2 ⟨p, hp, e⟩)
        simp [this]
      simp [hf]
    · rw [if_neg e]
      cases hq : ixK M n (i + 1) with
      | none => rw [hq] at ih; simp only at ih ⊢; simp [e, ← ih]
      | some j =>
        rw [hq] at ih hs
        simp only at ih hs ⊢
        rw [show j - i = (j - (i + 1)) + 1 by omega, List.eraseIdx_cons_succ, ih]
        simp [e]
theorem delK_filter {M : List (Int × α)} (hn : (M.map Prod.fst).Nodup) (n : Int) : delK M n = M.filter fun p => !decide (p.1 = n) := delK_eq n M 0 hn
theorem gotK_filter (q : Int → Bool) (M : List (Int × α)) (m : Int) : gotK (M.filter fun p => q p.1) m = if q m = true then gotK M m else none := by
  induction M with
  | nil => simp [gotK]
  | cons p M ih =>
    obtain ⟨a, h⟩ := p
    by_cases hq : q a = true
    · have e0 : ((a, h) :: M).filter (fun p => q p.1) = (a, h) :: M.filter fun p => q p.1 := by simp [List.filter_cons, hq]
      rw [e0, gotK, ih, gotK]
      by_cases e : a = m
      · subst e; simp [hq]
      · simp [e]
    · have e0 : ((a, h) :: M).filter (fun p => q p.1) = M.filter fun p => q p.1 := by simp [List.filter_cons, hq]
      rw [e0, ih, gotK]
      by_cases e : a = m
      · subst e; simp [hq]
      · simp [e]
theorem gotK_del {M : List (Int × α)} (hn : (M.map Prod.fst).Nodup) (n m : Int) : gotK (delK M n) m = if n = m then none else gotK M m := by
  rw [delK_filter hn, gotK_filter fun x => !decide (x = n)]
  by_cases e : n = m
  · subst e; simp
  · have e' : ¬ m = n := fun h => e h.symm
    simp [e, e']
theorem nodup_delK {M : List (Int × α)} (hn : (M.map Prod.fst).Nodup) (n : Int) : ((delK M n).map Prod.fst).Nodup := by
  rw [delK_filter hn]
  exact hn.sublist (List.Sublist.map _ List.filter_sublist)
/-! ### entries taken out -/
def delT (M : List (ByteArray × α)) (n : ByteArray) : List (ByteArray × α) := match ixT M n 0 with | none => M | some j => M.eraseIdx j
theorem del_esT (f : α → AV) (d0 : α) (M : List (ByteArray × α)) (n : ByteArray) : amdel .string (.p (.string n)) (esT f M) = some (esT f (delT M n)) := by
  rw [amdel, find_esT f d0, delT]
  cases hq : ixT M n 0 with
  | none => simp [esT]
  | some j => simp only [Option.map_some]; exact congrArg some (erase_map' _ M j)
theorem delT_eq (n : ByteArray) : ∀ (M : List (ByteArray × α)) (i : Nat), (M.map Prod.fst).Nodup → (match ixT M n i with | none => M | some j => M.eraseIdx (j - i)) = M.filter fun p => !decide (p.1 = n)
  | [], i, _ => rfl
  | (a, h) :: M, i, hn => by
    obtain ⟨h1, h2⟩ := List.nodup_cons.1 hn
    have ih := delT_eq n M (i + 1) h2
    have hs := ixT_spec n M (i + 1)
    rw [ixT]
    by_cases e : a = n
    · subst e
      have hf : M.filter (fun p => !decide (p.1 = a)) = M := List.filter_eq_self.2 fun p hp => by
        have : p.1 ≠ a := fun e => h1 (List.mem_map.2 ⟨p, hp, e⟩)
        simp [this]
      simp [hf]
    · rw [if_neg e]
      cases hq : ixT M n (i + 1) with
      | none => rw [hq] at ih; simp only at ih ⊢; simp [e, ← ih]
      | some j =>
        rw [hq] at ih hs
        simp only at ih hs ⊢
        rw [show j - i = (j - (i + 1)) + 1 by omega, List.eraseIdx_cons_succ, ih]
        simp [e]
theorem delT_filter {M : List (ByteArray × α)} (hn : (M.map Prod.fst).Nodup) (n : ByteArray) : delT M n = M.filter fun p => !decide (p.1 = n) := delT_eq n M 0 hn
theorem gotT_filter (q : ByteArray → Bool) (M : List (ByteArray × α)) (m : ByteArray) : gotT (M.filter fun p => q p.1) m = if q m = true then gotT M m else none := by
  induction M with
  | nil => simp [gotT]
  | cons p M ih =>
    obtain ⟨a, h⟩ := p
    by_cases hq : q a = true
    · have e0 : ((a, h) :: M).filter (fun p => q p.1) = (a, h) :: M.filter fun p => q p.1 := by simp [List.filter_cons, hq]
      rw [e0, gotT, ih, gotT]
      by_cases e : a = m
      · subst e; simp [hq]
      · simp [e]
    · have e0 : ((a, h) :: M).filter (fun p => q p.1) = M.filter fun p => q p.1 := by simp [List.filter_cons, hq]
      rw [e0, ih, gotT]
      by_cases e : a = m
      · subst e; simp [hq]
      · simp [e]
theorem gotT_del {M : List (ByteArray × α)} (hn : (M.map Prod.fst).Nodup) (n m : ByteArray) : gotT (delT M n) m = if n = m then none else gotT M m := by
  rw [delT_filter hn, gotT_filter fun x => !decide (x = n)]
  by_cases e : n = m
  · subst e; simp
  · have e' : ¬ m = n := fun h => e h.symm
    simp [e, e']
theorem nodup_delT {M : List (ByteArray × α)} (hn : (M.map Prod.fst).Nodup) (n : ByteArray) : ((delT M n).map Prod.fst).Nodup := by
  rw [delT_filter hn]
  exact hn.sublist (List.Sublist.map _ List.filter_sublist)
end Go.AL
/-! Contract: arena's drop. -/
namespace Go.AL
open Go.Proofs
set_option linter.unusedSimpArgs false
set_option linter.unusedVariables false
theorem tmS : tmap Tryd.prog 58 = some (.string, 3) := by kernel_rfl
theorem cl_esT (N : List (ByteArray × Int)) : clM (esT vi N) := fun p hp => by
  obtain ⟨q, _, rfl⟩ := List.mem_map.1 hp
  exact ⟨.p _, .p _⟩
@[simp] theorem cl_ndA' (x : Nd) : Cl (ndA x) = True := eq_true (cl_ndA x)
set_option maxHeartbeats 8000000 in
set_option maxRecDepth 100000 in
theorem adrop_ok (M : Nods) (N : List (ByteArray × Int)) (a c h : Int) (x : Nd) (hx : gotK M h = some x) (hok : NdOk x) :
    AC Tryd.prog 32 [vi h] a (esK ndA M) (esT vi N) c (.tup []) (esK ndA (delK M h)) (esT vi (delT N (nmB x))) (min c h) := by
  have hnm := aname_ok x hok
  refine ac_in Tryd.func32 Tryd.ntmps32 rfl ?_
  repeat' first | refine aw_W [] trivial trivial ?_ | refine aw_cond rfl (fun h => ?_) (fun h => ?_)
  refine zl_lookup (by simp) rfl rfl tmN rfl (es := esK ndA M) (by simp) rfl (find_esK ndA ndZ .i64 h M 0) (x := ngot (gotK M h)) (ngot_some M h ndZ) (ngot_none tz40 M h ndZ) (X := ndA x) (by rw [hx]; rfl) ?_
  simp -implicitDefEqProofs
  repeat' first | refine aw_W [] trivial (And.intro @hnm trivial) ?_ | refine aw_cond rfl (fun h => ?_) (fun h => ?_)
  refine zl_mapDel (by simp) rfl rfl tmS rfl (es := esT vi N) (by simp) rfl (del_esT vi 0 N (nmB x)) ?_
  simp -implicitDefEqProofs
  repeat first | refine zcurL (by decide +kernel) ?_ | refine zcurH (by decide +kernel) ?_ | refine zcurL' (by decide +kernel) ?_ | refine zcurH' (by decide +kernel) ?_
  repeat' first | refine aw_W [] trivial trivial ?_ | refine aw_cond rfl (fun h => ?_) (fun h => ?_)
  refine awl_mapDel [] rfl rfl tmN rfl (es := esK ndA M) (by simp [upd]) rfl (del_esK ndA ndZ .i64 M h) ?_
  simp -implicitDefEqProofs
  repeat' first | refine aw_W [] trivial trivial ?_ | refine aw_cond rfl (fun h => ?_) (fun h => ?_)
  have hmin : (if h < c then h else c) = min c h := by split <;> omega
  simp [tupOf, upd, hmin]
end Go.AL
/-! Contract: arena.New. -/
namespace Go.AL
open Go.Proofs
set_option linter.unusedSimpArgs false
set_option linter.unusedVariables false
set_option maxHeartbeats 8000000 in
set_option maxRecDepth 100000 in
theorem anew_ok (room : Int) (h : 0 ≤ room ∧ room ≤ 65536) (σ : ASt) : ACall Tryd.prog 7 [vi room] σ fun r τ => r = .tup [.ptr (σ.next + 2) 0, vi 0] ∧ τ = ((σ.addMp []).addMp []).addBx [vi room, .map σ.next, .map (σ.next + 1), vi 1] := by
  have h0 : ¬ room < 0 := by omega
  have h1 : ¬ 65536 < room := by omega
  refine acall_of Tryd.func7 Tryd.ntmps7 rfl ?_
  simp only [List.length_cons, List.length_nil, List.cons_append, List.nil_append, List.replicate]
  repeat' first | refine aw_N [] (And.intro @h0 @h1) trivial ?_ | refine aw_cond rfl (fun h => ?_) (fun h => ?_)
  refine awl_makeMap [14] rfl rfl ?_
  simp -implicitDefEqProofs
  refine awl_makeMap [14] rfl rfl ?_
  simp -implicitDefEqProofs
  repeat' first | refine aw_N [] trivial trivial ?_ | refine aw_cond rfl (fun h => ?_) (fun h => ?_)
  all_goals first | exact ⟨rfl, rfl⟩ | trace_state
end Go.AL
/-! What is guarded, where the guard is known. -/
namespace Go.AL
set_option linter.unusedVariables false
set_option linter.unusedSimpArgs false
theorem awl_unopt {P : Program} {σ : ASt} {D : List Deferred} {Q : Exit → List AV → ASt → Prop} {fr : List AV} {ops : Array Oper} {l : List Oper} (i : Nat) {c : AV} (hi : fr[i]? = some (.opt true c)) (h : AWL P D ops Q l (fr.set i c) σ) : AWL P D ops Q l fr σ := by
  intro G a w hs
  refine h G a w ⟨⟨by simpa using hs.tmps.1, fun j c1 v h1 hv => ?_⟩, hs.defers, hs.w⟩
  rw [List.getElem?_set] at h1
  split at h1
  · rename_i e
    subst e
    split at h1
    · obtain rfl := Option.some.inj h1
      have := hs.tmps.2 i _ v hi hv
      cases this with
      | opt _ _ _ h2 h3 => exact h2 rfl
    · cases h1
  · exact hs.tmps.2 j c1 v h1 hv
end Go.AL
/-! Contracts: arena's Len, Room, wrong. -/
namespace Go.AL
open Go.Proofs
set_option linter.unusedSimpArgs false
set_option linter.unusedVariables false
set_option maxHeartbeats 8000000 in
set_option maxRecDepth 100000 in
theorem aroom_ok (es fs : List (AV × AV)) (a c : Int) : AC Tryd.prog 14 [] a es fs c (vi a) es fs c := by
  refine ac_in Tryd.func14 Tryd.ntmps14 rfl ?_
  repeat' first | refine aw_N [] trivial trivial ?_ | refine aw_cond rfl (fun h => ?_) (fun h => ?_)
  all_goals first | (simp [tupOf]; done) | trace_state
set_option maxHeartbeats 8000000 in
set_option maxRecDepth 100000 in
theorem wrong1_ok (M : Nods) (fs : List (AV × AV)) (hfs : clM fs) (a c x k : Int) (hk : 0 ≤ k ∧ k ≤ 1000000) :
    ACall Tryd.prog 43 [vi x, .vel [.ptr 0 0] 0 0, .vel [vi k] 0 0] (arS a (esK ndA M) fs c) fun r τ => r = vb (decide (0 < x) && !(gotK M x).isSome || decide (x < -k)) ∧ (arS a (esK ndA M) fs c).Le τ := by
  have hh := ahas_ok M fs a c x
  have wk : IntKind.i64.wrap (-k) = -k := wrap_id (by omega) (by omega)
  refine acall_of Tryd.func43 Tryd.ntmps43 rfl ?_
  simp only [List.length_cons, List.length_nil, List.cons_append, List.nil_append, List.replicate]
  obtain ⟨B, hB⟩ : ∃ B, (decide (0 < x) && !(gotK M x).isSome || decide (x < -k)) = B := ⟨_, rfl⟩
  rw [hB]
  by_cases h0 : 0 < x
  · cases hg : (gotK M x).isSome with
    | true =>
      rw [hg] at hh hB
      have hx : ¬ x < -k := by omega
      have hB : B = false := by rw [← hB]; simp [hx]
      subst hB
      repeat' first | refine aw_N [] @h0 trivial ?_ | refine aw_cond rfl (fun h => ?_) (fun h => ?_)
      refine awl_unopt 8 (c := .ptr 0 0) rfl ?_
      refine awl_unopt 9 (c := vi x) rfl ?_
      simp -implicitDefEqProofs only [List.set]
      refine awl_ar [] rfl rfl rfl (by kernel_rfl) hh rfl (by simp) (by simp) (cl_esN M) hfs (cl_esN M) hfs (at_arS _ _ _ _) ?_
      simp -implicitDefEqProofs [wk, hx]
      repeat' first | refine aw_N [] (And.intro @wk @hx) trivial ?_ | refine aw_cond rfl (fun h => ?_) (fun h => ?_)
      all_goals first | exact ⟨rfl, le_arS (by simp) (by simp) (by simp) (by simp)⟩ | trace_state
    | false =>
      rw [hg] at hh hB
      have hB : B = true := by rw [← hB]; simp [h0]
      subst hB
      repeat' first | refine aw_N [] @h0 trivial ?_ | refine aw_cond rfl (fun h => ?_) (fun h => ?_)
      refine awl_unopt 8 (c := .ptr 0 0) rfl ?_
      refine awl_unopt 9 (c := vi x) rfl ?_
      simp -implicitDefEqProofs only [List.set]
      refine awl_ar [] rfl rfl rfl (by kernel_rfl) hh rfl (by simp) (by simp) (cl_esN M) hfs (cl_esN M) hfs (at_arS _ _ _ _) ?_
      simp -implicitDefEqProofs
      repeat' first | refine aw_N [] trivial trivial ?_ | refine aw_cond rfl (fun h => ?_) (fun h => ?_)
      all_goals first | exact ⟨rfl, le_arS (by simp) (by simp) (by simp) (by simp)⟩ | trace_state
  · by_cases hx : x < -k
    · have hB : B = true := by rw [← hB]; simp [hx]
      subst hB
      repeat' first | refine aw_N [] (And.intro @h0 (And.intro @wk @hx)) trivial ?_ | refine aw_cond rfl (fun h => ?_) (fun h => ?_)
      all_goals first | exact ⟨rfl, le_arS (by simp) (by simp) (by simp) (by simp)⟩ | trace_state
    · have hB : B = false := by rw [← hB]; simp [h0, hx]
      subst hB
      repeat' first | refine aw_N [] (And.intro @h0 (And.intro @wk @hx)) trivial ?_ | refine aw_cond rfl (fun h => ?_) (fun h => ?_)
      all_goals first | exact ⟨rfl, le_arS (by simp) (by simp) (by simp) (by simp)⟩ | trace_state
end Go.AL
/-! Contract: arena's wrong. -/
namespace Go.AL
open Go.Proofs
set_option linter.unusedSimpArgs false
set_option linter.unusedVariables false
def idxP (p : Int → Bool) : List Int → Nat → Int
  | [], _ => -1
  | x :: l, i => if p x = true then (i : Int) else idxP p l (i + 1)
theorem idxP_iff (p : Int → Bool) : ∀ (l : List Int) (i : Nat), 0 ≤ idxP p l i ↔ l.any p = true
  | [], i => by simp [idxP]
  | x :: l, i => by
    rw [idxP]
    split
    · rename_i h; simp [h]
    · rename_i h; rw [idxP_iff p l (i + 1)]; simp [h]
/-- A Ref that is none. -/
def badR (M : Nods) (k x : Int) : Bool := decide (0 < x) && !(gotK M x).isSome || decide (x < -k)
def fnW (k : Int) : AV := .fn (.func 43) [] [.vel [.ptr 0 0] 0 0, .vel [vi k] 0 0]
def IwI (M : Nods) (fs : List (AV × AV)) (a c k : Int) (l : List Int) (q : Nat) (fr : List AV) (σ : ASt) : Prop := ∃ i : Nat, i + q = l.length ∧ idxP (badR M k) (l.drop i) i = idxP (badR M k) l 0 ∧ σ = arS a (esK ndA M) fs c ∧ fr = frm 19 [(0, .vsl (l.map vi)), (1, fnW k), (7, vi (l.length : Nat)), (8, vi (i : Nat))]
set_option maxHeartbeats 8000000 in
set_option maxRecDepth 100000 in
theorem iindexW_ok (M : Nods) (fs : List (AV × AV)) (hfs : clM fs) (a c k : Int) (hk : 0 ≤ k ∧ k ≤ 1000000) (l : List Int) (hl : l.length ≤ 1000000) :
    ACall Tryd.prog 46 [.vsl (l.map vi), fnW k] (arS a (esK ndA M) fs c) fun r τ => r = vi (idxP (badR M k) l 0) ∧ (arS a (esK ndA M) fs c).Le τ := by
  have hlv : (l.map vi).length = l.length := List.length_map _
  refine acall_of Tryd.func46 Tryd.ntmps46 rfl ?_
  simp only [List.length_cons, List.length_nil, List.cons_append, List.nil_append, List.replicate]
  repeat' first | refine aw_N [] trivial trivial ?_ | refine aw_cond rfl (fun h => ?_) (fun h => ?_)
  refine aw_loopW [0, 1, 7, 8] (fun q fr σ => IwI M fs a c k l q fr σ) l.length ?_ ?_
  · exact ⟨arS a (esK ndA M) fs c, le_arS (by simp) (by simp) (by simp) (by simp), 0, by omega, by simp, rfl, by simp⟩
  · rintro q fr σ ⟨i, hi, hx, rfl, rfl⟩
    simp -implicitDefEqProofs
    by_cases hlt : i < l.length
    · have hlti : (i : Int) < l.length := by omega
      obtain ⟨t, ht⟩ : ∃ t, l[i] = t := ⟨_, rfl⟩
      have wi : IntKind.i64.wrap ((i : Int) + 1) = (i : Int) + 1 := wrap_id (by omega) (by omega)
      rw [List.drop_eq_getElem_cons hlt, ht, idxP] at hx
      have hw := wrong1_ok M fs hfs a c t k hk
      have hb : (decide (0 < t) && !(gotK M t).isSome || decide (t < -k)) = badR M k t := rfl
      rw [hb] at hw
      repeat' first | refine aw_N [] (And.intro @hlt (And.intro @hlti (And.intro @ht @hlv))) trivial ?_ | refine aw_cond rfl (fun h => ?_) (fun h => ?_)
      refine awl_cons rfl (opq_call rfl rfl rfl (hw.mono fun r τ ⟨e1, e2⟩ => ?_))
      subst e1
      refine AWL.less e2 ?_
      cases hv : badR M k t with
      | true =>
        rw [hv, if_pos rfl] at hx
        rw [← hx]
        refine awl_run' [] ?_
        simp -implicitDefEqProofs
        repeat' first | refine aw_N [] trivial trivial ?_ | refine aw_cond rfl (fun h => ?_) (fun h => ?_)
        all_goals first | exact ⟨rfl, le_arS (by simp) (by simp) (by simp) (by simp)⟩ | trace_state
      | false =>
        rw [hv, if_neg (by simp)] at hx
        refine awl_run' [] ?_
        simp -implicitDefEqProofs
        repeat' first | refine aw_N [] @wi trivial ?_ | refine aw_cond rfl (fun h => ?_) (fun h => ?_)
        exact ⟨q - 1, by omega, arS a (esK ndA M) fs c, le_arS (by simp) (by simp) (by simp) (by simp), i + 1, by omega, hx, rfl, by simp⟩
    · have hlti : ¬ (i : Int) < l.length := by omega
      rw [List.drop_eq_nil_of_le (by omega), idxP] at hx
      rw [← hx]
      repeat' first | refine aw_N [] @hlti trivial ?_ | refine aw_cond rfl (fun h => ?_) (fun h => ?_)
      all_goals first | exact ⟨rfl, le_arS (by simp) (by simp) (by simp) (by simp)⟩ | trace_state
set_option maxHeartbeats 8000000 in
set_option maxRecDepth 100000 in
theorem icontW_ok (M : Nods) (fs : List (AV × AV)) (hfs : clM fs) (a c k : Int) (hk : 0 ≤ k ∧ k ≤ 1000000) (l : List Int) (hl : l.length ≤ 1000000) :
    ACall Tryd.prog 33 [.vsl (l.map vi), fnW k] (arS a (esK ndA M) fs c) fun r τ => r = vb (l.any (badR M k)) ∧ (arS a (esK ndA M) fs c).Le τ := by
  have hi := iindexW_ok M fs hfs a c k hk l hl
  have e : l.any (badR M k) = decide (0 ≤ idxP (badR M k) l 0) := by
    have := idxP_iff (badR M k) l 0
    cases h : l.any (badR M k)
    · rw [h] at this; simp at this; simp [this]
    · rw [h] at this; simp at this; simp [this]
  rw [e]
  generalize idxP (badR M k) l 0 = x at *
  refine acall_of Tryd.func33 Tryd.ntmps33 rfl ?_
  simp only [List.length_cons, List.length_nil, List.cons_append, List.nil_append, List.replicate]
  repeat' first | refine aw_N [] trivial trivial ?_ | refine aw_cond rfl (fun h => ?_) (fun h => ?_)
  refine awl_cons rfl (opq_call rfl rfl rfl (hi.mono fun r τ ⟨e1, e2⟩ => ?_))
  subst e1
  refine AWL.less e2 ?_
  refine awl_run' [] ?_
  simp -implicitDefEqProofs
  repeat' first | refine aw_N [] trivial trivial ?_ | refine aw_cond rfl (fun h => ?_) (fun h => ?_)
  all_goals first | exact ⟨rfl, le_arS (by simp) (by simp) (by simp) (by simp)⟩ | trace_state
set_option maxHeartbeats 8000000 in
set_option maxRecDepth 100000 in
theorem awrong_ok (M : Nods) (fs : List (AV × AV)) (hfs : clM fs) (a c k : Int) (hk : 0 ≤ k ∧ k ≤ 1000000) (x : Nd) (hl : x.refs.length ≤ 1000000) :
    AC Tryd.prog 30 [ndA x, vi k] a (esK ndA M) fs c (vb (x.refs.any (badR M k))) (esK ndA M) fs c := by
  have hi := icontW_ok M fs hfs a c k hk x.refs hl
  have hnd : ndA x = .agg [vi x.k, .vsl (x.refs.map vi), .vsl (x.nums.map vi), vs x.text] := rfl
  rw [hnd]
  refine ac_in Tryd.func30 Tryd.ntmps30 rfl ?_
  repeat' first | refine aw_N [] trivial trivial ?_ | refine aw_cond rfl (fun h => ?_) (fun h => ?_)
  refine awl_cons rfl (opq_call rfl rfl rfl (hi.mono fun r τ ⟨e1, e2⟩ => ?_))
  subst e1
  refine AWL.less e2 ?_
  refine awl_run' [] ?_
  simp -implicitDefEqProofs
  repeat' first | refine aw_N [] trivial trivial ?_ | refine aw_cond rfl (fun h => ?_) (fun h => ?_)
  all_goals first | (simp [tupOf]; done) | trace_state
end Go.AL
/-! slices.Clone of numbers. -/
namespace Go.AL
open Go.Proofs
set_option linter.unusedSimpArgs false
set_option linter.unusedVariables false
variable {σ : ASt}
/-! ### slices.Clone -/
/-- A slice of one's own is there, under a number of its own; all else is as it was. -/
def ASt.withSl (σ : ASt) (k : Nat) (xs : List AV) (m : Nat) : ASt := { σ with sl := upd σ.sl k (some xs), next := m }
def NewSl (σ : ASt) (xs : List AV) (r : AV) (τ : ASt) : Prop := ∃ k m, σ.next ≤ k ∧ k < m ∧ r = .hsl k 0 xs.length ∧ τ = σ.withSl k xs m
theorem newSl_of {xs : List AV} {r : AV} {τ : ASt} (hok : σ.Ok) {k : Nat} (h1 : σ.next ≤ k) (h2 : k < τ.next) (hr : r = .hsl k 0 xs.length) (hb : ∀ i, σ.bx i ≠ none → τ.bx i = σ.bx i) (hm : ∀ i, σ.mp i ≠ none → τ.mp i = σ.mp i) (hs : ∀ i, σ.sl i ≠ none → τ.sl i = σ.sl i) (hk : τ.sl k = some xs) : ∃ τ', ASt.Le τ' τ ∧ NewSl σ xs r τ' :=
  ⟨σ.withSl k xs τ.next, {
    bx := fun i c e => by
      have e' : σ.bx i = some c := e
      rw [hb i (by rw [e']; simp), e']
    mp := fun i c e => by
      have e' : σ.mp i = some c := e
      rw [hm i (by rw [e']; simp), e']
    sl := fun i c e => by
      have e' : upd σ.sl k (some xs) i = some c := e
      by_cases hi : i = k
      · subst hi; rw [upd_same] at e'; rw [hk]; exact e'
      · rw [upd_ne _ _ hi] at e'
        rw [hs i (by rw [e']; simp), e']
    next := Nat.le_refl _ }, k, τ.next, h1, h2, hr, rfl⟩
theorem opq_append0a {P : Program} {R : AV → ASt → Prop} {o : Oper} {ρ : Operand → AV} {s x : Operand} {t el : TypeId} (ho : o.op = .call { callee := .builtin .append, args := #[s, x], argTypes := #[t, t] }) {b off k n : Nat} {g : Bool}
    (hs : ρ s = .hsl b off k) {a : Option Addr} {c2 : Nat} (hx : ρ x = .p (.slice a 0 c2)) (hel : telemT P t = some el) (hn : tsize P el = some (n, g)) (hr : R (.hsl b off k) σ) : OpQ P o ρ σ R := by
  have ht : P.underlying t = some (.slice el) := by
    unfold telemT at hel
    split at hel
    · rename_i h; rw [h]; simpa using hel
    · cases hel
  refine opq_v (s := fun e => Builtin.append_ #[t, t] o.type #[e s, e x]) (fun e => execOp_append e ho) _ hr fun G e w he hw => ?_
  have h1 := he s
  rw [hs] at h1
  have h2 := he x
  rw [hx] at h2
  have h3 : e x = .slice a 0 c2 := by
    generalize e x = v at h2
    cases h2; rfl
  rw [h3]
  generalize e s = v at h1
  cases h1 with
  | hsl _ _ _ β o s cap h hle => exact ⟨_, run_append0 ht hn (by omega) w, .hsl b off k β o s cap h hle⟩
  | hend _ _ a β o s cap h hle => exact ⟨_, run_append0 ht hn (by omega) w, .hend b off a β o s cap h hle⟩
  | hnil _ a h => exact ⟨_, run_append0 ht hn (by omega) w, .hnil b a h⟩
theorem Fin.open0 {R : AV → ASt → Prop} (h : R (.hsl σ.next 0 0) (σ.addSl [])) : Fin R (.p (.slice none 0 0)) σ := fun G w v hw hr => by
  cases hr
  obtain ⟨G', h1, h2, h3⟩ := new_nil hw w (Go.RowKit.Below.refl _ _) none
  exact ⟨_, G', _, h1, h2, h3, h⟩
theorem ACall.fin {P : Program} {f : FuncId} {args : List AV} {R : AV → ASt → Prop} (h : ACall P f args σ fun r τ => Fin R r τ) : ACall P f args σ R := fun G w vs hv hw => Calls.mono (h G w vs hv hw) fun e w' he => retOf_mono (fun v w' h => Outc.fin h) he
set_option maxHeartbeats 8000000 in
set_option maxRecDepth 100000 in
theorem iclone_ok (l : List Int) (hl : l.length ≤ 1000000) : ACall Tryd.prog 42 [.vsl (l.map vi)] σ fun r τ => NewSl σ (l.map vi) r τ := by
  refine acall_ok fun hok => ?_
  have hvl : (l.map vi).length = l.length := List.length_map _
  refine ACall.low (R := fun r τ => ∃ k, σ.next ≤ k ∧ k < τ.next ∧ r = .hsl k 0 l.length ∧ τ.bx = σ.bx ∧ τ.mp = σ.mp ∧ (∀ i, σ.sl i ≠ none → τ.sl i = σ.sl i) ∧ τ.sl k = some (l.map vi)) ?_ fun r τ ⟨k, h1, h2, h3, h4, h5, h6, h7⟩ => newSl_of hok h1 h2 (by rw [hvl]; exact h3) (fun i _ => by rw [h4]) (fun i _ => by rw [h5]) h6 h7
  have hns : ∀ i, σ.sl i ≠ none → i ≠ σ.next := fun i hi e => hi (by rw [e]; exact hok.sl _ (Nat.le_refl _))
  have hns1 : ∀ i, σ.sl i ≠ none → i ≠ σ.next + 1 := fun i hi e => hi (by rw [e]; exact hok.sl _ (Nat.le_succ _))
  cases l with
  | nil =>
    refine ACall.fin ?_
    refine acall_of Tryd.func42 Tryd.ntmps42 rfl ?_
    simp only [List.length_cons, List.length_nil, List.cons_append, List.nil_append, List.replicate, List.map_nil]
    refine aw_vsl0 0 rfl fun a cap => ?_
    simp only [List.set]
    cases a with
    | none =>
      repeat' first | refine aw_N [5] trivial trivial ?_ | refine aw_cond rfl (fun h => ?_) (fun h => ?_)
      refine Fin.open0 ⟨σ.next, Nat.le_refl _, by simp, rfl, rfl, rfl, fun i hi => ?_, by simp⟩
      simp [hns i hi]
    | some a =>
      repeat' first | refine aw_N [5] trivial trivial ?_ | refine aw_cond rfl (fun h => ?_) (fun h => ?_)
      refine awl_cons rfl (opq_append0a rfl (b := σ.next) (off := 0) (k := 0) rfl rfl tet33 ts3 ?_)
      refine awl_run' [] ?_
      simp -implicitDefEqProofs
      repeat' first | refine aw_N [] trivial trivial ?_ | refine aw_cond rfl (fun h => ?_) (fun h => ?_)
      refine Fin.of ⟨σ.next, Nat.le_refl _, by simp, rfl, rfl, rfl, fun i hi => ?_, by simp⟩
      simp [hns i hi]
  | cons x l =>
    refine acall_of Tryd.func42 Tryd.ntmps42 rfl ?_
    simp only [List.length_cons, List.length_nil, List.cons_append, List.nil_append, List.replicate]
    repeat' first | refine aw_N [5] trivial trivial ?_ | refine aw_cond rfl (fun h => ?_) (fun h => ?_)
    refine awl_append [] rfl rfl rfl (xs := []) (by simp) (by simp) rfl (by simp) te33 tet33 tz3 rfl (by simp) (fun y hy => by
      rcases List.mem_cons.1 hy with rfl | hy
      · exact ⟨rfl, rfl⟩
      · obtain ⟨_, _, rfl⟩ := List.mem_map.1 hy
        exact ⟨rfl, rfl⟩) (by simp at hl ⊢; omega) (by simp at hl ⊢; omega) ?_
    simp -implicitDefEqProofs
    repeat' first | refine aw_N [] trivial trivial ?_ | refine aw_cond rfl (fun h => ?_) (fun h => ?_)
    refine ⟨σ.next + 1, by omega, by simp, by simp [tupOf], rfl, rfl, fun i hi => ?_, by simp⟩
    simp [hns i hi, hns1 i hi]
theorem withSl_le {xs : List AV} {τ : ASt} {k : Nat} (hb : ∀ i, σ.bx i ≠ none → τ.bx i = σ.bx i) (hm : ∀ i, σ.mp i ≠ none → τ.mp i = σ.mp i) (hs : ∀ i, σ.sl i ≠ none → τ.sl i = σ.sl i) (hk : τ.sl k = some xs) : (σ.withSl k xs τ.next).Le τ where
  bx := fun i c e => by
    have e' : σ.bx i = some c := e
    rw [hb i (by rw [e']; simp), e']
  mp := fun i c e => by
    have e' : σ.mp i = some c := e
    rw [hm i (by rw [e']; simp), e']
  sl := fun i c e => by
    have e' : upd σ.sl k (some xs) i = some c := e
    by_cases hi : i = k
    · subst hi; rw [upd_same] at e'; rw [hk]; exact e'
    · rw [upd_ne _ _ hi] at e'
      rw [hs i (by rw [e']; simp), e']
  next := Nat.le_refl _
/-- The number that a clone gets. -/
def cK (σ : ASt) (l : List Int) : Nat := if l = [] then σ.next else σ.next + 1
def ClR (σ : ASt) (l : List Int) (r : AV) (τ : ASt) : Prop := τ.next = cK σ l + 1 ∧ r = .hsl (cK σ l) 0 l.length ∧ τ.bx = σ.bx ∧ τ.mp = σ.mp ∧ (∀ i, σ.sl i ≠ none → τ.sl i = σ.sl i) ∧ τ.sl (cK σ l) = some (l.map vi)
set_option maxHeartbeats 8000000 in
set_option maxRecDepth 100000 in
theorem iclone_at (l : List Int) (hl : l.length ≤ 1000000) : ACall Tryd.prog 42 [.vsl (l.map vi)] σ fun r τ => r = .hsl (cK σ l) 0 l.length ∧ τ = σ.withSl (cK σ l) (l.map vi) (cK σ l + 1) := by
  refine acall_ok fun hok => ?_
  have hvl : (l.map vi).length = l.length := List.length_map _
  refine ACall.low (R := fun r τ => ClR σ l r τ) ?_ fun r τ ⟨h2, h3, h4, h5, h6, h7⟩ => by
    exact ⟨σ.withSl (cK σ l) (l.map vi) (cK σ l + 1), by rw [← h2]; exact withSl_le (fun i _ => by rw [h4]) (fun i _ => by rw [h5]) h6 h7, h3, rfl⟩
  have hns : ∀ i, σ.sl i ≠ none → i ≠ σ.next := fun i hi e => hi (by rw [e]; exact hok.sl _ (Nat.le_refl _))
  have hns1 : ∀ i, σ.sl i ≠ none → i ≠ σ.next + 1 := fun i hi e => hi (by rw [e]; exact hok.sl _ (Nat.le_succ _))
  cases l with
  | nil =>
    refine ACall.fin ?_
    refine acall_of Tryd.func42 Tryd.ntmps42 rfl ?_
    simp only [List.length_cons, List.length_nil, List.cons_append, List.nil_append, List.replicate, List.map_nil]
    refine aw_vsl0 0 rfl fun a cap => ?_
    simp only [List.set]
    cases a with
    | none =>
      repeat' first | refine aw_N [5] trivial trivial ?_ | refine aw_cond rfl (fun h => ?_) (fun h => ?_)
      refine Fin.open0 ⟨by simp [cK], by simp [cK], rfl, rfl, fun i hi => ?_, by simp [cK]⟩
      simp [hns i hi]
    | some a =>
      repeat' first | refine aw_N [5] trivial trivial ?_ | refine aw_cond rfl (fun h => ?_) (fun h => ?_)
      refine awl_cons rfl (opq_append0a rfl (b := σ.next) (off := 0) (k := 0) rfl rfl tet33 ts3 ?_)
      refine awl_run' [] ?_
      simp -implicitDefEqProofs
      repeat' first | refine aw_N [] trivial trivial ?_ | refine aw_cond rfl (fun h => ?_) (fun h => ?_)
      refine Fin.of ⟨by simp [cK], by simp [cK], rfl, rfl, fun i hi => ?_, by simp [cK]⟩
      simp [hns i hi]
  | cons x l =>
    refine acall_of Tryd.func42 Tryd.ntmps42 rfl ?_
    simp only [List.length_cons, List.length_nil, List.cons_append, List.nil_append, List.replicate]
    repeat' first | refine aw_N [5] trivial trivial ?_ | refine aw_cond rfl (fun h => ?_) (fun h => ?_)
    refine awl_append [] rfl rfl rfl (xs := []) (by simp) (by simp) rfl (by simp) te33 tet33 tz3 rfl (by simp) (fun y hy => by
      rcases List.mem_cons.1 hy with rfl | hy
      · exact ⟨rfl, rfl⟩
      · obtain ⟨_, _, rfl⟩ := List.mem_map.1 hy
        exact ⟨rfl, rfl⟩) (by simp at hl ⊢; omega) (by simp at hl ⊢; omega) ?_
    simp -implicitDefEqProofs
    repeat' first | refine aw_N [] trivial trivial ?_ | refine aw_cond rfl (fun h => ?_) (fun h => ?_)
    refine ⟨by simp [cK], by simp [cK, tupOf], rfl, rfl, fun i hi => ?_, by simp [cK]⟩
    simp [hns i hi, hns1 i hi]
end Go.AL
/-! Contract: arena's Node.own. -/
namespace Go.AL
open Go.Proofs
set_option linter.unusedSimpArgs false
set_option linter.unusedVariables false
set_option maxHeartbeats 8000000 in
set_option maxRecDepth 100000 in
theorem aown_ok (σ : ASt) (x : Nd) (hr : x.refs.length ≤ 1000000) (hn : x.nums.length ≤ 1000000) :
    ACall Tryd.prog 28 [ndA x] σ fun r τ => ∃ k1 k2, σ.next ≤ k1 ∧ k1 < k2 ∧ k2 < τ.next ∧ r = .agg [vi x.k, .hsl k1 0 x.refs.length, .hsl k2 0 x.nums.length, vs x.text] ∧ τ.mp = σ.mp ∧ (∀ i, σ.bx i ≠ none → τ.bx i = σ.bx i) ∧ (∀ i, σ.sl i ≠ none → τ.sl i = σ.sl i) ∧ τ.sl k1 = some (x.refs.map vi) ∧ τ.sl k2 = some (x.nums.map vi) := by
  have hnd : ndA x = .agg [vi x.k, .vsl (x.refs.map vi), .vsl (x.nums.map vi), vs x.text] := rfl
  rw [hnd]
  refine acall_ok fun hok => ?_
  refine acall_of Tryd.func28 Tryd.ntmps28 rfl ?_
  simp only [List.length_cons, List.length_nil, List.cons_append, List.nil_append, List.replicate]
  refine aw_seq ?_
  refine aw_N [1, 2] trivial trivial ?_
  refine aw_seq ?_
  refine aw_zrun [1, 2] [42] draws (by decide +kernel) (by decide +kernel) ?_
  simp -implicitDefEqProofs
  repeat first | refine zcurL (by decide +kernel) ?_ | refine zcurH (by decide +kernel) ?_ | refine zcurL' (by decide +kernel) ?_ | refine zcurH' (by decide +kernel) ?_
  refine zl_acall (by simp) rfl rfl rfl (by kernel_rfl) rfl (iclone_at x.refs (by omega)) ?_
  simp -implicitDefEqProofs [ASt.withSl]
  repeat first | refine zcurL (by decide +kernel) ?_ | refine zcurH (by decide +kernel) ?_ | refine zcurL' (by decide +kernel) ?_ | refine zcurH' (by decide +kernel) ?_
  refine zl_acall (by simp) rfl rfl rfl (by kernel_rfl) rfl (iclone_at x.nums (by omega)) ?_
  simp -implicitDefEqProofs [ASt.withSl]
  repeat first | refine zcurL (by decide +kernel) ?_ | refine zcurH (by decide +kernel) ?_ | refine zcurL' (by decide +kernel) ?_ | refine zcurH' (by decide +kernel) ?_
  refine ⟨by decide +kernel, ?_⟩
  repeat first | refine zcurL (by decide +kernel) ?_ | refine zcurH (by decide +kernel) ?_ | refine zcurL' (by decide +kernel) ?_ | refine zcurH' (by decide +kernel) ?_
  repeat' first | refine aw_W [1, 2] trivial trivial ?_ | refine aw_cond rfl (fun h => ?_) (fun h => ?_)
  generalize hσ1 : (⟨upd (upd σ.bx σ.next (some [vi x.k, .vsl (x.refs.map vi), .vsl (x.nums.map vi), vs x.text])) (σ.next + 1) (some [.p (.int .i64 0), .p (.slice none 0 0), .p (.slice none 0 0), .p (.string ⟨#[]⟩)]), σ.mp, σ.sl, σ.next + 1 + 1⟩ : ASt) = σ1
  have hc1 : cK σ1 x.refs = σ.next + 2 ∨ cK σ1 x.refs = σ.next + 3 := by
    rw [← hσ1]; unfold cK; split
    · exact .inl rfl
    · exact .inr rfl
  generalize cK σ1 x.refs = c1 at *
  generalize hσ2 : (⟨upd (upd σ.bx σ.next (some [vi x.k, .vsl (x.refs.map vi), .vsl (x.nums.map vi), vs x.text])) (σ.next + 1) (some [.p (.int .i64 0), .p (.slice none 0 0), .p (.slice none 0 0), .p (.string ⟨#[]⟩)]), σ.mp, upd σ.sl c1 (some (x.refs.map vi)), c1 + 1⟩ : ASt) = σ2
  have hc2 : cK σ2 x.nums = c1 + 1 ∨ cK σ2 x.nums = c1 + 2 := by
    rw [← hσ2]; unfold cK; split
    · exact .inl rfl
    · exact .inr rfl
  generalize cK σ2 x.nums = c2 at *
  have n12 : ¬ c1 = c2 := by omega
  have nb : ∀ i, σ.bx i ≠ none → i ≠ σ.next ∧ i ≠ σ.next + 1 := fun i hi => ⟨fun e => hi (by rw [e]; exact hok.bx _ (Nat.le_refl _)), fun e => hi (by rw [e]; exact hok.bx _ (Nat.le_succ _))⟩
  have ns : ∀ i, σ.sl i ≠ none → i < σ.next := fun i hi => by
    rcases Nat.lt_or_ge i σ.next with h | h
    · exact h
    · exact (hi (hok.sl i h)).elim
  refine ⟨c1, by omega, c2, by omega, by simp, by simp [tupOf], rfl, fun i hi => ?_, fun i hi => ?_, by simp [upd, n12], by simp [upd]⟩
  · obtain ⟨a1, a2⟩ := nb i hi
    simp [upd, a1, a2]
  · have a3 := ns i hi
    have a1 : ¬ i = c1 := by omega
    have a2 : ¬ i = c2 := by omega
    simp [upd, a1, a2]
end Go.AL
/-! Contracts: arena's Len, Get. -/
namespace Go.AL
open Go.Proofs
set_option linter.unusedSimpArgs false
set_option linter.unusedVariables false
set_option maxHeartbeats 8000000 in
set_option maxRecDepth 100000 in
theorem agetE_ok (M : Nods) (fs : List (AV × AV)) (hfs : clM fs) (a c h : Int) (hg : gotK M h = none) : AC Tryd.prog 15 [vi h] a (esK ndA M) fs c (.tup [nd0, vi 4]) (esK ndA M) fs c := by
  have hh := ahas_ok M fs a c h
  rw [hg] at hh
  refine ac_in Tryd.func15 Tryd.ntmps15 rfl ?_
  repeat' first | refine aw_N [4] trivial trivial ?_ | refine aw_cond rfl (fun h => ?_) (fun h => ?_)
  refine awl_ar [4] (m1 := 1) (m2 := 2) rfl rfl rfl (by kernel_rfl) hh rfl (by simp) (by simp) (cl_esN M) hfs (cl_esN M) hfs ⟨by simp [upd], by simp, by simp, by omega, by omega, by omega, by simp, by simp [upd], by simp [upd]⟩ ?_
  simp -implicitDefEqProofs [ASt.ar]
  repeat' first | refine aw_N [4] trivial trivial ?_ | refine aw_cond rfl (fun h => ?_) (fun h => ?_)
  all_goals first | (simp [tupOf, nd0, upd]; done) | trace_state
set_option maxHeartbeats 8000000 in
set_option maxRecDepth 100000 in
theorem alen_ok (M : Nods) (fs : List (AV × AV)) (a c : Int) : AC Tryd.prog 13 [] a (esK ndA M) fs c (vi (M.length : Nat)) (esK ndA M) fs c := by
  have h1 := isIt_esK ndA M
  have h2 := esK_len ndA M
  refine ac_in Tryd.func13 Tryd.ntmps13 rfl ?_
  repeat' first | refine aw_N [] (And.intro @h1 @h2) trivial ?_ | refine aw_cond rfl (fun h => ?_) (fun h => ?_)
  all_goals first | (simp [tupOf, h2]; done) | trace_state
set_option maxHeartbeats 8000000 in
set_option maxRecDepth 100000 in
theorem aget_ok (M : Nods) (fs : List (AV × AV)) (hfs : clM fs) (a c h : Int) (x : Nd) (hg : gotK M h = some x) (hx : NdOk x) : AC Tryd.prog 15 [vi h] a (esK ndA M) fs c (.tup [ndA x, vi 0]) (esK ndA M) fs c := by
  have hh := ahas_ok M fs a c h
  rw [hg] at hh
  have hrl := hx.rl
  have hnl := hx.nl
  refine ac_in Tryd.func15 Tryd.ntmps15 rfl ?_
  repeat' first | refine aw_N [4] trivial trivial ?_ | refine aw_cond rfl (fun h => ?_) (fun h => ?_)
  refine awl_ar [4] (m1 := 1) (m2 := 2) rfl rfl rfl (by kernel_rfl) hh rfl (by simp) (by simp) (cl_esN M) hfs (cl_esN M) hfs ⟨by simp [upd], by simp, by simp, by omega, by omega, by omega, by simp, by simp [upd], by simp [upd]⟩ ?_
  simp -implicitDefEqProofs [ASt.ar]
  repeat' first | refine aw_N [4] trivial trivial ?_ | refine aw_cond rfl (fun h => ?_) (fun h => ?_)
  refine awl_lookupW [4] rfl rfl tmN rfl (es := esK ndA M) (by simp [upd]) rfl (find_esK ndA ndZ .i64 h M 0) (x := ngot (gotK M h)) (ngot_some M h ndZ) (ngot_none tz40 M h ndZ) ?_
  rw [hg]
  simp -implicitDefEqProofs [show ngot (some x) = ndA x from rfl]
  refine awl_cons rfl (opq_call rfl rfl rfl ((aown_ok _ x (by omega) (by omega)).mono fun r τ hq => ?_))
  obtain ⟨k1, k2, q1, q2, q3, rfl, q5, q6, q7, q8, q9⟩ := hq
  have b0 := q6 0 (by simp [upd])
  have b3 := q6 3 (by simp [upd])
  simp [upd] at b0 b3
  have m1 := congrFun q5 1
  have m2 := congrFun q5 2
  simp [upd] at m1 m2
  have n12 : ¬ k2 = k1 := by omega
  have n21 : ¬ k1 = k2 := by omega
  refine AWL.less (τ := ⟨fun i => if i = 0 then some [.p (.int .i64 a), .map 1, .map 2, .p (.int .i64 c)] else if i = 3 then some [.p (.int .i64 0), .p (.slice none 0 0), .p (.slice none 0 0), .p (.string ⟨#[]⟩)] else none, fun i => if i = 1 then some (esK ndA M) else if i = 2 then some fs else none, fun i => if i = k1 then some (x.refs.map vi) else if i = k2 then some (x.nums.map vi) else none, τ.next⟩) {
    bx := fun i cs e => by
      dsimp only at e
      split at e
      · rename_i hi; subst hi; rw [b0]; exact e
      · split at e
        · rename_i hi; subst hi; rw [b3]; exact e
        · cases e
    mp := fun i cs e => by
      dsimp only at e
      split at e
      · rename_i hi; subst hi; rw [m1]; exact e
      · split at e
        · rename_i hi; subst hi; rw [m2]; exact e
        · cases e
    sl := fun i cs e => by
      dsimp only at e
      split at e
      · rename_i hi; subst hi; rw [q8]; exact e
      · split at e
        · rename_i hi; subst hi; rw [q9]; exact e
        · cases e
    next := Nat.le_refl _ } ?_
  refine awl_run' [4] ?_
  simp -implicitDefEqProofs
  repeat' first | refine aw_M [4] trivial trivial ?_ | refine aw_cond rfl (fun h => ?_) (fun h => ?_)
  refine ⟨by simp [tupOf, clo, clo1, clo0, n12, n21, List.take_of_length_le, ndA], by simp [upd, ASt.noSl], by simp [ASt.noSl], by simp [ASt.noSl]⟩
end Go.AL
/-! Contracts: Sweep's closure, and whether some have it. -/
namespace Go.AL
open Go.Proofs
set_option linter.unusedSimpArgs false
set_option linter.unusedVariables false
/-- A root that is none. -/
def badS (M : Nods) (x : Int) : Bool := !decide (x = 0) && !(gotK M x).isSome
def fnS : AV := .fn (.func 34) [] [.vel [.ptr 0 0] 0 0]
set_option maxHeartbeats 8000000 in
set_option maxRecDepth 100000 in
theorem sweep1_ok (M : Nods) (fs : List (AV × AV)) (hfs : clM fs) (a c x : Int) :
    ACall Tryd.prog 34 [vi x, .vel [.ptr 0 0] 0 0] (arS a (esK ndA M) fs c) fun r τ => r = vb (!decide (x = 0) && !(gotK M x).isSome) ∧ (arS a (esK ndA M) fs c).Le τ := by
  have hh := ahas_ok M fs a c x
  refine acall_of Tryd.func34 Tryd.ntmps34 rfl ?_
  simp only [List.length_cons, List.length_nil, List.cons_append, List.nil_append, List.replicate]
  obtain ⟨B, hB⟩ : ∃ B, (!decide (x = 0) && !(gotK M x).isSome) = B := ⟨_, rfl⟩
  rw [hB]
  by_cases h0 : x = 0
  · have hB : B = false := by rw [← hB]; simp [h0]
    subst hB
    repeat' first | refine aw_N [] @h0 trivial ?_ | refine aw_cond rfl (fun h => ?_) (fun h => ?_)
    all_goals first | exact ⟨rfl, le_arS (by simp) (by simp) (by simp) (by simp)⟩ | trace_state
  · cases hg : (gotK M x).isSome with
    | true =>
      rw [hg] at hh hB
      have hB : B = false := by rw [← hB]; simp
      subst hB
      repeat' first | refine aw_N [] @h0 trivial ?_ | refine aw_cond rfl (fun h => ?_) (fun h => ?_)
      refine awl_unopt 7 (c := .ptr 0 0) rfl ?_
      refine awl_unopt 8 (c := vi x) rfl ?_
      simp -implicitDefEqProofs only [List.set]
      refine awl_ar [] rfl rfl rfl (by kernel_rfl) hh rfl (by simp) (by simp) (cl_esN M) hfs (cl_esN M) hfs (at_arS _ _ _ _) ?_
      simp -implicitDefEqProofs
      repeat' first | refine aw_N [] trivial trivial ?_ | refine aw_cond rfl (fun h => ?_) (fun h => ?_)
      all_goals first | exact ⟨rfl, le_arS (by simp) (by simp) (by simp) (by simp)⟩ | trace_state
    | false =>
      rw [hg] at hh hB
      have hB : B = true := by rw [← hB]; simp [h0]
      subst hB
      repeat' first | refine aw_N [] @h0 trivial ?_ | refine aw_cond rfl (fun h => ?_) (fun h => ?_)
      refine awl_unopt 7 (c := .ptr 0 0) rfl ?_
      refine awl_unopt 8 (c := vi x) rfl ?_
      simp -implicitDefEqProofs only [List.set]
      refine awl_ar [] rfl rfl rfl (by kernel_rfl) hh rfl (by simp) (by simp) (cl_esN M) hfs (cl_esN M) hfs (at_arS _ _ _ _) ?_
      simp -implicitDefEqProofs
      repeat' first | refine aw_N [] trivial trivial ?_ | refine aw_cond rfl (fun h => ?_) (fun h => ?_)
      all_goals first | exact ⟨rfl, le_arS (by simp) (by simp) (by simp) (by simp)⟩ | trace_state
def IsI (M : Nods) (fs : List (AV × AV)) (a c : Int) (l : List Int) (q : Nat) (fr : List AV) (σ : ASt) : Prop := ∃ i : Nat, i + q = l.length ∧ idxP (badS M) (l.drop i) i = idxP (badS M) l 0 ∧ σ = arS a (esK ndA M) fs c ∧ fr = frm 19 [(0, .vsl (l.map vi)), (1, fnS), (7, vi (l.length : Nat)), (8, vi (i : Nat))]
set_option maxHeartbeats 8000000 in
set_option maxRecDepth 100000 in
theorem iindexS_ok (M : Nods) (fs : List (AV × AV)) (hfs : clM fs) (a c : Int) (l : List Int) (hl : l.length ≤ 1000000) :
    ACall Tryd.prog 46 [.vsl (l.map vi), fnS] (arS a (esK ndA M) fs c) fun r τ => r = vi (idxP (badS M) l 0) ∧ (arS a (esK ndA M) fs c).Le τ := by
  have hlv : (l.map vi).length = l.length := List.length_map _
  refine acall_of Tryd.func46 Tryd.ntmps46 rfl ?_
  simp only [List.length_cons, List.length_nil, List.cons_append, List.nil_append, List.replicate]
  repeat' first | refine aw_N [] trivial trivial ?_ | refine aw_cond rfl (fun h => ?_) (fun h => ?_)
  refine aw_loopW [0, 1, 7, 8] (fun q fr σ => IsI M fs a c l q fr σ) l.length ?_ ?_
  · exact ⟨arS a (esK ndA M) fs c, le_arS (by simp) (by simp) (by simp) (by simp), 0, by omega, by simp, rfl, by simp⟩
  · rintro q fr σ ⟨i, hi, hx, rfl, rfl⟩
    simp -implicitDefEqProofs
    by_cases hlt : i < l.length
    · have hlti : (i : Int) < l.length := by omega
      obtain ⟨t, ht⟩ : ∃ t, l[i] = t := ⟨_, rfl⟩
      have wi : IntKind.i64.wrap ((i : Int) + 1) = (i : Int) + 1 := wrap_id (by omega) (by omega)
      rw [List.drop_eq_getElem_cons hlt, ht, idxP] at hx
      have hw := sweep1_ok M fs hfs a c t
      have hb : (!decide (t = 0) && !(gotK M t).isSome) = badS M t := rfl
      rw [hb] at hw
      repeat' first | refine aw_N [] (And.intro @hlt (And.intro @hlti (And.intro @ht @hlv))) trivial ?_ | refine aw_cond rfl (fun h => ?_) (fun h => ?_)
      refine awl_cons rfl (opq_call rfl rfl rfl (hw.mono fun r τ ⟨e1, e2⟩ => ?_))
      subst e1
      refine AWL.less e2 ?_
      cases hv : badS M t with
      | true =>
        rw [hv, if_pos rfl] at hx
        rw [← hx]
        refine awl_run' [] ?_
        simp -implicitDefEqProofs
        repeat' first | refine aw_N [] trivial trivial ?_ | refine aw_cond rfl (fun h => ?_) (fun h => ?_)
        all_goals first | exact ⟨rfl, le_arS (by simp) (by simp) (by simp) (by simp)⟩ | trace_state
      | false =>
        rw [hv, if_neg (by simp)] at hx
        refine awl_run' [] ?_
        simp -implicitDefEqProofs
        repeat' first | refine aw_N [] @wi trivial ?_ | refine aw_cond rfl (fun h => ?_) (fun h => ?_)
        exact ⟨q - 1, by omega, arS a (esK ndA M) fs c, le_arS (by simp) (by simp) (by simp) (by simp), i + 1, by omega, hx, rfl, by simp⟩
    · have hlti : ¬ (i : Int) < l.length := by omega
      rw [List.drop_eq_nil_of_le (by omega), idxP] at hx
      rw [← hx]
      repeat' first | refine aw_N [] @hlti trivial ?_ | refine aw_cond rfl (fun h => ?_) (fun h => ?_)
      all_goals first | exact ⟨rfl, le_arS (by simp) (by simp) (by simp) (by simp)⟩ | trace_state
set_option maxHeartbeats 8000000 in
set_option maxRecDepth 100000 in
theorem icontS_ok (M : Nods) (fs : List (AV × AV)) (hfs : clM fs) (a c : Int) (l : List Int) (hl : l.length ≤ 1000000) :
    ACall Tryd.prog 33 [.vsl (l.map vi), fnS] (arS a (esK ndA M) fs c) fun r τ => r = vb (l.any (badS M)) ∧ (arS a (esK ndA M) fs c).Le τ := by
  have hi := iindexS_ok M fs hfs a c l hl
  have e : l.any (badS M) = decide (0 ≤ idxP (badS M) l 0) := by
    have := idxP_iff (badS M) l 0
    cases h : l.any (badS M)
    · rw [h] at this; simp at this; simp [this]
    · rw [h] at this; simp at this; simp [this]
  rw [e]
  generalize idxP (badS M) l 0 = x at *
  refine acall_of Tryd.func33 Tryd.ntmps33 rfl ?_
  simp only [List.length_cons, List.length_nil, List.cons_append, List.nil_append, List.replicate]
  repeat' first | refine aw_N [] trivial trivial ?_ | refine aw_cond rfl (fun h => ?_) (fun h => ?_)
  refine awl_cons rfl (opq_call rfl rfl rfl (hi.mono fun r τ ⟨e1, e2⟩ => ?_))
  subst e1
  refine AWL.less e2 ?_
  refine awl_run' [] ?_
  simp -implicitDefEqProofs
  repeat' first | refine aw_N [] trivial trivial ?_ | refine aw_cond rfl (fun h => ?_) (fun h => ?_)
  all_goals first | exact ⟨rfl, le_arS (by simp) (by simp) (by simp) (by simp)⟩ | trace_state
end Go.AL
/-! Memory of one's own, lent to a depth: a pointer to a variable of slices, of maps, to a pure function with a plain result. -/
namespace Go.AL
open Go.RowKit (Below)
set_option linter.unusedVariables false
set_option linter.unusedSimpArgs false
variable {P : Program} {σ : ASt} {R : AV → ASt → Prop} {D : List Deferred} {Q : Exit → List AV → ASt → Prop} {fr : List AV} {ops : Array Oper}
end Go.AL
/-! Contract: gridironref09's Has, over a closed arena. -/
namespace Go.AL
open Go.Proofs
set_option linter.unusedSimpArgs false
set_option linter.unusedVariables false
end Go.AL
/-! Contract: gridironref09.Ints. -/
namespace Go.AL
open Go.Proofs
set_option linter.unusedSimpArgs false
set_option linter.unusedVariables false
set_option maxHeartbeats 8000000 in
set_option maxRecDepth 100000 in
theorem rints_ok (l l2 : List Int) (h : l.length ≤ 1000000) (h2 : l2.length ≤ 1000000) : APure Tryd.prog 10 [.vsl (l.map vi), .vsl (l2.map vi)] (vb (decide (l = l2))) := by
  have hvl : (l.map vi).length = l.length := List.length_map _
  have hvl2 : (l2.map vi).length = l2.length := List.length_map _
  by_cases hlen : l.length = l2.length
  · have hleni : (l.length : Int) = l2.length := by omega
    refine apure_in Tryd.func10 Tryd.ntmps10 rfl ?_
    repeat' first | refine aw_W [] (And.intro @hlen (And.intro @hleni (And.intro @hvl @hvl2))) trivial ?_ | refine aw_cond rfl (fun h => ?_) (fun h => ?_)
    refine aw_loopW [0, 1, 5] (fun q fr σ => ∃ i M : Nat, i + q = l.length ∧ l.take i = l2.take i ∧ σ = mkSt [] [] M ∧ fr = frm 26 [(0, .vsl (l.map vi)), (1, .vsl (l2.map vi)), (5, vi (i : Nat))]) l.length ?_ ?_
    · exact ⟨mkSt [] [] 0, le_mkSt (by simp) (by simp) (by simp [σ0]), 0, 0, by omega, by simp, rfl, by simp⟩
    · rintro q fr σ ⟨i, M, hi, hx, rfl, rfl⟩
      simp -implicitDefEqProofs
      by_cases hlt : i < l.length
      · have hlti : (i : Int) < l.length := by omega
        have hlt2 : i < l2.length := by omega
        have hlti2 : (i : Int) < l2.length := by omega
        obtain ⟨t, ht⟩ : ∃ t, l[i] = t := ⟨_, rfl⟩
        have hgt : l[i]? = some t := by rw [List.getElem?_eq_getElem hlt, ht]
        obtain ⟨t2, ht2⟩ : ∃ t, l2[i] = t := ⟨_, rfl⟩
        have hgt2 : l2[i]? = some t2 := by rw [List.getElem?_eq_getElem hlt2, ht2]
        have wi : IntKind.i64.wrap ((i : Int) + 1) = (i : Int) + 1 := wrap_id (by omega) (by omega)
        by_cases hv : t = t2
        · have hx1 : l.take (i + 1) = l2.take (i + 1) := by rw [List.take_add_one, List.take_add_one, hx, hgt, hgt2, hv]
          repeat' first | refine aw_W [] (And.intro @hlt (And.intro @hlti (And.intro @hlt2 (And.intro @hlti2 (And.intro @ht (And.intro @ht2 (And.intro @hgt (And.intro @hgt2 (And.intro @hvl (And.intro @hvl2 (And.intro @wi @hv))))))))))) trivial ?_ | refine aw_cond rfl (fun h => ?_) (fun h => ?_)
          all_goals first | exact ⟨q - 1, by omega, mkSt [] [] M, le_mkSt (by simp) (by simp) (by simp), i + 1, by omega, hx1, ⟨M, rfl⟩, by simp⟩ | trace_state
        · have hne : ¬ l = l2 := fun e => by rw [e, hgt2] at hgt; exact hv (Option.some.inj hgt).symm
          rw [decide_eq_false hne]
          repeat' first | refine aw_W [] (And.intro @hlt (And.intro @hlti (And.intro @hlt2 (And.intro @hlti2 (And.intro @ht (And.intro @ht2 (And.intro @hgt (And.intro @hgt2 (And.intro @hvl (And.intro @hvl2 (And.intro @wi @hv))))))))))) trivial ?_ | refine aw_cond rfl (fun h => ?_) (fun h => ?_)
          all_goals first | rfl | (simp [tupOf]; done) | trace_state
      · have hlti : ¬ (i : Int) < l.length := by omega
        rw [List.take_of_length_le (by omega), List.take_of_length_le (by omega)] at hx
        rw [decide_eq_true hx]
        repeat' first | refine aw_W [] (And.intro @hlti @hvl) trivial ?_ | refine aw_cond rfl (fun h => ?_) (fun h => ?_)
        all_goals first | rfl | (simp [tupOf]; done) | trace_state
  · have hne : ¬ l = l2 := fun e => hlen (by rw [e])
    have hleni : ¬ (l.length : Int) = l2.length := by omega
    rw [decide_eq_false hne]
    refine apure_in Tryd.func10 Tryd.ntmps10 rfl ?_
    repeat' first | refine aw_W [] (And.intro @hlen (And.intro @hleni (And.intro @hvl @hvl2))) trivial ?_ | refine aw_cond rfl (fun h => ?_) (fun h => ?_)
    all_goals first | rfl | (simp [tupOf]; done) | trace_state
end Go.AL
/-! Contract: gridironref09.Same. -/
namespace Go.AL
open Go.Proofs
set_option linter.unusedSimpArgs false
set_option linter.unusedVariables false
end Go.AL
/-! Contract: gridironref09's Find. -/
namespace Go.AL
open Go.Proofs
set_option linter.unusedSimpArgs false
set_option linter.unusedVariables false
/-- The handle, from i on, of a live node that is x; 0: there is none. -/
def findR (x : Nd) : List Nd → List Bool → Nat → Int
  | y :: nds, b :: is, i => if b = true ∧ y = x then (i : Int) else findR x nds is (i + 1)
  | _, _, _ => 0
structure NdL (x : Nd) : Prop where
  r : x.refs.length ≤ 1000000
  n : x.nums.length ≤ 1000000
end Go.AL
