/- Parts of the proof of ArenaStays: the logic, contracts, plain laws. -/
import Derived.Test.YtofopejmidlceaaDoorZArenaStays14
/-! Contract: arena's batch.put. -/
namespace Go.AL
open Go.Proofs
set_option linter.unusedSimpArgs false
set_option linter.unusedVariables false
def lkN : List (Nat × List AV) → Nat → Option (List AV)
  | [], _ => none
  | (k, v) :: l, i => if i = k then some v else lkN l i
@[simp] theorem lkN_nil (i : Nat) : lkN [] i = none := rfl
@[simp] theorem lkN_cons (k : Nat) (v : List AV) (l : List (Nat × List AV)) (i : Nat) : lkN ((k, v) :: l) i = if i = k then some v else lkN l i := rfl
theorem lkN_mem : ∀ {l : List (Nat × List AV)} {b : Nat} {c : List AV}, lkN l b = some c → (b, c) ∈ l
  | [], _, _, h => by cases h
  | (x, y) :: l, b, c, h => by
    rw [lkN_cons] at h
    split at h
    · rename_i hb
      obtain rfl := Option.some.inj h
      obtain rfl := hb
      exact List.mem_cons_self
    · exact List.mem_cons_of_mem _ (lkN_mem h)
/-- An arena, and some boxes and slices beside it. -/
def arG (a : Int) (es fs : List (AV × AV)) (c : Int) (bs ss : List (Nat × List AV)) (m : Nat) : ASt := ⟨fun i => if i = 0 then some [.p (.int .i64 a), .map 1, .map 2, .p (.int .i64 c)] else lkN bs i, fun i => if i = 1 then some es else if i = 2 then some fs else none, fun i => lkN ss i, m⟩
section
variable (a : Int) (es fs : List (AV × AV)) (c : Int) (bs ss : List (Nat × List AV)) (m i : Nat)
@[simp] theorem arG_bx : (arG a es fs c bs ss m).bx i = if i = 0 then some [.p (.int .i64 a), .map 1, .map 2, .p (.int .i64 c)] else lkN bs i := rfl
@[simp] theorem arG_mp : (arG a es fs c bs ss m).mp i = if i = 1 then some es else if i = 2 then some fs else none := rfl
@[simp] theorem arG_sl : (arG a es fs c bs ss m).sl i = lkN ss i := rfl
@[simp] theorem arG_next : (arG a es fs c bs ss m).next = m := rfl
end
theorem lkN_lo {bs : List (Nat × List AV)} {i : Nat} (h : ∀ p ∈ bs, i < p.1) : lkN bs i = none := by
  cases hq : lkN bs i with
  | none => rfl
  | some c => have := h _ (lkN_mem hq); simp at this
theorem le_arG {a : Int} {es fs : List (AV × AV)} {c : Int} {bs ss : List (Nat × List AV)} {m : Nat} {σ : ASt} (h1 : σ.bx 0 = some [.p (.int .i64 a), .map 1, .map 2, .p (.int .i64 c)]) (h2 : σ.mp 1 = some es) (h3 : σ.mp 2 = some fs) (h4 : ∀ p ∈ bs, σ.bx p.1 = some p.2) (h5 : ∀ p ∈ ss, σ.sl p.1 = some p.2) (h6 : σ.next ≤ m) : (arG a es fs c bs ss m).Le σ where
  bx := fun i cs e => by
    simp only [arG_bx] at e
    split at e
    · rename_i hi; subst hi; rw [h1]; exact e
    · exact h4 _ (lkN_mem e)
  mp := fun i cs e => by
    simp only [arG_mp] at e
    split at e
    · rename_i hi; subst hi; rw [h2]; exact e
    · split at e
      · rename_i hi; subst hi; rw [h3]; exact e
      · cases e
  sl := fun i cs e => h5 _ (lkN_mem e)
  next := h6
theorem at_arG {a : Int} {es fs : List (AV × AV)} {c : Int} {bs ss : List (Nat × List AV)} {m : Nat} (h1 : ∀ p ∈ bs, 2 < p.1) (h2 : ∀ p ∈ ss, 2 < p.1) : ArAt (arG a es fs c bs ss m) 0 1 2 a es fs c := by
  have b1 : lkN bs 1 = none := lkN_lo fun p hp => by have := h1 p hp; omega
  have b2 : lkN bs 2 = none := lkN_lo fun p hp => by have := h1 p hp; omega
  have s0 : lkN ss 0 = none := lkN_lo fun p hp => by have := h2 p hp; omega
  have s1 : lkN ss 1 = none := lkN_lo fun p hp => by have := h2 p hp; omega
  have s2 : lkN ss 2 = none := lkN_lo fun p hp => by have := h2 p hp; omega
  exact ⟨by simp, by simp, by simp, by omega, by omega, by omega, by simp [s0], by simp [b1, s1], by simp [b2, s2]⟩
@[simp] theorem arG_ar (a : Int) (es fs es' fs' : List (AV × AV)) (c c' : Int) (bs ss : List (Nat × List AV)) (m : Nat) : (arG a es fs c bs ss m).ar 0 1 2 a es' fs' c' = arG a es' fs' c' bs ss m := by
  unfold ASt.ar arG
  congr 1
  · funext i
    by_cases h : i = 0
    · subst h; simp [upd]
    · simp [upd, h]
  · funext i
    by_cases h2 : i = 2
    · subst h2; simp [upd]
    · by_cases h1 : i = 1
      · subst h1; simp [upd]
      · simp [upd, h1, h2]
/-- A batch over it. -/
def btS (a : Int) (es fs : List (AV × AV)) (c : Int) (B k1 k2 m : Nat) (hs gs : List Int) : ASt := arG a es fs c [(B, [.ptr 0 0, .hsl k1 0 hs.length, .hsl k2 0 gs.length])] [(k1, hs.map vi), (k2, gs.map vi)] m
structure BtN (B k1 k2 m : Nat) : Prop where
  b : 2 < B ∧ B < m
  l1 : 2 < k1 ∧ k1 < m
  l2 : 2 < k2 ∧ k2 < m
  n1 : B ≠ k1
  n2 : B ≠ k2
  n3 : k1 ≠ k2
/-- What a Ref names. -/
def resR (hs : List Int) (r : Int) : Int := if r < 0 then hs.getD (-1 - r).toNat 0 else r
def resN (hs : List Int) (x : Nd) : Nd := { x with refs := x.refs.map (resR hs) }
def bpS (a : Int) (es fs : List (AV × AV)) (c : Int) (B k1 k2 m q1 q2 T : Nat) (hs gs : List Int) (x : Nd) (l : List Int) : ASt :=
  arG a es fs c [(B, [.ptr 0 0, .hsl k1 0 hs.length, .hsl k2 0 gs.length]), (m, [vi x.k, .hsl q1 0 x.refs.length, .hsl q2 0 x.nums.length, vs x.text])] [(k1, hs.map vi), (k2, gs.map vi), (q1, l.map vi), (q2, x.nums.map vi)] T
def BpI (a : Int) (es fs : List (AV × AV)) (c : Int) (B k1 k2 m q1 q2 T : Nat) (hs gs : List Int) (x : Nd) (q : Nat) (fr : List AV) (σ : ASt) : Prop := ∃ i, i + q = x.refs.length ∧ σ = bpS a es fs c B k1 k2 m q1 q2 T hs gs x ((x.refs.take i).map (resR hs) ++ x.refs.drop i) ∧ fr = frm 96 [(0, .ptr B 0), (1, ndA x), (3, .ptr m 0), (11, .hsl q1 0 x.refs.length), (12, vi (x.refs.length : Nat)), (13, vi (i : Nat))]
theorem td_set {α β : Type} (f : α → β) : ∀ (l : List α) (i : Nat) (r : α) (g : α → β), l[i]? = some r → (((l.take i).map f ++ (l.drop i).map g).set i (f r)) = (l.take (i + 1)).map f ++ (l.drop (i + 1)).map g
  | [], i, r, g, h => by cases h
  | a :: l, 0, r, g, h => by simp at h; subst h; simp
  | a :: l, i + 1, r, g, h => by
    have := td_set f l i r g (by simpa using h)
    simpa using this
theorem set_self {α : Type} : ∀ (l : List α) (i : Nat) (r : α), l[i]? = some r → l.set i r = l
  | [], i, r, h => by cases h
  | a :: l, 0, r, h => by simp at h; subst h; rfl
  | a :: l, i + 1, r, h => by simp [set_self l i r (by simpa using h)]
theorem tgot_some (N : List (ByteArray × Int)) (n : ByteArray) : ∀ j y, (ixT N n 0).map (fun j => (j, vi ((gotT N n).getD 0))) = some (j, y) → vi ((gotT N n).getD 0) = y := fun j y e => by
  obtain ⟨_, _, e⟩ := Option.map_eq_some_iff.1 e
  cases e; rfl
theorem tgot_none {P : Program} {el : TypeId} (hz : tzero P el = some (vi 0)) (N : List (ByteArray × Int)) (n : ByteArray) : (ixT N n 0).map (fun j => (j, vi ((gotT N n).getD 0))) = none → tzero P el = some (vi ((gotT N n).getD 0)) := fun e => by
  rw [ixT_none (Option.map_eq_none_iff.1 e)]; exact hz
theorem noV_esK {α : Type} (f : α → AV) (M : List (Int × α)) : ∀ p ∈ esK f M, p.1 ≠ noV := fun p hp => by
  obtain ⟨q, _, rfl⟩ := List.mem_map.1 hp
  simp [noV]
theorem noV_esT {α : Type} (f : α → AV) (M : List (ByteArray × α)) : ∀ p ∈ esT f M, p.1 ≠ noV := fun p hp => by
  obtain ⟨q, _, rfl⟩ := List.mem_map.1 hp
  simp [noV]
set_option maxHeartbeats 8000000 in
set_option maxRecDepth 100000 in
theorem aput1_ok (M : Nods) (N : List (ByteArray × Int)) (a c : Int) (B k1 k2 m : Nat) (hs gs : List Int) (x : Nd) (hn : BtN B k1 k2 m) (hhl : hs.length ≤ 1000000) (hr : ∀ r ∈ x.refs, -1 - r < hs.length) (hx : NdOk x) (hy : NdOk (resN hs x)) (h : Int) (hg : gotT N (nmB (resN hs x)) = some h) :
    ACall Tryd.prog 31 [.ptr B 0, ndA x] (btS a (esK ndA M) (esT vi N) c B k1 k2 m hs gs) fun r τ => r = .tup [] ∧ ∃ k1' m', BtN B k1' k2 m' ∧ (btS a (esK ndA M) (esT vi N) c B k1' k2 m' (hs ++ [h]) gs).Le τ := by
  have hnd : ndA x = .agg [vi x.k, .vsl (x.refs.map vi), .vsl (x.nums.map vi), vs x.text] := rfl
  have hrl := hx.rl
  have hnl := hx.nl
  obtain ⟨⟨nb1, nb2⟩, ⟨n11, n12⟩, ⟨n21, n22⟩, nbk1, nbk2, nkk⟩ := hn
  rw [hnd]
  refine acall_of Tryd.func31 Tryd.ntmps31 rfl ?_
  simp only [List.length_cons, List.length_nil, List.cons_append, List.nil_append, List.replicate]
  repeat' first | refine aw_W [3] trivial trivial ?_ | refine aw_cond rfl (fun h => ?_) (fun h => ?_)
  refine awl_cons rfl (opq_call rfl rfl rfl ((aown_ok _ x (by omega) (by omega)).mono fun r τ hq => ?_))
  obtain ⟨q1, q2, e1, e2, e3, rfl, e5, e6, e7, e8, e9⟩ := hq
  have mB : ¬ m = B := by omega
  have Bm : ¬ B = m := by omega
  have m0 : ¬ m = 0 := by omega
  have B0 : ¬ B = 0 := by omega
  have kk : ¬ k2 = k1 := fun e => nkk e.symm
  simp only [btS, arG_next] at e1
  have m0' : ¬ 0 = m := by omega
  have b0 := e6 0 (by simp [btS, upd, m0, m0'])
  have bB := e6 B (by simp [btS, upd, mB, Bm, B0])
  have bm := e6 m (by simp [btS, upd])
  have p1 := congrFun e5 1
  have p2 := congrFun e5 2
  have s1 := e7 k1 (by simp [btS])
  have s2 := e7 k2 (by simp [btS, kk])
  simp [btS, upd, mB, Bm, B0, m0, m0', kk] at b0 bB bm p1 p2 s1 s2
  have f1 : ¬ q1 = k1 := by omega
  have f2 : ¬ q1 = k2 := by omega
  have f3 : ¬ q2 = k1 := by omega
  have f4 : ¬ q2 = k2 := by omega
  have f5 : ¬ q2 = q1 := by omega
  have f5' : ¬ q1 = q2 := by omega
  refine AWL.less (τ := arG a (esK ndA M) (esT vi N) c [(B, [.ptr 0 0, .hsl k1 0 hs.length, .hsl k2 0 gs.length]), (m, [vi x.k, .vsl (x.refs.map vi), .vsl (x.nums.map vi), vs x.text])] [(k1, hs.map vi), (k2, gs.map vi), (q1, x.refs.map vi), (q2, x.nums.map vi)] τ.next) (le_arG b0 p1 p2 (by simp [bB, bm]) (by simp [s1, s2, e8, e9]) (Nat.le_refl _)) ?_
  generalize τ.next = T at *
  clear e5 e6 e7 e8 e9 b0 bB bm p1 p2 s1 s2 τ
  refine awl_run' [3] ?_
  simp -implicitDefEqProofs [btS, mB, Bm, m0, B0]
  repeat' first | refine aw_W [3] (And.intro @mB (And.intro @Bm (And.intro @m0 @B0))) trivial ?_ | refine aw_cond rfl (fun h => ?_) (fun h => ?_)
  refine aw_loopW [0, 1, 3, 11, 12, 13] (fun q fr σ => BpI a (esK ndA M) (esT vi N) c B k1 k2 m q1 q2 T hs gs x q fr σ) x.refs.length ?_ ?_
  · exact ⟨bpS a (esK ndA M) (esT vi N) c B k1 k2 m q1 q2 T hs gs x x.refs, le_arG (by simp [upd, m0, m0']) (by simp) (by simp) (by simp [upd, mB, Bm, B0, m0]) (by simp [kk, f1, f2, f3, f4, f5]) (by simp), 0, by omega, by simp, by simp [hnd]⟩
  · rintro q fr σ ⟨i, hi, rfl, rfl⟩
    obtain ⟨L, hL⟩ : ∃ L, L = (x.refs.take i).map (resR hs) ++ x.refs.drop i := ⟨_, rfl⟩
    have hLl : L.length = x.refs.length := by rw [hL]; simp; omega
    have hLv : (L.map vi).length = x.refs.length := by simp [hLl]
    rw [← hL]
    simp -implicitDefEqProofs [hnd, bpS]
    by_cases hlt : i < x.refs.length
    · have hlti : (i : Int) < x.refs.length := by omega
      have hltL : i < L.length := by omega
      obtain ⟨r, hr1⟩ : ∃ r, x.refs[i] = r := ⟨_, rfl⟩
      have hrg : x.refs[i]? = some r := by rw [List.getElem?_eq_getElem hlt, hr1]
      have hrm := List.mem_of_getElem? hrg
      have hLg : L[i]? = some r := by rw [hL, List.getElem?_append_right (by simp; omega)]; simp [Nat.min_eq_left (Nat.le_of_lt hlt), hrg]
      have hL1 : L[i] = r := by rw [List.getElem?_eq_getElem hltL] at hLg; exact Option.some.inj hLg
      have wi : IntKind.i64.wrap ((i : Int) + 1) = (i : Int) + 1 := wrap_id (by omega) (by omega)
      have hrr := hx.refs r hrm
      by_cases hr0 : r < 0
      · obtain ⟨j, hj⟩ : ∃ j : Nat, -1 - r = j := ⟨(-1 - r).toNat, by omega⟩
        have wr : IntKind.i64.wrap (-1 - r) = (j : Int) := by rw [← hj]; exact wrap_id (by omega) (by omega)
        have hjl : j < hs.length := by have := hr r hrm; omega
        have hjli : (j : Int) < hs.length := by omega
        obtain ⟨t, ht1⟩ : ∃ t, hs[j] = t := ⟨_, rfl⟩
        have htg : hs[j]? = some t := by rw [List.getElem?_eq_getElem hjl, ht1]
        have hhv : (hs.map vi).length = hs.length := List.length_map _
        repeat' (first
          | refine aw_seq ?_
          | ((first | refine aw_run [3] ?_ | refine aw_ymix [3] draws (by decide +kernel) ?_); try simp -implicitDefEqProofs (maxSteps := 1000000) [hlt, hlti, hltL, hL1, hLg, hLl, hLv, hr0, wr, hjl, hjli, ht1, htg, hhv, mB, Bm, m0, B0, kk, f1, f2, f3, f4, f5, f5', wi])
          | ((first | refine aw_zrun [3] [] draws (by decide +kernel) (by decide +kernel) ?_ | refine zl_skip (by simp) rfl ?_); try simp -implicitDefEqProofs (maxSteps := 1000000) [hlt, hlti, hltL, hL1, hLg, hLl, hLv, hr0, wr, hjl, hjli, ht1, htg, hhv, mB, Bm, m0, B0, kk, f1, f2, f3, f4, f5, f5', wi]; repeat first | refine zcurL (by decide +kernel) ?_ | refine zcurH (by decide +kernel) ?_ | refine zcurL' (by decide +kernel) ?_ | refine zcurH' (by decide +kernel) ?_)
          | ((first | refine aw_yrun draws (by kernel_rfl) ?_ | refine awl_skip' [3] rfl ?_ | refine yl_skip rfl ?_ | refine aw_skip ?_ | refine aw_exit ?_); try simp -implicitDefEqProofs (maxSteps := 1000000) [hlt, hlti, hltL, hL1, hLg, hLl, hLv, hr0, wr, hjl, hjli, ht1, htg, hhv, mB, Bm, m0, B0, kk, f1, f2, f3, f4, f5, f5', wi])
          | (refine aw_cond rfl (fun h => ?_) (fun h => ?_) <;> try (with_reducible first | exact ff_tt h | exact tt_ff h))
          | refine aw_block ?_
          | refine aw_ret (ret_of (.inr rfl) (by simp [Tryd.results31]; rfl) (Fin.of ?_))
          | refine ret_of (.inl rfl) (by simp [Tryd.results31]; rfl) (Fin.of ?_))
        have hst : L.set i t = (x.refs.take (i + 1)).map (resR hs) ++ x.refs.drop (i + 1) := by
          have := td_set (resR hs) x.refs i r id hrg
          rw [List.map_id, List.map_id, ← hL] at this
          rw [← this, resR, if_pos hr0, hj]; simp [htg]
        exact ⟨q - 1, by omega, bpS a (esK ndA M) (esT vi N) c B k1 k2 m q1 q2 T hs gs x ((x.refs.take (i + 1)).map (resR hs) ++ x.refs.drop (i + 1)), le_arG (by simp) (by simp) (by simp) (by simp [Bm, mB, B0, m0]) (by rw [← hst]; simp [upd, kk, f1, f2, f3, f4, f5, Ne.symm f1, Ne.symm f2, Ne.symm f5, List.map_set]) (by simp), i + 1, by omega, rfl, by simp [hnd]⟩
      · repeat' first | refine aw_W [3] (And.intro @hlt (And.intro @hlti (And.intro @hltL (And.intro @hL1 (And.intro @hLg (And.intro @hLl (And.intro @hLv (And.intro @hr0 (And.intro @mB (And.intro @Bm (And.intro @m0 (And.intro @B0 (And.intro @kk (And.intro @f1 (And.intro @f2 (And.intro @f3 (And.intro @f4 (And.intro @f5 (And.intro @f5' @wi))))))))))))))))))) trivial ?_ | refine aw_cond rfl (fun h => ?_) (fun h => ?_)
        have hst : L = (x.refs.take (i + 1)).map (resR hs) ++ x.refs.drop (i + 1) := by
          have := td_set (resR hs) x.refs i r id hrg
          rw [List.map_id, List.map_id, ← hL] at this
          rw [← this, resR, if_neg hr0, set_self _ _ _ hLg]
        exact ⟨q - 1, by omega, bpS a (esK ndA M) (esT vi N) c B k1 k2 m q1 q2 T hs gs x ((x.refs.take (i + 1)).map (resR hs) ++ x.refs.drop (i + 1)), le_arG (by simp) (by simp) (by simp) (by simp [Bm, mB, B0, m0]) (by rw [← hst]; simp [upd, kk, f1, f2, f3, f4, f5]) (by simp), i + 1, by omega, rfl, by simp [hnd]⟩
    · have hlti : ¬ (i : Int) < x.refs.length := by omega
      rw [List.take_of_length_le (by omega), List.drop_eq_nil_of_le (by omega), List.append_nil] at hL
      subst hL
      repeat' first | refine aw_N [3] @hlti trivial ?_ | refine aw_cond rfl (fun h => ?_) (fun h => ?_)
      refine aw_freezeX (b := q1) (b0 := m) (xs := (x.refs.map (resR hs)).map vi) (cs := [vi x.k, .hsl q1 0 x.refs.length, .hsl q2 0 x.nums.length, vs x.text]) (by simp [kk, f1, f2]) (by simp [mB, m0]) ?_
      refine aw_freezeX (b := q2) (b0 := m) (xs := x.nums.map vi) (cs := [vi x.k, .vsl ((x.refs.map (resR hs)).map vi), .hsl q2 0 x.nums.length, vs x.text]) (by simp [ASt.dropSl, ASt.setBx, upd, kk, f3, f4, f5]) (by simp [ASt.dropSl, ASt.setBx, frz, frz1, frz0, f5, List.take_of_length_le]) ?_
      have hya : ndA (resN hs x) = .agg [vi x.k, .vsl ((x.refs.map (resR hs)).map vi), .vsl (x.nums.map vi), vs x.text] := rfl
      have hnm := aname_ok _ hy
      rw [hya] at hnm
      generalize hyr : x.refs.map (resR hs) = ys at *
      refine aw_weak (τ := arG a (esK ndA M) (esT vi N) c [(B, [.ptr 0 0, .hsl k1 0 hs.length, .hsl k2 0 gs.length]), (m, [vi x.k, .vsl (ys.map vi), .vsl (x.nums.map vi), vs x.text])] [(k1, hs.map vi), (k2, gs.map vi)] T) (le_arG (by simp [ASt.dropSl, ASt.setBx, upd, m0, m0']) (by simp [ASt.dropSl, ASt.setBx]) (by simp [ASt.dropSl, ASt.setBx]) (by simp [ASt.dropSl, ASt.setBx, upd, Bm, mB, B0, m0, frz, frz1, frz0, List.take_of_length_le]) (by simp [ASt.dropSl, ASt.setBx, upd, kk, Ne.symm f1, Ne.symm f2, Ne.symm f3, Ne.symm f4]) (by simp [ASt.dropSl, ASt.setBx])) ?_
      refine aw_keep [0, 3] ?_
      simp -implicitDefEqProofs [frz, frz1, frz0]
      repeat' first | refine aw_W [3] (And.intro @mB (And.intro @Bm (And.intro @m0 @B0))) (And.intro @hnm trivial) ?_ | refine aw_cond rfl (fun h => ?_) (fun h => ?_)
      refine yl_lookup (b := 2) rfl rfl tmS rfl (es := esT vi N) (by simp) rfl (find_esT vi 0 (nmB (resN hs x)) N 0) (x := vi ((gotT N (nmB (resN hs x))).getD 0)) (tgot_some N _) (tgot_none tz3 N _) ?_
      rw [Option.isSome_map, ixT_some, hg]
      simp -implicitDefEqProofs
      repeat' first | refine aw_W [3] (And.intro @mB (And.intro @Bm (And.intro @m0 @B0))) trivial ?_ | refine aw_cond rfl (fun h => ?_) (fun h => ?_)
      refine awl_append [3] rfl rfl rfl (b := k1) (xs := hs.map vi) (by simp) (by simp) rfl (by simp) te33 tet33 tz3 rfl (fun y hy => by obtain ⟨_, _, rfl⟩ := List.mem_map.1 hy; rfl) (by simp) (by simp; omega) (by simp; omega) ?_
      simp -implicitDefEqProofs [ASt.dropSl, ASt.addSl, mB, Bm, m0, B0]
      repeat' first | refine aw_W [3] (And.intro @mB (And.intro @Bm (And.intro @m0 @B0))) trivial ?_ | refine aw_cond rfl (fun h => ?_) (fun h => ?_)
      have g1 : ¬ T = k2 := by omega
      have g2 : ¬ k2 = T := by omega
      exact ⟨by simp [tupOf], T, T + 1, ⟨⟨nb1, by omega⟩, ⟨by omega, by omega⟩, ⟨n21, by omega⟩, by omega, nbk2, g1⟩, le_arG (by simp [upd, Ne.symm B0]) (by simp) (by simp) (by simp [upd]) (by simp [upd, kk, g1, g2, List.take_of_length_le]) (by simp)⟩
set_option maxHeartbeats 8000000 in
set_option maxRecDepth 100000 in
theorem aput2_ok (M : Nods) (N : List (ByteArray × Int)) (a c : Int) (B k1 k2 m : Nat) (hs gs : List Int) (x : Nd) (hn : BtN B k1 k2 m) (hhl : hs.length ≤ 1000000) (hgl : gs.length ≤ 1000000) (hr : ∀ r ∈ x.refs, -1 - r < hs.length) (hx : NdOk x) (hy : NdOk (resN hs x)) (n : Nat) (hc : 0 ≤ c ∧ c + n ≤ 1000000000) (hc1 : ∀ i < n, (gotK M (c + i)).isSome = true) (hc2 : gotK M (c + n) = none) (hg : gotT N (nmB (resN hs x)) = none) :
    ACall Tryd.prog 31 [.ptr B 0, ndA x] (btS a (esK ndA M) (esT vi N) c B k1 k2 m hs gs) fun r τ => r = .tup [] ∧ ∃ k1' k2' m', BtN B k1' k2' m' ∧ (btS a (esK ndA (M ++ [(c + n, resN hs x)])) (esT vi (N ++ [(nmB (resN hs x), c + n)])) (c + n) B k1' k2' m' (hs ++ [c + n]) (gs ++ [c + n])).Le τ := by
  have hnd : ndA x = .agg [vi x.k, .vsl (x.refs.map vi), .vsl (x.nums.map vi), vs x.text] := rfl
  have hrl := hx.rl
  have hnl := hx.nl
  obtain ⟨⟨nb1, nb2⟩, ⟨n11, n12⟩, ⟨n21, n22⟩, nbk1, nbk2, nkk⟩ := hn
  rw [hnd]
  refine acall_of Tryd.func31 Tryd.ntmps31 rfl ?_
  simp only [List.length_cons, List.length_nil, List.cons_append, List.nil_append, List.replicate]
  repeat' first | refine aw_W [3] trivial trivial ?_ | refine aw_cond rfl (fun h => ?_) (fun h => ?_)
  refine awl_cons rfl (opq_call rfl rfl rfl ((aown_ok _ x (by omega) (by omega)).mono fun r τ hq => ?_))
  obtain ⟨q1, q2, e1, e2, e3, rfl, e5, e6, e7, e8, e9⟩ := hq
  have mB : ¬ m = B := by omega
  have Bm : ¬ B = m := by omega
  have m0 : ¬ m = 0 := by omega
  have B0 : ¬ B = 0 := by omega
  have kk : ¬ k2 = k1 := fun e => nkk e.symm
  simp only [btS, arG_next] at e1
  have m0' : ¬ 0 = m := by omega
  have b0 := e6 0 (by simp [btS, upd, m0, m0'])
  have bB := e6 B (by simp [btS, upd, mB, Bm, B0])
  have bm := e6 m (by simp [btS, upd])
  have p1 := congrFun e5 1
  have p2 := congrFun e5 2
  have s1 := e7 k1 (by simp [btS])
  have s2 := e7 k2 (by simp [btS, kk])
  simp [btS, upd, mB, Bm, B0, m0, m0', kk] at b0 bB bm p1 p2 s1 s2
  have f1 : ¬ q1 = k1 := by omega
  have f2 : ¬ q1 = k2 := by omega
  have f3 : ¬ q2 = k1 := by omega
  have f4 : ¬ q2 = k2 := by omega
  have f5 : ¬ q2 = q1 := by omega
  have f5' : ¬ q1 = q2 := by omega
  refine AWL.less (τ := arG a (esK ndA M) (esT vi N) c [(B, [.ptr 0 0, .hsl k1 0 hs.length, .hsl k2 0 gs.length]), (m, [vi x.k, .vsl (x.refs.map vi), .vsl (x.nums.map vi), vs x.text])] [(k1, hs.map vi), (k2, gs.map vi), (q1, x.refs.map vi), (q2, x.nums.map vi)] τ.next) (le_arG b0 p1 p2 (by simp [bB, bm]) (by simp [s1, s2, e8, e9]) (Nat.le_refl _)) ?_
  generalize τ.next = T at *
  clear e5 e6 e7 e8 e9 b0 bB bm p1 p2 s1 s2 τ
  refine awl_run' [3] ?_
  simp -implicitDefEqProofs [btS, mB, Bm, m0, B0]
  repeat' first | refine aw_W [3] (And.intro @mB (And.intro @Bm (And.intro @m0 @B0))) trivial ?_ | refine aw_cond rfl (fun h => ?_) (fun h => ?_)
  refine aw_loopW [0, 1, 3, 11, 12, 13] (fun q fr σ => BpI a (esK ndA M) (esT vi N) c B k1 k2 m q1 q2 T hs gs x q fr σ) x.refs.length ?_ ?_
  · exact ⟨bpS a (esK ndA M) (esT vi N) c B k1 k2 m q1 q2 T hs gs x x.refs, le_arG (by simp [upd, m0, m0']) (by simp) (by simp) (by simp [upd, mB, Bm, B0, m0]) (by simp [kk, f1, f2, f3, f4, f5]) (by simp), 0, by omega, by simp, by simp [hnd]⟩
  · rintro q fr σ ⟨i, hi, rfl, rfl⟩
    obtain ⟨L, hL⟩ : ∃ L, L = (x.refs.take i).map (resR hs) ++ x.refs.drop i := ⟨_, rfl⟩
    have hLl : L.length = x.refs.length := by rw [hL]; simp; omega
    have hLv : (L.map vi).length = x.refs.length := by simp [hLl]
    rw [← hL]
    simp -implicitDefEqProofs [hnd, bpS]
    by_cases hlt : i < x.refs.length
    · have hlti : (i : Int) < x.refs.length := by omega
      have hltL : i < L.length := by omega
      obtain ⟨r, hr1⟩ : ∃ r, x.refs[i] = r := ⟨_, rfl⟩
      have hrg : x.refs[i]? = some r := by rw [List.getElem?_eq_getElem hlt, hr1]
      have hrm := List.mem_of_getElem? hrg
      have hLg : L[i]? = some r := by rw [hL, List.getElem?_append_right (by simp; omega)]; simp [Nat.min_eq_left (Nat.le_of_lt hlt), hrg]
      have hL1 : L[i] = r := by rw [List.getElem?_eq_getElem hltL] at hLg; exact Option.some.inj hLg
      have wi : IntKind.i64.wrap ((i : Int) + 1) = (i : Int) + 1 := wrap_id (by omega) (by omega)
      have hrr := hx.refs r hrm
      by_cases hr0 : r < 0
      · obtain ⟨j, hj⟩ : ∃ j : Nat, -1 - r = j := ⟨(-1 - r).toNat, by omega⟩
        have wr : IntKind.i64.wrap (-1 - r) = (j : Int) := by rw [← hj]; exact wrap_id (by omega) (by omega)
        have hjl : j < hs.length := by have := hr r hrm; omega
        have hjli : (j : Int) < hs.length := by omega
        obtain ⟨t, ht1⟩ : ∃ t, hs[j] = t := ⟨_, rfl⟩
        have htg : hs[j]? = some t := by rw [List.getElem?_eq_getElem hjl, ht1]
        have hhv : (hs.map vi).length = hs.length := List.length_map _
        repeat' (first
          | refine aw_seq ?_
          | ((first | refine aw_run [3] ?_ | refine aw_ymix [3] draws (by decide +kernel) ?_); try simp -implicitDefEqProofs (maxSteps := 1000000) [hlt, hlti, hltL, hL1, hLg, hLl, hLv, hr0, wr, hjl, hjli, ht1, htg, hhv, mB, Bm, m0, B0, kk, f1, f2, f3, f4, f5, f5', wi])
          | ((first | refine aw_zrun [3] [] draws (by decide +kernel) (by decide +kernel) ?_ | refine zl_skip (by simp) rfl ?_); try simp -implicitDefEqProofs (maxSteps := 1000000) [hlt, hlti, hltL, hL1, hLg, hLl, hLv, hr0, wr, hjl, hjli, ht1, htg, hhv, mB, Bm, m0, B0, kk, f1, f2, f3, f4, f5, f5', wi]; repeat first | refine zcurL (by decide +kernel) ?_ | refine zcurH (by decide +kernel) ?_ | refine zcurL' (by decide +kernel) ?_ | refine zcurH' (by decide +kernel) ?_)
          | ((first | refine aw_yrun draws (by kernel_rfl) ?_ | refine awl_skip' [3] rfl ?_ | refine yl_skip rfl ?_ | refine aw_skip ?_ | refine aw_exit ?_); try simp -implicitDefEqProofs (maxSteps := 1000000) [hlt, hlti, hltL, hL1, hLg, hLl, hLv, hr0, wr, hjl, hjli, ht1, htg, hhv, mB, Bm, m0, B0, kk, f1, f2, f3, f4, f5, f5', wi])
          | (refine aw_cond rfl (fun h => ?_) (fun h => ?_) <;> try (with_reducible first | exact ff_tt h | exact tt_ff h))
          | refine aw_block ?_
          | refine aw_ret (ret_of (.inr rfl) (by simp [Tryd.results31]; rfl) (Fin.of ?_))
          | refine ret_of (.inl rfl) (by simp [Tryd.results31]; rfl) (Fin.of ?_))
        have hst : L.set i t = (x.refs.take (i + 1)).map (resR hs) ++ x.refs.drop (i + 1) := by
          have := td_set (resR hs) x.refs i r id hrg
          rw [List.map_id, List.map_id, ← hL] at this
          rw [← this, resR, if_pos hr0, hj]; simp [htg]
        exact ⟨q - 1, by omega, bpS a (esK ndA M) (esT vi N) c B k1 k2 m q1 q2 T hs gs x ((x.refs.take (i + 1)).map (resR hs) ++ x.refs.drop (i + 1)), le_arG (by simp) (by simp) (by simp) (by simp [Bm, mB, B0, m0]) (by rw [← hst]; simp [upd, kk, f1, f2, f3, f4, f5, Ne.symm f1, Ne.symm f2, Ne.symm f5, List.map_set]) (by simp), i + 1, by omega, rfl, by simp [hnd]⟩
      · repeat' first | refine aw_W [3] (And.intro @hlt (And.intro @hlti (And.intro @hltL (And.intro @hL1 (And.intro @hLg (And.intro @hLl (And.intro @hLv (And.intro @hr0 (And.intro @mB (And.intro @Bm (And.intro @m0 (And.intro @B0 (And.intro @kk (And.intro @f1 (And.intro @f2 (And.intro @f3 (And.intro @f4 (And.intro @f5 (And.intro @f5' @wi))))))))))))))))))) trivial ?_ | refine aw_cond rfl (fun h => ?_) (fun h => ?_)
        have hst : L = (x.refs.take (i + 1)).map (resR hs) ++ x.refs.drop (i + 1) := by
          have := td_set (resR hs) x.refs i r id hrg
          rw [List.map_id, List.map_id, ← hL] at this
          rw [← this, resR, if_neg hr0, set_self _ _ _ hLg]
        exact ⟨q - 1, by omega, bpS a (esK ndA M) (esT vi N) c B k1 k2 m q1 q2 T hs gs x ((x.refs.take (i + 1)).map (resR hs) ++ x.refs.drop (i + 1)), le_arG (by simp) (by simp) (by simp) (by simp [Bm, mB, B0, m0]) (by rw [← hst]; simp [upd, kk, f1, f2, f3, f4, f5]) (by simp), i + 1, by omega, rfl, by simp [hnd]⟩
    · have hlti : ¬ (i : Int) < x.refs.length := by omega
      rw [List.take_of_length_le (by omega), List.drop_eq_nil_of_le (by omega), List.append_nil] at hL
      subst hL
      repeat' first | refine aw_N [3] @hlti trivial ?_ | refine aw_cond rfl (fun h => ?_) (fun h => ?_)
      refine aw_freezeX (b := q1) (b0 := m) (xs := (x.refs.map (resR hs)).map vi) (cs := [vi x.k, .hsl q1 0 x.refs.length, .hsl q2 0 x.nums.length, vs x.text]) (by simp [kk, f1, f2]) (by simp [mB, m0]) ?_
      refine aw_freezeX (b := q2) (b0 := m) (xs := x.nums.map vi) (cs := [vi x.k, .vsl ((x.refs.map (resR hs)).map vi), .hsl q2 0 x.nums.length, vs x.text]) (by simp [ASt.dropSl, ASt.setBx, upd, kk, f3, f4, f5]) (by simp [ASt.dropSl, ASt.setBx, frz, frz1, frz0, f5, List.take_of_length_le]) ?_
      have hya : ndA (resN hs x) = .agg [vi x.k, .vsl ((x.refs.map (resR hs)).map vi), .vsl (x.nums.map vi), vs x.text] := rfl
      have hnm := aname_ok _ hy
      rw [hya] at hnm
      generalize hyr : x.refs.map (resR hs) = ys at *
      refine aw_weak (τ := arG a (esK ndA M) (esT vi N) c [(B, [.ptr 0 0, .hsl k1 0 hs.length, .hsl k2 0 gs.length]), (m, [vi x.k, .vsl (ys.map vi), .vsl (x.nums.map vi), vs x.text])] [(k1, hs.map vi), (k2, gs.map vi)] T) (le_arG (by simp [ASt.dropSl, ASt.setBx, upd, m0, m0']) (by simp [ASt.dropSl, ASt.setBx]) (by simp [ASt.dropSl, ASt.setBx]) (by simp [ASt.dropSl, ASt.setBx, upd, Bm, mB, B0, m0, frz, frz1, frz0, List.take_of_length_le]) (by simp [ASt.dropSl, ASt.setBx, upd, kk, Ne.symm f1, Ne.symm f2, Ne.symm f3, Ne.symm f4]) (by simp [ASt.dropSl, ASt.setBx])) ?_
      refine aw_keep [0, 3] ?_
      simp -implicitDefEqProofs [frz, frz1, frz0]
      repeat' first | refine aw_W [3] (And.intro @mB (And.intro @Bm (And.intro @m0 @B0))) (And.intro @hnm trivial) ?_ | refine aw_cond rfl (fun h => ?_) (fun h => ?_)
      refine yl_lookup (b := 2) rfl rfl tmS rfl (es := esT vi N) (by simp) rfl (find_esT vi 0 (nmB (resN hs x)) N 0) (x := vi ((gotT N (nmB (resN hs x))).getD 0)) (tgot_some N _) (tgot_none tz3 N _) ?_
      rw [Option.isSome_map, ixT_some, hg]
      simp -implicitDefEqProofs
      repeat' first | refine aw_W [3] (And.intro @mB (And.intro @Bm (And.intro @m0 @B0))) trivial ?_ | refine aw_cond rfl (fun h => ?_) (fun h => ?_)
      have hh := anext_ok M (esT vi N) (cl_esT N) a c n hc hc1 hc2
      refine awl_ar [3] rfl rfl rfl (by kernel_rfl) hh rfl (by simp) (by simp) (cl_esN M) (cl_esT N) (cl_esN M) (cl_esT N) (at_arG (by simp; omega) (by simp; omega)) ?_
      simp -implicitDefEqProofs
      repeat' first | refine aw_N [3] (And.intro @mB (And.intro @Bm (And.intro @m0 @B0))) trivial ?_ | refine aw_cond rfl (fun h => ?_) (fun h => ?_)
      refine aw_openM (b := 1) (es := esK ndA M) (by simp) (noV_esK ndA M) fun st1 o1 w1 v1 u1 => ?_
      refine aw_openM (b := 2) (es := esT vi N) (by simp [ASt.setMp, upd]) (noV_esT vi N) fun st2 o2 w2 v2 u2 => ?_
      refine aw_weak (τ := arG a (opE st1 o1 (esK ndA M)) (opE st2 o2 (esT vi N)) (c + n) [(B, [.ptr 0 0, .hsl k1 0 hs.length, .hsl k2 0 gs.length]), (m, [vi x.k, .vsl (ys.map vi), .vsl (x.nums.map vi), vs x.text])] [(k1, hs.map vi), (k2, gs.map vi)] T) (le_arG (by simp [ASt.setMp]) (by simp [ASt.setMp, upd]) (by simp [ASt.setMp, upd]) (by simp [ASt.setMp, Bm, mB, B0, m0]) (by simp [ASt.setMp, kk]) (by simp [ASt.setMp])) ?_
      have fm : amfind (.int .i64) (vi (c + n)) (esK ndA M) 0 = some none := by
        rw [find_esK ndA ndZ .i64]
        cases hq : ixK M (c + n) 0 with
        | none => rfl
        | some j =>
          have := ixK_some M (c + n)
          rw [hq, hc2] at this; cases this
      have ft : amfind .string (vs (nmB (resN hs x))) (esT vi N) 0 = some none := by
        rw [find_esT vi 0]
        cases hq : ixT N (nmB (resN hs x)) 0 with
        | none => rfl
        | some j =>
          have := ixT_some N (nmB (resN hs x))
          rw [hq, hg] at this; cases this
      refine aw_zrun [3] [] draws (by decide +kernel) (by decide +kernel) ?_
      simp -implicitDefEqProofs [mB, Bm, m0, B0]
      repeat first | refine zcurL (by decide +kernel) ?_ | refine zcurH (by decide +kernel) ?_ | refine zcurL' (by decide +kernel) ?_ | refine zcurH' (by decide +kernel) ?_
      repeat' first | refine aw_W [3] (And.intro @mB (And.intro @Bm (And.intro @m0 @B0))) (And.intro @hnm trivial) ?_ | refine aw_cond rfl (fun h => ?_) (fun h => ?_)
      refine zl_mapEntryO (b := 1) (by simp) rfl rfl tmN rfl (st := st1) (c := o1) (es := esK ndA M) (by simp) rfl fm tz40 ?_
      simp -implicitDefEqProofs [mB, Bm, m0, B0]
      repeat first | refine zcurL (by decide +kernel) ?_ | refine zcurH (by decide +kernel) ?_ | refine zcurL' (by decide +kernel) ?_ | refine zcurH' (by decide +kernel) ?_
      repeat' first | refine aw_W [3] (And.intro @mB (And.intro @Bm (And.intro @m0 @B0))) trivial ?_ | refine aw_cond rfl (fun h => ?_) (fun h => ?_)
      refine zl_entryStoreO (b := 1) (by simp) rfl rfl rfl (st := st1) (c := o1) (es := esK ndA M) (k := vi (c + n)) (y := .agg [vi 0, .p (.slice none 0 0), .p (.slice none 0 0), vs ⟨#[]⟩]) (by simp [upd]) rfl v1 u1 (xv := ndA (resN hs x)) (by rw [hya]; rfl) ?_
      simp -implicitDefEqProofs [mB, Bm, m0, B0]
      repeat first | refine zcurL (by decide +kernel) ?_ | refine zcurH (by decide +kernel) ?_ | refine zcurL' (by decide +kernel) ?_ | refine zcurH' (by decide +kernel) ?_
      repeat' first | refine aw_W [3] (And.intro @mB (And.intro @Bm (And.intro @m0 @B0))) trivial ?_ | refine aw_cond rfl (fun h => ?_) (fun h => ?_)
      refine zl_mapEntryO (b := 2) (by simp) rfl rfl tmS rfl (st := st2) (c := o2) (es := esT vi N) (by simp [upd]) rfl ft tz3 ?_
      simp -implicitDefEqProofs [mB, Bm, m0, B0]
      repeat first | refine zcurL (by decide +kernel) ?_ | refine zcurH (by decide +kernel) ?_ | refine zcurL' (by decide +kernel) ?_ | refine zcurH' (by decide +kernel) ?_
      repeat' first | refine aw_W [3] (And.intro @mB (And.intro @Bm (And.intro @m0 @B0))) trivial ?_ | refine aw_cond rfl (fun h => ?_) (fun h => ?_)
      refine zl_entryStoreO (b := 2) (by simp) rfl rfl rfl (st := st2) (c := o2) (es := esT vi N) (k := vs (nmB (resN hs x))) (y := vi 0) (by simp [upd]) rfl v2 u2 (xv := vi (c + n)) rfl ?_
      simp -implicitDefEqProofs [mB, Bm, m0, B0]
      repeat first | refine zcurL (by decide +kernel) ?_ | refine zcurH (by decide +kernel) ?_ | refine zcurL' (by decide +kernel) ?_ | refine zcurH' (by decide +kernel) ?_
      refine aw_weak (τ := arG a (esK ndA (M ++ [(c + n, resN hs x)])) (esT vi (N ++ [(nmB (resN hs x), c + n)])) (c + n) [(B, [.ptr 0 0, .hsl k1 0 hs.length, .hsl k2 0 gs.length])] [(k1, hs.map vi), (k2, gs.map vi)] T) (le_arG (by simp) (by simp [upd, esK]) (by simp [upd, esT]) (by simp [B0]) (by simp [kk]) (by simp)) ?_
      generalize esK ndA (M ++ [(c + n, resN hs x)]) = eM
      generalize esT vi (N ++ [(nmB (resN hs x), c + n)]) = eN
      generalize c + (n : Int) = h
      repeat' first | refine aw_W [3] (And.intro @mB (And.intro @Bm (And.intro @m0 @B0))) trivial ?_ | refine aw_cond rfl (fun h => ?_) (fun h => ?_)
      refine awl_append [3] rfl rfl rfl (b := k2) (xs := gs.map vi) (by simp [kk]) (by simp) rfl (by simp) te33 tet33 tz3 rfl (fun y hy => by obtain ⟨_, _, rfl⟩ := List.mem_map.1 hy; rfl) (by simp) (by simp; omega) (by simp; omega) ?_
      simp -implicitDefEqProofs [ASt.dropSl, ASt.addSl, mB, Bm, m0, B0]
      repeat' first | refine aw_W [3] (And.intro @mB (And.intro @Bm (And.intro @m0 @B0))) trivial ?_ | refine aw_cond rfl (fun h => ?_) (fun h => ?_)
      have g1 : ¬ k1 = T := by omega
      have g2 : ¬ k1 = k2 := nkk
      refine awl_append [3] rfl rfl rfl (b := k1) (xs := hs.map vi) (by simp [upd, g1, g2]) (by simp) rfl (by simp) te33 tet33 tz3 rfl (fun y hy => by obtain ⟨_, _, rfl⟩ := List.mem_map.1 hy; rfl) (by simp) (by simp; omega) (by simp; omega) ?_
      simp -implicitDefEqProofs [ASt.dropSl, ASt.addSl, mB, Bm, m0, B0]
      repeat' first | refine aw_W [3] (And.intro @mB (And.intro @Bm (And.intro @m0 @B0))) trivial ?_ | refine aw_cond rfl (fun h => ?_) (fun h => ?_)
      have g3 : ¬ T = k1 := by omega
      exact ⟨by simp [tupOf], T + 1, T, T + 2, ⟨⟨nb1, by omega⟩, ⟨by omega, by omega⟩, ⟨by omega, by omega⟩, by omega, by omega, by omega⟩, le_arG (by simp [upd, Ne.symm B0]) (by simp) (by simp) (by simp [upd]) (by simp [upd, g3, List.take_of_length_le]) (by simp)⟩
end Go.AL
/-! The arena, plainly: nodes put, and let go. -/
namespace Go.AL
set_option linter.unusedSimpArgs false
set_option linter.unusedVariables false
abbrev Nms := List (ByteArray × Int)
theorem putK_new {α : Type} {M : List (Int × α)} {h : Int} {y : α} (hg : gotK M h = none) : putK M h y = M ++ [(h, y)] := by
  unfold putK
  have := ixK_some M h
  rw [hg] at this
  cases hq : ixK M h 0 with
  | none => rfl
  | some j => rw [hq] at this; cases this
theorem putT_new {α : Type} {N : List (ByteArray × α)} {t : ByteArray} {y : α} (hg : gotT N t = none) : putT N t y = N ++ [(t, y)] := by
  unfold putT
  have := ixT_some N t
  rw [hg] at this
  cases hq : ixT N t 0 with
  | none => rfl
  | some j => rw [hq] at this; cases this
/-- How far the least free one is. -/
def nxF (M : Nods) : Int → Nat → Nat
  | _, 0 => 0
  | c, k + 1 => if (gotK M c).isSome = true then nxF M (c + 1) k + 1 else 0
def nx (M : Nods) (c : Int) : Nat := nxF M c (M.length + 1)
theorem nxF_live (M : Nods) : ∀ (k : Nat) (c : Int) (i : Nat), i < nxF M c k → (gotK M (c + i)).isSome = true
  | 0, c, i, h => by simp [nxF] at h
  | k + 1, c, i, h => by
    rw [nxF] at h
    split at h
    · rename_i h1
      cases i with
      | zero => simpa using h1
      | succ i =>
        have := nxF_live M k (c + 1) i (by omega)
        rw [show c + ((i + 1 : Nat) : Int) = c + 1 + i by omega]; exact this
    · omega
theorem nxF_stop (M : Nods) : ∀ (k : Nat) (c : Int), nxF M c k < k → gotK M (c + nxF M c k) = none
  | 0, c, h => by omega
  | k + 1, c, h => by
    rw [nxF] at h ⊢
    split at h
    · rename_i h1
      rw [if_pos h1]
      have := nxF_stop M k (c + 1) (by omega)
      rw [show c + ((nxF M (c + 1) k + 1 : Nat) : Int) = c + 1 + nxF M (c + 1) k by omega]; exact this
    · rename_i h1
      rw [if_neg h1]
      simpa using h1
theorem sub_len : ∀ (S l : List Int), S.Nodup → (∀ x ∈ S, x ∈ l) → S.length ≤ l.length
  | [], l, _, _ => Nat.zero_le _
  | x :: S, l, hn, hs => by
    have hx := hs x List.mem_cons_self
    obtain ⟨h1, h2⟩ := List.nodup_cons.1 hn
    have := sub_len S (l.erase x) h2 fun y hy => (List.mem_erase_of_ne (fun e => h1 (by rw [← e]; exact hy))).2 (hs y (List.mem_cons_of_mem _ hy))
    rw [List.length_erase_of_mem hx] at this
    have hl : 0 < l.length := List.length_pos_of_mem hx
    simp; omega
/-- Numbers, one behind the other. -/
def seqI (c : Int) (n : Nat) : List Int := (List.range n).map fun i => c + (i : Nat)
theorem seqI_len (c : Int) (n : Nat) : (seqI c n).length = n := by simp [seqI]
theorem seqI_nd (c : Int) (n : Nat) : (seqI c n).Nodup := by
  unfold seqI
  rw [List.nodup_iff_pairwise_ne, List.pairwise_map]
  exact List.pairwise_lt_range.imp fun h => by omega
theorem seqI_mem {c x : Int} {n : Nat} : x ∈ seqI c n ↔ c ≤ x ∧ x < c + n := by
  unfold seqI
  rw [List.mem_map]
  constructor
  · rintro ⟨i, hi, rfl⟩
    have := List.mem_range.1 hi
    omega
  · rintro ⟨h1, h2⟩
    exact ⟨(x - c).toNat, List.mem_range.2 (by omega), by omega⟩
/-- As many in a row are no more than there are. -/
theorem run_le {M : Nods} {c : Int} {n : Nat} (h : ∀ i < n, (gotK M (c + (i : Nat))).isSome = true) : n ≤ M.length := by
  have := sub_len (seqI c n) (M.map Prod.fst) (seqI_nd c n) fun x hx => by
    obtain ⟨h1, h2⟩ := seqI_mem.1 hx
    have := h (x - c).toNat (by omega)
    rw [show c + ((x - c).toNat : Int) = x by omega] at this
    exact gotK_mem.1 this
  rwa [seqI_len, List.length_map] at this
theorem nx_live (M : Nods) (c : Int) : ∀ i < nx M c, (gotK M (c + i)).isSome = true := fun i h => nxF_live M _ c i h
theorem nx_stop (M : Nods) (c : Int) : gotK M (c + nx M c) = none := by
  refine nxF_stop M _ c ?_
  have := run_le (fun i h => nx_live M c i h)
  show nx M c < _
  omega
/-- An arena as it may be. -/
structure AI (M : Nods) (N : Nms) (c : Int) : Prop where
  ndM : (M.map Prod.fst).Nodup
  ndN : (N.map Prod.fst).Nodup
  pos : ∀ h x, gotK M h = some x → 1 ≤ h ∧ h ≤ 100000 ∧ NdOk x
  fwd : ∀ h x, gotK M h = some x → gotT N (nmB x) = some h
  bwd : ∀ t h, gotT N t = some h → ∃ x, gotK M h = some x ∧ nmB x = t
  one : 1 ≤ c
  free : ∀ h, 1 ≤ h → h < c → (gotK M h).isSome = true
theorem AI.empty : AI [] [] 1 := ⟨by simp, by simp, (fun _ _ e => by cases e), (fun _ _ e => by cases e), (fun _ _ e => by cases e), by omega, fun h h1 h2 => by omega⟩
/-- The next one. -/
def hN (M : Nods) (c : Int) : Int := c + nx M c
theorem AI.next {M : Nods} {N : Nms} {c : Int} (h : AI M N c) : 1 ≤ hN M c ∧ hN M c ≤ M.length + 1 ∧ gotK M (hN M c) = none ∧ ∀ k, 1 ≤ k → k < hN M c → (gotK M k).isSome = true := by
  have h0 := h.one
  have h1 : ∀ k, 1 ≤ k → k < hN M c → (gotK M k).isSome = true := fun k k1 k2 => by
    by_cases hk : k < c
    · exact h.free k k1 hk
    · have := nx_live M c (k - c).toNat (by unfold hN at k2; omega)
      rwa [show c + ((k - c).toNat : Int) = k by omega] at this
  refine ⟨by unfold hN; omega, ?_, nx_stop M c, h1⟩
  have := run_le (M := M) (c := 1) (n := (hN M c - 1).toNat) fun i hi => h1 _ (by omega) (by omega)
  omega
theorem AI.put {M : Nods} {N : Nms} {c : Int} (h : AI M N c) {y : Nd} (hy : NdOk y) (hg : gotT N (nmB y) = none) (hl : M.length < 100000) : AI (putK M (hN M c) y) (putT N (nmB y) (hN M c)) (hN M c) := by
  obtain ⟨n1, n2, n3, n4⟩ := h.next
  refine ⟨nodup_put h.ndM _ _, nodup_putT h.ndN _ _, fun k x e => ?_, fun k x e => ?_, fun t k e => ?_, n1, fun k k1 k2 => ?_⟩
  · rw [gotK_put] at e
    split at e
    · rename_i hk
      cases e
      exact ⟨by omega, by omega, hy⟩
    · exact h.pos k x e
  · rw [gotK_put] at e
    rw [gotT_put]
    split at e
    · rename_i hk
      cases e
      rw [if_pos rfl, hk]
    · have := h.fwd k x e
      rw [if_neg (fun e => by rw [e, this] at hg; cases hg)]
      exact this
  · rw [gotT_put] at e
    split at e
    · rename_i ht
      cases e
      exact ⟨y, by rw [gotK_put, if_pos rfl], ht⟩
    · obtain ⟨x, e1, e2⟩ := h.bwd t k e
      refine ⟨x, ?_, e2⟩
      rw [gotK_put, if_neg (fun e => by rw [e, e1] at n3; cases n3)]
      exact e1
  · rw [gotK_put, if_neg (by omega)]
    exact n4 k k1 k2
theorem AI.drop {M : Nods} {N : Nms} {c h : Int} {x : Nd} (hI : AI M N c) (hg : gotK M h = some x) : AI (delK M h) (delT N (nmB x)) (min c h) := by
  have h0 := hI.one
  have h1 := (hI.pos h x hg).1
  refine ⟨nodup_delK hI.ndM _, nodup_delT hI.ndN _, fun k y e => ?_, fun k y e => ?_, fun t k e => ?_, by omega, fun k k1 k2 => ?_⟩
  · rw [gotK_del hI.ndM] at e
    split at e
    · cases e
    · exact hI.pos k y e
  · rw [gotK_del hI.ndM] at e
    split at e
    · cases e
    · rename_i hk
      have := hI.fwd k y e
      rw [gotT_del hI.ndN, if_neg (fun e => ?_), this]
      have h2 := hI.fwd h x hg
      rw [e, this] at h2
      exact hk (Option.some.inj h2).symm
  · rw [gotT_del hI.ndN] at e
    split at e
    · cases e
    · rename_i ht
      obtain ⟨y, e1, e2⟩ := hI.bwd t k e
      refine ⟨y, ?_, e2⟩
      rw [gotK_del hI.ndM, if_neg (fun e => ?_), e1]
      rw [← e, hg] at e1
      cases e1
      exact ht e2
  · rw [gotK_del hI.ndM, if_neg (by omega)]
    exact hI.free k k1 (by omega)
/-- A batch, and what is under it. -/
structure PS where
  M : Nods
  N : Nms
  c : Int
  hs : List Int
  gs : List Int
def PS.put (s : PS) (x : Nd) : PS := match gotT s.N (nmB (resN s.hs x)) with
  | some h => { s with hs := s.hs ++ [h] }
  | none => ⟨putK s.M (hN s.M s.c) (resN s.hs x), putT s.N (nmB (resN s.hs x)) (hN s.M s.c), hN s.M s.c, s.hs ++ [hN s.M s.c], s.gs ++ [hN s.M s.c]⟩
def PS.puts (s : PS) (l : List Nd) : PS := l.foldl PS.put s
structure AS where
  M : Nods
  N : Nms
  c : Int
def AS.drop (s : AS) (h : Int) : AS := match gotK s.M h with
  | some x => ⟨delK s.M h, delT s.N (nmB x), min s.c h⟩
  | none => s
def AS.drops (s : AS) (l : List Int) : AS := l.foldl AS.drop s
/-- A batch over an arena with n nodes at first, behind so many. -/
structure PI (n : Nat) (s : PS) : Prop where
  ai : AI s.M s.N s.c
  len : s.M.length ≤ n + s.hs.length
  hs : ∀ h ∈ s.hs, (gotK s.M h).isSome = true
  gs : ∀ h ∈ s.gs, (gotK s.M h).isSome = true
  nd : s.gs.Nodup
  gl : s.gs.length ≤ s.hs.length
theorem putK_len {α : Type} (M : List (Int × α)) (h : Int) (y : α) : (putK M h y).length ≤ M.length + 1 := by
  unfold putK
  split <;> simp
theorem PI.put {n : Nat} {s : PS} {x : Nd} (h : PI n s) (hx : NdOk (resN s.hs x)) (hl : n + s.hs.length < 100000) : PI n (s.put x) ∧ (s.put x).hs.length = s.hs.length + 1 := by
  unfold PS.put
  have h1 := h.len
  cases hg : gotT s.N (nmB (resN s.hs x)) with
  | some k =>
    refine ⟨⟨h.ai, by simp; omega, fun k' hk => ?_, h.gs, h.nd, by have := h.gl; simp; omega⟩, by simp⟩
    rcases List.mem_append.1 hk with hk | hk
    · exact h.hs k' hk
    · obtain rfl := List.mem_singleton.1 hk
      obtain ⟨y, e, _⟩ := h.ai.bwd _ _ hg
      rw [e]; rfl
  | none =>
    have hn := h.ai.next
    have key : ∀ k, (gotK s.M k).isSome = true ∨ k = hN s.M s.c → (gotK (putK s.M (hN s.M s.c) (resN s.hs x)) k).isSome = true := fun k hk => by
      rw [gotK_put]
      split
      · rfl
      · rename_i h2
        rcases hk with hk | hk
        · exact hk
        · exact absurd hk.symm h2
    refine ⟨⟨h.ai.put hx hg (by omega), ?_, fun k hk => key k ?_, fun k hk => key k ?_, ?_, by have := h.gl; simp; omega⟩, by simp⟩
    · have := putK_len s.M (hN s.M s.c) (resN s.hs x)
      simp; omega
    · rcases List.mem_append.1 hk with hk | hk
      · exact .inl (h.hs k hk)
      · exact .inr (List.mem_singleton.1 hk)
    · rcases List.mem_append.1 hk with hk | hk
      · exact .inl (h.gs k hk)
      · exact .inr (List.mem_singleton.1 hk)
    · rw [List.nodup_append]
      refine ⟨h.nd, by simp, fun a ha b hb => ?_⟩
      obtain rfl := List.mem_singleton.1 hb
      intro e
      have := h.gs a ha
      rw [e, hn.2.2.1] at this
      cases this
end Go.AL
