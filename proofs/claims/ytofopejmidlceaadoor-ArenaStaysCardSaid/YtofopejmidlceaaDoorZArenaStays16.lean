/-
  DERIVED: THE SHELF's CONTRACTS AT THIS DUMP, IN PLAIN WORDS (tools/lay-plain.mjs out of 'YtofopejmidlceaaDoorSlsoft.lean', which tools/lay-shelf.mjs wrote): THE SAME DECLARATIONS UNDER THE SAME NAMES: 'import', 'namespace', 'open', 'def', 'theorem' AND NOTHING ELSE: no command of the shelf's: FOR A HAND-IN. Each laying: the table of numbers ('.._ren') and one theorem, a field a fact of the dump's own or the kernel's comparison; each contract: ONE APPLICATION.
-/
import Derived.Test.YtofopejmidlceaaDoorZArenaStays15
import Derived.Ground.GgzProg
import Derived.Ground.SlgmProg
import Derived.Shelf.SlIterI.Nil
import Derived.Shelf.SortM.Plain
import Derived.Shelf.SortM.SortNone
import Derived.Test.YtofopejmidlceaaDoorProg
import Derived.Test.YtofopejmidlceaaDoorZArenaStays12
import Derived.Test.YtofopejmidlceaaDoorZArenaStays11
import Derived.Test.YtofopejmidlceaaDoorZArenaStays9
/-! Contract: arena's Put. -/
namespace Go.AL
open Go.Proofs
set_option linter.unusedSimpArgs false
set_option linter.unusedVariables false
theorem AS.drop_ai {s : AS} (h : AI s.M s.N s.c) (k : Int) : AI (s.drop k).M (s.drop k).N (s.drop k).c := by
  unfold AS.drop
  cases hg : gotK s.M k with
  | none => exact h
  | some x => exact h.drop hg
theorem AS.drop_got {s : AS} (h : AI s.M s.N s.c) (k n : Int) : gotK (s.drop k).M n = if k = n then none else gotK s.M n := by
  unfold AS.drop
  cases hg : gotK s.M k with
  | none =>
    simp only
    split
    · rename_i e; rw [← e]; exact hg
    · rfl
  | some x => exact gotK_del h.ndM k n
theorem AS.drops_ai : ∀ {l : List Int} {s : AS}, AI s.M s.N s.c → AI (s.drops l).M (s.drops l).N (s.drops l).c
  | [], s, h => h
  | k :: l, s, h => AS.drops_ai (l := l) (s := s.drop k) (AS.drop_ai h k)
theorem AS.drops_got : ∀ {l : List Int} {s : AS}, AI s.M s.N s.c → ∀ n, gotK (s.drops l).M n = if n ∈ l then none else gotK s.M n
  | [], s, h, n => by simp [AS.drops]
  | k :: l, s, h, n => by
    have h1 := AS.drops_got (l := l) (s := s.drop k) (AS.drop_ai h k) n
    have e : s.drops (k :: l) = (s.drop k).drops l := rfl
    rw [e, h1, AS.drop_got h]
    by_cases h2 : n ∈ l
    · simp [h2]
    · by_cases h3 : k = n
      · subst h3; simp [h2]
      · have h4 : ¬ n = k := fun e => h3 e.symm
        simp [h2, h3, h4]
theorem resN_ok {hs : List Int} {x : Nd} (hx : NdOk x) (hh : ∀ h ∈ hs, 0 ≤ h ∧ h ≤ 100000) : NdOk (resN hs x) := by
  refine ⟨hx.k, fun n hn => ?_, hx.nums, by simp [resN]; exact hx.rl, hx.nl, hx.tl⟩
  obtain ⟨r, hr, rfl⟩ := List.mem_map.1 hn
  unfold resR
  split
  · cases hq : hs[(-1 - r).toNat]? with
    | none => simp [hq]
    | some y => have := hh y (List.mem_of_getElem? hq); simp [hq]; omega
  · exact hx.refs r hr
theorem le_same (σ : ASt) : σ.Le σ := ⟨fun _ _ h => h, fun _ _ h => h, fun _ _ h => h, Nat.le_refl _⟩
/-- A Ref that is none, in a list. -/
def badL (M : Nods) : List Nd → Nat → Bool
  | [], _ => false
  | x :: l, i => x.refs.any (badR M i) || badL M l (i + 1)
theorem badL_at (M : Nods) : ∀ (l : List Nd) (i j : Nat) (x : Nd), badL M l i = false → l[j]? = some x → x.refs.any (badR M ((i + j : Nat) : Int)) = false
  | [], _, _, _, _, h => by cases h
  | y :: l, i, 0, x, h, hx => by
    simp at hx; subst hx
    simp only [badL, Bool.or_eq_false_iff] at h
    exact h.1
  | y :: l, i, j + 1, x, h, hx => by
    simp only [badL, Bool.or_eq_false_iff] at h
    have := badL_at M l (i + 1) j x h.2 (by simpa using hx)
    rwa [show i + 1 + j = i + (j + 1) by omega] at this
structure LOk (M : Nods) (N : Nms) (c a : Int) (l : List Nd) : Prop where
  ai : AI M N c
  ml : M.length ≤ 70000
  len : l.length ≤ 10000
  nd : ∀ x ∈ l, NdOk x
  room : 0 ≤ a ∧ a ≤ 65536
def ps0 (M : Nods) (N : Nms) (c : Int) : PS := ⟨M, N, c, [], []⟩
theorem PI.zero {M : Nods} {N : Nms} {c : Int} (h : AI M N c) : PI M.length (ps0 M N c) := ⟨h, by simp [ps0], by simp [ps0], by simp [ps0], by simp [ps0], by simp [ps0]⟩
theorem PI.ok {n : Nat} {s : PS} (h : PI n s) : ∀ k ∈ s.hs, 0 ≤ k ∧ k ≤ 100000 := fun k hk => by
  have := h.hs k hk
  cases hg : gotK s.M k with
  | none => rw [hg] at this; cases this
  | some x => have := h.ai.pos k x hg; omega
theorem puts_take {s : PS} {l : List Nd} {i : Nat} {x : Nd} (hx : l[i]? = some x) : s.puts (l.take (i + 1)) = (s.puts (l.take i)).put x := by
  rw [List.take_add_one, hx]
  simp [PS.puts]
theorem drops_take {s : AS} {l : List Int} {i : Nat} {x : Int} (hx : l[i]? = some x) : s.drops (l.take (i + 1)) = (s.drops (l.take i)).drop x := by
  rw [List.take_add_one, hx]
  simp [AS.drops]
theorem PI.puts {M : Nods} {N : Nms} {c a : Int} {l : List Nd} (h : LOk M N c a l) : ∀ i ≤ l.length, PI M.length ((ps0 M N c).puts (l.take i)) ∧ ((ps0 M N c).puts (l.take i)).hs.length = i
  | 0, _ => ⟨PI.zero h.ai, rfl⟩
  | i + 1, hi => by
    obtain ⟨h1, h2⟩ := PI.puts h i (by omega)
    obtain ⟨x, hx⟩ : ∃ x, l[i]? = some x := ⟨_, List.getElem?_eq_getElem (by omega)⟩
    rw [puts_take hx]
    have hl := h.ml
    have hl2 := h.len
    obtain ⟨h3, h4⟩ := h1.put (resN_ok (h.nd x (List.mem_of_getElem? hx)) h1.ok) (by omega)
    exact ⟨h3, by omega⟩
def ApI1 (M : Nods) (fs : List (AV × AV)) (a c : Int) (l : List Nd) (bb : Bool) (q : Nat) (fr : List AV) (σ : ASt) : Prop := ∃ i m : Nat, i + q = l.length ∧ badL M (l.drop i) i = bb ∧ 2 < m ∧ σ = arG a (esK ndA M) fs c [] [] m ∧ fr = frm 67 [(0, .ptr 0 0), (1, .vsl (l.map ndA)), (4, .p (.slice none 0 0)), (5, vi 0), (15, .vsl (l.map ndA)), (16, vi (l.length : Nat)), (17, vi (i : Nat))]
def ApI2 (M : Nods) (N : Nms) (a c : Int) (l : List Nd) (B : Nat) (q : Nat) (fr : List AV) (σ : ASt) : Prop := ∃ (i k1 k2 m : Nat) (s : PS), i + q = l.length ∧ s = (ps0 M N c).puts (l.take i) ∧ BtN B k1 k2 m ∧ σ = btS a (esK ndA s.M) (esT vi s.N) s.c B k1 k2 m s.hs s.gs ∧ fr = frm 67 [(0, .ptr 0 0), (1, .vsl (l.map ndA)), (4, .p (.slice none 0 0)), (5, vi 0), (8, .ptr B 0), (30, .vsl (l.map ndA)), (31, vi (l.length : Nat)), (32, vi (i : Nat))]
def ApI3 (a : Int) (d : PS) (B k1 k2 m : Nat) (q : Nat) (fr : List AV) (σ : ASt) : Prop := ∃ (i : Nat) (e : AS), i + q = d.gs.length ∧ e = (⟨d.M, d.N, d.c⟩ : AS).drops (d.gs.take i) ∧ σ = arG a (esK ndA e.M) (esT vi e.N) e.c [(B, [.ptr 0 0, .hsl k1 0 d.hs.length, .hsl k2 0 d.gs.length])] [(k1, d.hs.map vi), (k2, d.gs.map vi)] m ∧ fr = frm 67 [(0, .ptr 0 0), (4, .p (.slice none 0 0)), (5, vi 0), (57, .hsl k2 0 d.gs.length), (58, vi (d.gs.length : Nat)), (59, vi (i : Nat))]
set_option maxHeartbeats 8000000 in
set_option maxRecDepth 100000 in
theorem aputBad_ok (M : Nods) (N : Nms) (a c : Int) (l : List Nd) (hL : LOk M N c a l) (hb0 : badL M l 0 = true) : AC Tryd.prog 18 [.vsl (l.map ndA)] a (esK ndA M) (esT vi N) c (.tup [.p (.slice none 0 0), vi 1]) (esK ndA M) (esT vi N) c := by
  obtain ⟨bb, hbad⟩ : ∃ bb, badL M l 0 = bb := ⟨_, rfl⟩
  rw [hbad] at hb0
  have hfs : clM (esT vi N) := cl_esT N
  have hlv : (l.map ndA).length = l.length := List.length_map _
  have hlen := hL.len
  have hml := hL.ml
  refine ac_in Tryd.func18 Tryd.ntmps18 rfl ?_
  rw [show arS a (esK ndA M) (esT vi N) c = arG a (esK ndA M) (esT vi N) c [] [] 3 from rfl]
  repeat' first | refine aw_W [7, 10] trivial trivial ?_ | refine aw_cond rfl (fun h => ?_) (fun h => ?_)
  refine aw_loopW [0, 1, 4, 5, 15, 16, 17] (fun q fr σ => ApI1 M (esT vi N) a c l bb q fr σ) l.length ?_ ?_
  · exact ⟨arG a (esK ndA M) (esT vi N) c [] [] 3, le_arG (by simp) (by simp) (by simp) (by simp) (by simp) (by simp), 0, 3, by omega, hbad, by omega, rfl, by simp⟩
  · rintro q fr σ ⟨i, m, hi, hb, hm, rfl, rfl⟩
    simp -implicitDefEqProofs
    have m0 : ¬ m = 0 := by omega
    have m0' : ¬ 0 = m := by omega
    by_cases hlt : i < l.length
    · have hlti : (i : Int) < l.length := by omega
      obtain ⟨x, hx1⟩ : ∃ x, l[i] = x := ⟨_, rfl⟩
      have hxg : l[i]? = some x := by rw [List.getElem?_eq_getElem hlt, hx1]
      have hxo := hL.nd x (List.mem_of_getElem? hxg)
      have wi : IntKind.i64.wrap ((i : Int) + 1) = (i : Int) + 1 := wrap_id (by omega) (by omega)
      rw [List.drop_eq_getElem_cons hlt, hx1, badL] at hb
      have hw := awrong_ok M (esT vi N) hfs a c i (by omega) x (by have := hxo.rl; omega)
      have hnd : ndA x = .agg [vi x.k, .vsl (x.refs.map vi), .vsl (x.nums.map vi), vs x.text] := rfl
      repeat' first | refine aw_W [7, 10] (And.intro @hlt (And.intro @hlti (And.intro @hx1 (And.intro @hxg (And.intro @hlv (And.intro @hnd (And.intro @m0 @m0'))))))) trivial ?_ | refine aw_cond rfl (fun h => ?_) (fun h => ?_)
      rw [← hnd]
      refine AWL.less (τ := arG a (esK ndA M) (esT vi N) c [] [] (m + 1)) (le_arG (by simp [upd, m0']) (by simp) (by simp) (by simp) (by simp) (by simp)) ?_
      refine awl_ar [7] rfl rfl rfl (by kernel_rfl) hw rfl (by simp) (by simp) (cl_esN M) hfs (cl_esN M) hfs (at_arG (by simp) (by simp)) ?_
      simp -implicitDefEqProofs
      cases hq : x.refs.any (badR M i) with
      | true =>
        rw [hq, Bool.true_or] at hb
        repeat' first | refine aw_W [7, 10] trivial trivial ?_ | refine aw_cond rfl (fun h => ?_) (fun h => ?_)
        refine ⟨by simp [tupOf], by simp, by simp, by simp⟩
      | false =>
        rw [hq, Bool.false_or] at hb
        repeat' first | refine aw_W [7, 10] @wi trivial ?_ | refine aw_cond rfl (fun h => ?_) (fun h => ?_)
        exact ⟨q - 1, by omega, arG a (esK ndA M) (esT vi N) c [] [] (m + 1), le_arG (by simp) (by simp) (by simp) (by simp) (by simp) (by simp), i + 1, m + 1, by omega, hb, by omega, rfl, by simp⟩
    · have hlti : ¬ (i : Int) < l.length := by omega
      rw [List.drop_eq_nil_of_le (by omega), badL] at hb
      rw [← hb] at hb0
      cases hb0
set_option maxHeartbeats 8000000 in
set_option maxRecDepth 100000 in
theorem aputOk_ok (M : Nods) (N : Nms) (a c : Int) (l : List Nd) (hL : LOk M N c a l) (hb0 : badL M l 0 = false) (s : PS) (hs : (ps0 M N c).puts l = s) (hsm : (s.M.length : Int) ≤ a) : AC Tryd.prog 18 [.vsl (l.map ndA)] a (esK ndA M) (esT vi N) c (.tup [.vsl (s.hs.map vi), vi 0]) (esK ndA s.M) (esT vi s.N) s.c := by
  obtain ⟨bb, hbad⟩ : ∃ bb, badL M l 0 = bb := ⟨_, rfl⟩
  rw [hbad] at hb0
  have hfs : clM (esT vi N) := cl_esT N
  have hlv : (l.map ndA).length = l.length := List.length_map _
  have hlen := hL.len
  have hml := hL.ml
  refine ac_in Tryd.func18 Tryd.ntmps18 rfl ?_
  rw [show arS a (esK ndA M) (esT vi N) c = arG a (esK ndA M) (esT vi N) c [] [] 3 from rfl]
  repeat' first | refine aw_W [7, 10] trivial trivial ?_ | refine aw_cond rfl (fun h => ?_) (fun h => ?_)
  refine aw_loopW [0, 1, 4, 5, 15, 16, 17] (fun q fr σ => ApI1 M (esT vi N) a c l bb q fr σ) l.length ?_ ?_
  · exact ⟨arG a (esK ndA M) (esT vi N) c [] [] 3, le_arG (by simp) (by simp) (by simp) (by simp) (by simp) (by simp), 0, 3, by omega, hbad, by omega, rfl, by simp⟩
  · rintro q fr σ ⟨i, m, hi, hb, hm, rfl, rfl⟩
    simp -implicitDefEqProofs
    have m0 : ¬ m = 0 := by omega
    have m0' : ¬ 0 = m := by omega
    by_cases hlt : i < l.length
    · have hlti : (i : Int) < l.length := by omega
      obtain ⟨x, hx1⟩ : ∃ x, l[i] = x := ⟨_, rfl⟩
      have hxg : l[i]? = some x := by rw [List.getElem?_eq_getElem hlt, hx1]
      have hxo := hL.nd x (List.mem_of_getElem? hxg)
      have wi : IntKind.i64.wrap ((i : Int) + 1) = (i : Int) + 1 := wrap_id (by omega) (by omega)
      rw [List.drop_eq_getElem_cons hlt, hx1, badL] at hb
      have hw := awrong_ok M (esT vi N) hfs a c i (by omega) x (by have := hxo.rl; omega)
      have hnd : ndA x = .agg [vi x.k, .vsl (x.refs.map vi), .vsl (x.nums.map vi), vs x.text] := rfl
      repeat' first | refine aw_W [7, 10] (And.intro @hlt (And.intro @hlti (And.intro @hx1 (And.intro @hxg (And.intro @hlv (And.intro @hnd (And.intro @m0 @m0'))))))) trivial ?_ | refine aw_cond rfl (fun h => ?_) (fun h => ?_)
      rw [← hnd]
      refine AWL.less (τ := arG a (esK ndA M) (esT vi N) c [] [] (m + 1)) (le_arG (by simp [upd, m0']) (by simp) (by simp) (by simp) (by simp) (by simp)) ?_
      refine awl_ar [7] rfl rfl rfl (by kernel_rfl) hw rfl (by simp) (by simp) (cl_esN M) hfs (cl_esN M) hfs (at_arG (by simp) (by simp)) ?_
      simp -implicitDefEqProofs
      cases hq : x.refs.any (badR M i) with
      | true =>
        rw [hq, Bool.true_or] at hb
        rw [hb0] at hb
        cases hb
      | false =>
        rw [hq, Bool.false_or] at hb
        repeat' first | refine aw_W [7, 10] @wi trivial ?_ | refine aw_cond rfl (fun h => ?_) (fun h => ?_)
        exact ⟨q - 1, by omega, arG a (esK ndA M) (esT vi N) c [] [] (m + 1), le_arG (by simp) (by simp) (by simp) (by simp) (by simp) (by simp), i + 1, m + 1, by omega, hb, by omega, rfl, by simp⟩
    · have hlti : ¬ (i : Int) < l.length := by omega
      rw [List.drop_eq_nil_of_le (by omega), badL] at hb
      rw [hb0] at hbad
      repeat' first | refine aw_N [29] (And.intro @hlti (And.intro @m0 @m0')) trivial ?_ | refine aw_cond rfl (fun h => ?_) (fun h => ?_)
      refine aw_openBx (b := m) (i := 1) (cs := [.ptr 0 0, .p (.slice none 0 0), .p (.slice none 0 0)]) (by simp [upd]) rfl ?_
      refine aw_openBx (b := m) (i := 2) (cs := [.ptr 0 0, .hsl (m + 1) 0 0, .p (.slice none 0 0)]) (by simp [upd]) rfl ?_
      refine aw_loopW [0, 1, 4, 5, 8, 30, 31, 32] (fun q fr σ => ApI2 M N a c l m q fr σ) l.length ?_ ?_
      · refine ⟨btS a (esK ndA M) (esT vi N) c m (m + 1) (m + 2) (m + 3) [] [], le_arG ?_ ?_ ?_ ?_ ?_ ?_, 0, m + 1, m + 2, m + 3, ps0 M N c, by omega, by simp [PS.puts], ⟨by omega, by omega, by omega, by omega, by omega, by omega⟩, rfl, by simp⟩
        · simp [upd, ASt.addSl, m0']
        · simp [upd, ASt.addSl]
        · simp [upd, ASt.addSl]
        · simp [upd, ASt.addSl]
        · simp [upd, ASt.addSl]
        · simp [upd, ASt.addSl]
      · have hB2 : 2 < m := hm
        clear hi hb hlt hlti m0 m0' hm
        generalize m = B at *
        clear i
        rintro q fr σ ⟨i, k1, k2, m, d, hi, hd, hn, rfl, rfl⟩
        simp -implicitDefEqProofs
        obtain ⟨hP, hPl⟩ := PI.puts hL i (by omega)
        rw [← hd] at hP hPl
        have hb1 := hn.b
        have m0 : ¬ m = 0 := by omega
        have m0' : ¬ 0 = m := by omega
        have B0 : ¬ B = 0 := by omega
        have Bm : ¬ B = m := by omega
        have mB : ¬ m = B := by omega
        have kk : ¬ k2 = k1 := fun e => hn.n3 e.symm
        by_cases hlt : i < l.length
        · have hlti : (i : Int) < l.length := by omega
          obtain ⟨x, hx1⟩ : ∃ x, l[i] = x := ⟨_, rfl⟩
          have hxg : l[i]? = some x := by rw [List.getElem?_eq_getElem hlt, hx1]
          have hxo := hL.nd x (List.mem_of_getElem? hxg)
          have wi : IntKind.i64.wrap ((i : Int) + 1) = (i : Int) + 1 := wrap_id (by omega) (by omega)
          have hnd : ndA x = .agg [vi x.k, .vsl (x.refs.map vi), .vsl (x.nums.map vi), vs x.text] := rfl
          have hbx := badL_at M l 0 i x hbad hxg
          have hr : ∀ r ∈ x.refs, -1 - r < d.hs.length := fun r hr => by
            rw [List.any_eq_false] at hbx
            have := hbx r hr
            simp [badR] at this
            omega
          have hyo : NdOk (resN d.hs x) := resN_ok hxo hP.ok
          have hgl := hP.gl
          have hnx := nx_live d.M d.c
          have hns := nx_stop d.M d.c
          have hNx := hP.ai.next
          have hPm := hP.len
          have hc1 := hP.ai.one
          have htk := puts_take (s := ps0 M N c) hxg
          rw [← hd] at htk
          repeat' first | refine aw_W [7, 10] (And.intro @hlt (And.intro @hlti (And.intro @hx1 (And.intro @hxg (And.intro @hlv (And.intro @hnd (And.intro @m0 @m0'))))))) trivial ?_ | refine aw_cond rfl (fun h => ?_) (fun h => ?_)
          rw [← hnd]
          refine AWL.less (τ := btS a (esK ndA d.M) (esT vi d.N) d.c B k1 k2 (m + 1) d.hs d.gs) (le_arG (by simp [btS, upd, m0']) (by simp [btS]) (by simp [btS]) (by simp [btS, upd, Bm, B0]) (by simp [btS, kk]) (by simp [btS])) ?_
          have hn1 : BtN B k1 k2 (m + 1) := ⟨⟨hn.b.1, by omega⟩, ⟨hn.l1.1, by have := hn.l1; omega⟩, ⟨hn.l2.1, by have := hn.l2; omega⟩, hn.n1, hn.n2, hn.n3⟩
          cases hg : gotT d.N (nmB (resN d.hs x)) with
          | some h =>
            have he : d.put x = { d with hs := d.hs ++ [h] } := by unfold PS.put; rw [hg]
            refine awl_cons rfl (opq_call rfl rfl rfl ((aput1_ok d.M d.N a d.c B k1 k2 (m + 1) d.hs d.gs x hn1 (by omega) hr hxo hyo h hg).mono fun r τ hq => ?_))
            obtain ⟨rfl, k1', m', hn2, hle⟩ := hq
            refine AWL.less hle ?_
            refine awl_run' [10] ?_
            simp -implicitDefEqProofs
            repeat' first | refine aw_W [7, 10] @wi trivial ?_ | refine aw_cond rfl (fun h => ?_) (fun h => ?_)
            refine ⟨q - 1, by omega, _, le_same _, i + 1, k1', k2, m', d.put x, by omega, by rw [htk], hn2, by rw [he], by simp⟩
          | none =>
            have he : d.put x = ⟨d.M ++ [(d.c + nx d.M d.c, resN d.hs x)], d.N ++ [(nmB (resN d.hs x), d.c + nx d.M d.c)], d.c + nx d.M d.c, d.hs ++ [d.c + nx d.M d.c], d.gs ++ [d.c + nx d.M d.c]⟩ := by
              unfold PS.put
              rw [hg]
              simp only [hN]
              rw [putK_new hns, putT_new hg]
            refine awl_cons rfl (opq_call rfl rfl rfl ((aput2_ok d.M d.N a d.c B k1 k2 (m + 1) d.hs d.gs x hn1 (by omega) (by omega) hr hxo hyo (nx d.M d.c) (by unfold hN at hNx; omega) hnx hns hg).mono fun r τ hq => ?_))
            obtain ⟨rfl, k1', k2', m', hn2, hle⟩ := hq
            refine AWL.less hle ?_
            refine awl_run' [10] ?_
            simp -implicitDefEqProofs
            repeat' first | refine aw_W [7, 10] @wi trivial ?_ | refine aw_cond rfl (fun h => ?_) (fun h => ?_)
            refine ⟨q - 1, by omega, _, le_same _, i + 1, k1', k2', m', d.put x, by omega, by rw [htk], hn2, by rw [he], by simp⟩
        · have hlti : ¬ (i : Int) < l.length := by omega
          rw [List.take_of_length_le (by omega), hs] at hd
          subst hd
          have h1 := isIt_esK ndA d.M
          have h2 := esK_len ndA d.M
          unfold btS
          repeat' first | refine aw_V [7, 10] (And.intro @hlti (And.intro @h1 (And.intro @h2 (And.intro @hsm @B0)))) trivial ?_ | refine aw_cond rfl (fun h => ?_) (fun h => ?_)
          exact ⟨by simp [tupOf, clo, clo1, clo0, List.take_of_length_le], by simp [ASt.noSl], by simp [ASt.noSl], by simp [ASt.noSl]⟩
set_option maxHeartbeats 8000000 in
set_option maxRecDepth 100000 in
theorem aputFull_ok (M : Nods) (N : Nms) (a c : Int) (l : List Nd) (hL : LOk M N c a l) (hb0 : badL M l 0 = false) (s : PS) (hs : (ps0 M N c).puts l = s) (hsm : a < (s.M.length : Int)) (d : AS) (hd0 : (⟨s.M, s.N, s.c⟩ : AS).drops s.gs = d) : AC Tryd.prog 18 [.vsl (l.map ndA)] a (esK ndA M) (esT vi N) c (.tup [.p (.slice none 0 0), vi 3]) (esK ndA d.M) (esT vi d.N) d.c := by
  obtain ⟨dd, hdd⟩ : ∃ dd, dd = d := ⟨_, rfl⟩
  rw [← hdd] at hd0 ⊢
  clear hdd d
  obtain ⟨bb, hbad⟩ : ∃ bb, badL M l 0 = bb := ⟨_, rfl⟩
  rw [hbad] at hb0
  have hfs : clM (esT vi N) := cl_esT N
  have hlv : (l.map ndA).length = l.length := List.length_map _
  have hlen := hL.len
  have hml := hL.ml
  refine ac_in Tryd.func18 Tryd.ntmps18 rfl ?_
  rw [show arS a (esK ndA M) (esT vi N) c = arG a (esK ndA M) (esT vi N) c [] [] 3 from rfl]
  repeat' first | refine aw_W [7, 10] trivial trivial ?_ | refine aw_cond rfl (fun h => ?_) (fun h => ?_)
  refine aw_loopW [0, 1, 4, 5, 15, 16, 17] (fun q fr σ => ApI1 M (esT vi N) a c l bb q fr σ) l.length ?_ ?_
  · exact ⟨arG a (esK ndA M) (esT vi N) c [] [] 3, le_arG (by simp) (by simp) (by simp) (by simp) (by simp) (by simp), 0, 3, by omega, hbad, by omega, rfl, by simp⟩
  · rintro q fr σ ⟨i, m, hi, hb, hm, rfl, rfl⟩
    simp -implicitDefEqProofs
    have m0 : ¬ m = 0 := by omega
    have m0' : ¬ 0 = m := by omega
    by_cases hlt : i < l.length
    · have hlti : (i : Int) < l.length := by omega
      obtain ⟨x, hx1⟩ : ∃ x, l[i] = x := ⟨_, rfl⟩
      have hxg : l[i]? = some x := by rw [List.getElem?_eq_getElem hlt, hx1]
      have hxo := hL.nd x (List.mem_of_getElem? hxg)
      have wi : IntKind.i64.wrap ((i : Int) + 1) = (i : Int) + 1 := wrap_id (by omega) (by omega)
      rw [List.drop_eq_getElem_cons hlt, hx1, badL] at hb
      have hw := awrong_ok M (esT vi N) hfs a c i (by omega) x (by have := hxo.rl; omega)
      have hnd : ndA x = .agg [vi x.k, .vsl (x.refs.map vi), .vsl (x.nums.map vi), vs x.text] := rfl
      repeat' first | refine aw_W [7, 10] (And.intro @hlt (And.intro @hlti (And.intro @hx1 (And.intro @hxg (And.intro @hlv (And.intro @hnd (And.intro @m0 @m0'))))))) trivial ?_ | refine aw_cond rfl (fun h => ?_) (fun h => ?_)
      rw [← hnd]
      refine AWL.less (τ := arG a (esK ndA M) (esT vi N) c [] [] (m + 1)) (le_arG (by simp [upd, m0']) (by simp) (by simp) (by simp) (by simp) (by simp)) ?_
      refine awl_ar [7] rfl rfl rfl (by kernel_rfl) hw rfl (by simp) (by simp) (cl_esN M) hfs (cl_esN M) hfs (at_arG (by simp) (by simp)) ?_
      simp -implicitDefEqProofs
      cases hq : x.refs.any (badR M i) with
      | true =>
        rw [hq, Bool.true_or] at hb
        rw [hb0] at hb
        cases hb
      | false =>
        rw [hq, Bool.false_or] at hb
        repeat' first | refine aw_W [7, 10] @wi trivial ?_ | refine aw_cond rfl (fun h => ?_) (fun h => ?_)
        exact ⟨q - 1, by omega, arG a (esK ndA M) (esT vi N) c [] [] (m + 1), le_arG (by simp) (by simp) (by simp) (by simp) (by simp) (by simp), i + 1, m + 1, by omega, hb, by omega, rfl, by simp⟩
    · have hlti : ¬ (i : Int) < l.length := by omega
      rw [List.drop_eq_nil_of_le (by omega), badL] at hb
      rw [hb0] at hbad
      repeat' first | refine aw_N [29] (And.intro @hlti (And.intro @m0 @m0')) trivial ?_ | refine aw_cond rfl (fun h => ?_) (fun h => ?_)
      refine aw_openBx (b := m) (i := 1) (cs := [.ptr 0 0, .p (.slice none 0 0), .p (.slice none 0 0)]) (by simp [upd]) rfl ?_
      refine aw_openBx (b := m) (i := 2) (cs := [.ptr 0 0, .hsl (m + 1) 0 0, .p (.slice none 0 0)]) (by simp [upd]) rfl ?_
      refine aw_loopW [0, 1, 4, 5, 8, 30, 31, 32] (fun q fr σ => ApI2 M N a c l m q fr σ) l.length ?_ ?_
      · refine ⟨btS a (esK ndA M) (esT vi N) c m (m + 1) (m + 2) (m + 3) [] [], le_arG ?_ ?_ ?_ ?_ ?_ ?_, 0, m + 1, m + 2, m + 3, ps0 M N c, by omega, by simp [PS.puts], ⟨by omega, by omega, by omega, by omega, by omega, by omega⟩, rfl, by simp⟩
        · simp [upd, ASt.addSl, m0']
        · simp [upd, ASt.addSl]
        · simp [upd, ASt.addSl]
        · simp [upd, ASt.addSl]
        · simp [upd, ASt.addSl]
        · simp [upd, ASt.addSl]
      · have hB2 : 2 < m := hm
        clear hi hb hlt hlti m0 m0' hm
        generalize m = B at *
        clear i
        rintro q fr σ ⟨i, k1, k2, m, d, hi, hd, hn, rfl, rfl⟩
        simp -implicitDefEqProofs
        obtain ⟨hP, hPl⟩ := PI.puts hL i (by omega)
        rw [← hd] at hP hPl
        have hb1 := hn.b
        have m0 : ¬ m = 0 := by omega
        have m0' : ¬ 0 = m := by omega
        have B0 : ¬ B = 0 := by omega
        have Bm : ¬ B = m := by omega
        have mB : ¬ m = B := by omega
        have kk : ¬ k2 = k1 := fun e => hn.n3 e.symm
        by_cases hlt : i < l.length
        · have hlti : (i : Int) < l.length := by omega
          obtain ⟨x, hx1⟩ : ∃ x, l[i] = x := ⟨_, rfl⟩
          have hxg : l[i]? = some x := by rw [List.getElem?_eq_getElem hlt, hx1]
          have hxo := hL.nd x (List.mem_of_getElem? hxg)
          have wi : IntKind.i64.wrap ((i : Int) + 1) = (i : Int) + 1 := wrap_id (by omega) (by omega)
          have hnd : ndA x = .agg [vi x.k, .vsl (x.refs.map vi), .vsl (x.nums.map vi), vs x.text] := rfl
          have hbx := badL_at M l 0 i x hbad hxg
          have hr : ∀ r ∈ x.refs, -1 - r < d.hs.length := fun r hr => by
            rw [List.any_eq_false] at hbx
            have := hbx r hr
            simp [badR] at this
            omega
          have hyo : NdOk (resN d.hs x) := resN_ok hxo hP.ok
          have hgl := hP.gl
          have hnx := nx_live d.M d.c
          have hns := nx_stop d.M d.c
          have hNx := hP.ai.next
          have hPm := hP.len
          have hc1 := hP.ai.one
          have htk := puts_take (s := ps0 M N c) hxg
          rw [← hd] at htk
          repeat' first | refine aw_W [7, 10] (And.intro @hlt (And.intro @hlti (And.intro @hx1 (And.intro @hxg (And.intro @hlv (And.intro @hnd (And.intro @m0 @m0'))))))) trivial ?_ | refine aw_cond rfl (fun h => ?_) (fun h => ?_)
          rw [← hnd]
          refine AWL.less (τ := btS a (esK ndA d.M) (esT vi d.N) d.c B k1 k2 (m + 1) d.hs d.gs) (le_arG (by simp [btS, upd, m0']) (by simp [btS]) (by simp [btS]) (by simp [btS, upd, Bm, B0]) (by simp [btS, kk]) (by simp [btS])) ?_
          have hn1 : BtN B k1 k2 (m + 1) := ⟨⟨hn.b.1, by omega⟩, ⟨hn.l1.1, by have := hn.l1; omega⟩, ⟨hn.l2.1, by have := hn.l2; omega⟩, hn.n1, hn.n2, hn.n3⟩
          cases hg : gotT d.N (nmB (resN d.hs x)) with
          | some h =>
            have he : d.put x = { d with hs := d.hs ++ [h] } := by unfold PS.put; rw [hg]
            refine awl_cons rfl (opq_call rfl rfl rfl ((aput1_ok d.M d.N a d.c B k1 k2 (m + 1) d.hs d.gs x hn1 (by omega) hr hxo hyo h hg).mono fun r τ hq => ?_))
            obtain ⟨rfl, k1', m', hn2, hle⟩ := hq
            refine AWL.less hle ?_
            refine awl_run' [10] ?_
            simp -implicitDefEqProofs
            repeat' first | refine aw_W [7, 10] @wi trivial ?_ | refine aw_cond rfl (fun h => ?_) (fun h => ?_)
            refine ⟨q - 1, by omega, _, le_same _, i + 1, k1', k2, m', d.put x, by omega, by rw [htk], hn2, by rw [he], by simp⟩
          | none =>
            have he : d.put x = ⟨d.M ++ [(d.c + nx d.M d.c, resN d.hs x)], d.N ++ [(nmB (resN d.hs x), d.c + nx d.M d.c)], d.c + nx d.M d.c, d.hs ++ [d.c + nx d.M d.c], d.gs ++ [d.c + nx d.M d.c]⟩ := by
              unfold PS.put
              rw [hg]
              simp only [hN]
              rw [putK_new hns, putT_new hg]
            refine awl_cons rfl (opq_call rfl rfl rfl ((aput2_ok d.M d.N a d.c B k1 k2 (m + 1) d.hs d.gs x hn1 (by omega) (by omega) hr hxo hyo (nx d.M d.c) (by unfold hN at hNx; omega) hnx hns hg).mono fun r τ hq => ?_))
            obtain ⟨rfl, k1', k2', m', hn2, hle⟩ := hq
            refine AWL.less hle ?_
            refine awl_run' [10] ?_
            simp -implicitDefEqProofs
            repeat' first | refine aw_W [7, 10] @wi trivial ?_ | refine aw_cond rfl (fun h => ?_) (fun h => ?_)
            refine ⟨q - 1, by omega, _, le_same _, i + 1, k1', k2', m', d.put x, by omega, by rw [htk], hn2, by rw [he], by simp⟩
        · have hlti : ¬ (i : Int) < l.length := by omega
          rw [List.take_of_length_le (by omega), hs] at hd
          subst hd
          have h1 := isIt_esK ndA d.M
          have h2 := esK_len ndA d.M
          have hsm : ¬ (d.M.length : Int) ≤ a := by omega
          unfold btS
          repeat' first | refine aw_W [7, 10] (And.intro @hlti (And.intro @h1 (And.intro @h2 (And.intro @hsm @B0)))) trivial ?_ | refine aw_cond rfl (fun h => ?_) (fun h => ?_)
          refine aw_loopW [0, 4, 5, 57, 58, 59] (fun q fr σ => ApI3 a d B k1 k2 m q fr σ) d.gs.length ?_ ?_
          · exact ⟨_, le_same _, 0, ⟨d.M, d.N, d.c⟩, by omega, by simp [AS.drops], rfl, by simp⟩
          · have hgs2 : d.gs.length ≤ 10000 := by have := hP.gl; omega
            clear hi hlt hlti
            rintro q fr σ ⟨i, e, hi, he, rfl, rfl⟩
            simp -implicitDefEqProofs
            have hgv : (d.gs.map vi).length = d.gs.length := List.length_map _
            have hgl := hP.gl
            have hl1 := hn.l1
            have hl2 := hn.l2
            have hn3 := hn.n3
            by_cases hlt : i < d.gs.length
            · have hlti : (i : Int) < d.gs.length := by omega
              obtain ⟨x, hx1⟩ : ∃ x, d.gs[i] = x := ⟨_, rfl⟩
              have hxg : d.gs[i]? = some x := by rw [List.getElem?_eq_getElem hlt, hx1]
              have wi : IntKind.i64.wrap ((i : Int) + 1) = (i : Int) + 1 := wrap_id (by omega) (by omega)
              have hea : AI e.M e.N e.c := by rw [he]; exact AS.drops_ai (s := ⟨d.M, d.N, d.c⟩) hP.ai
              have heg : gotK e.M x = gotK d.M x := by
                rw [he, AS.drops_got (s := ⟨d.M, d.N, d.c⟩) hP.ai, if_neg]
                intro hm
                obtain ⟨j, hj1⟩ := List.getElem?_of_mem hm
                rw [List.getElem?_take] at hj1
                split at hj1
                · rename_i hj
                  have hnd := hP.nd
                  rw [List.nodup_iff_pairwise_ne, List.pairwise_iff_getElem] at hnd
                  have := hnd j i (by omega) hlt hj
                  rw [List.getElem?_eq_getElem (by omega)] at hj1
                  rw [Option.some.inj hj1, hx1] at this
                  exact this rfl
                · cases hj1
              have hdl := hP.gs x (List.mem_of_getElem? hxg)
              obtain ⟨y, hy⟩ : ∃ y, gotK d.M x = some y := by
                cases hq : gotK d.M x with
                | none => rw [hq] at hdl; cases hdl
                | some y => exact ⟨y, rfl⟩
              rw [hy] at heg
              have hyo := (hea.pos x y heg).2.2
              have hdr := adrop_ok e.M e.N a e.c x y heg hyo
              have htk : (⟨d.M, d.N, d.c⟩ : AS).drops (d.gs.take (i + 1)) = ⟨delK e.M x, delT e.N (nmB y), min e.c x⟩ := by
                rw [drops_take hxg, ← he]
                unfold AS.drop
                rw [heg]
              repeat' first | refine aw_W [7, 10] (And.intro @hlt (And.intro @hlti (And.intro @hx1 (And.intro @hxg (And.intro @hgv @kk))))) trivial ?_ | refine aw_cond rfl (fun h => ?_) (fun h => ?_)
              refine awl_ar [29] rfl rfl rfl (by kernel_rfl) hdr rfl (by simp) (by simp) (cl_esN _) (cl_esT _) (cl_esN _) (cl_esT _) (at_arG (by simp; omega) (by simp; omega)) ?_
              simp -implicitDefEqProofs
              repeat' first | refine aw_W [7, 10] @wi trivial ?_ | refine aw_cond rfl (fun h => ?_) (fun h => ?_)
              exact ⟨q - 1, by omega, _, le_same _, i + 1, _, by omega, htk.symm, rfl, by simp⟩
            · have hlti : ¬ (i : Int) < d.gs.length := by omega
              rw [List.take_of_length_le (by omega)] at he
              rw [hd0] at he
              subst he
              repeat' first | refine aw_W [7, 10] @hlti trivial ?_ | refine aw_cond rfl (fun h => ?_) (fun h => ?_)
              exact ⟨by simp [tupOf], by simp, by simp, by simp⟩
end Go.AL
namespace Go.Proofs
open Go.Shelf
def Tryd.keysA_ren : Go.Shelf.Ren := ⟨fun | 7 => 26 | 10 => 41 | n => n, fun | 23 => 57 | 26 => 3 | 3 => 40 | 28 => 69 | 0 => 0 | 27 => 68 | 33 => 71 | 4 => 4 | n => n, fun | n => n⟩
theorem Tryd.keysA : Go.Proofs.SlLaysZI.n7 Tryd.prog Tryd.keysA_ren := {
  mixed := by kernel_rfl
  f7 := ⟨Tryd.f26.name, by decide, Tryd.func26.trans (congrArg some (by kernel_rfl))⟩
  f10 := ⟨Tryd.f41.name, by decide, Tryd.func41.trans (congrArg some (by kernel_rfl))⟩
  t0 := Tryd.underlying0
  a0 := Tryd.isAgg0
  z0 := Tryd.sizeOf0
  v0 := Tryd.zeroValue0
  t4 := Tryd.underlying4
  a4 := Tryd.isAgg4
  z4 := Tryd.sizeOf4
  v4 := Tryd.zeroValue4
  t23 := Tryd.underlying57
  a23 := Tryd.isAgg57
  z23 := Tryd.sizeOf57
  v23 := Tryd.zeroValue57
  t26 := Tryd.underlying3
  a26 := Tryd.isAgg3
  z26 := Tryd.sizeOf3
  v26 := Tryd.zeroValue3
  t27 := Tryd.underlying68
  a27 := Tryd.isAgg68
  z27 := Tryd.sizeOf68
  v27 := Tryd.zeroValue68
  t28 := Tryd.underlying69
  a28 := Tryd.isAgg69
  z28 := Tryd.sizeOf69
  v28 := Tryd.zeroValue69
  t33 := Tryd.underlying71
  a33 := Tryd.isAgg71
  z33 := Tryd.sizeOf71
  v33 := Tryd.zeroValue71 }
def Tryd.keys2A_ren : Go.Shelf.Ren := ⟨fun | 7 => 36 | 10 => 47 | n => n, fun | 23 => 80 | 26 => 3 | 3 => 3 | 28 => 69 | 0 => 0 | 27 => 68 | 33 => 71 | 4 => 4 | n => n, fun | n => n⟩
theorem Tryd.keys2A : Go.Proofs.SlLaysZI.n7 Tryd.prog Tryd.keys2A_ren := {
  mixed := by kernel_rfl
  f7 := ⟨Tryd.f36.name, by decide, Tryd.func36.trans (congrArg some (by kernel_rfl))⟩
  f10 := ⟨Tryd.f47.name, by decide, Tryd.func47.trans (congrArg some (by kernel_rfl))⟩
  t0 := Tryd.underlying0
  a0 := Tryd.isAgg0
  z0 := Tryd.sizeOf0
  v0 := Tryd.zeroValue0
  t4 := Tryd.underlying4
  a4 := Tryd.isAgg4
  z4 := Tryd.sizeOf4
  v4 := Tryd.zeroValue4
  t23 := Tryd.underlying80
  a23 := Tryd.isAgg80
  z23 := Tryd.sizeOf80
  v23 := Tryd.zeroValue80
  t26 := Tryd.underlying3
  a26 := Tryd.isAgg3
  z26 := Tryd.sizeOf3
  v26 := Tryd.zeroValue3
  t27 := Tryd.underlying68
  a27 := Tryd.isAgg68
  z27 := Tryd.sizeOf68
  v27 := Tryd.zeroValue68
  t28 := Tryd.underlying69
  a28 := Tryd.isAgg69
  z28 := Tryd.sizeOf69
  v28 := Tryd.zeroValue69
  t33 := Tryd.underlying71
  a33 := Tryd.isAgg71
  z33 := Tryd.sizeOf71
  v33 := Tryd.zeroValue71 }
def Tryd.sortedA_ren : Go.Shelf.Ren := ⟨fun | 6 => 25 | 8 => 39 | 9 => 40 | 11 => 50 | 13 => 52 | 12 => 51 | 23 => 65 | 24 => 66 | 14 => 56 | 15 => 57 | 16 => 58 | 17 => 59 | 18 => 60 | 19 => 61 | 20 => 62 | 21 => 63 | 22 => 64 | 25 => 71 | 26 => 72 | 27 => 73 | 28 => 74 | 29 => 75 | 30 => 76 | 31 => 80 | n => n, fun | 26 => 3 | 28 => 69 | 24 => 33 | 0 => 0 | 3 => 3 | 37 => 94 | 48 => 109 | 50 => 111 | 4 => 4 | 40 => 102 | 39 => 101 | 45 => 87 | 5 => 5 | 9 => 9 | 51 => 119 | 55 => 123 | 57 => 127 | 58 => 128 | 33 => 71 | n => n, fun | n => n⟩
theorem Tryd.sortedA : Go.Proofs.SlLaysZI.n6 Tryd.prog Tryd.sortedA_ren := {
  mixed := by kernel_rfl
  f6 := ⟨Tryd.f25.name, by decide, Tryd.func25.trans (congrArg some (by kernel_rfl))⟩
  f8 := ⟨Tryd.f39.name, by decide, Tryd.func39.trans (congrArg some (by kernel_rfl))⟩
  f11 := ⟨Tryd.f50.name, by decide, Tryd.func50.trans (congrArg some (by kernel_rfl))⟩
  t0 := Tryd.underlying0
  a0 := Tryd.isAgg0
  z0 := Tryd.sizeOf0
  v0 := Tryd.zeroValue0
  t24 := Tryd.underlying33
  a24 := Tryd.isAgg33
  z24 := Tryd.sizeOf33
  v24 := Tryd.zeroValue33
  t26 := Tryd.underlying3
  a26 := Tryd.isAgg3
  z26 := Tryd.sizeOf3
  v26 := Tryd.zeroValue3
  t28 := Tryd.underlying69
  a28 := Tryd.isAgg69
  z28 := Tryd.sizeOf69
  v28 := Tryd.zeroValue69
  i26 := by kernel_rfl }
def Tryd.sortA_ren : Go.Shelf.Ren := ⟨fun | 5 => 40 | 8 => 52 | 7 => 51 | 19 => 65 | 20 => 66 | 10 => 56 | 11 => 57 | 12 => 58 | 13 => 59 | 14 => 60 | 15 => 61 | 16 => 62 | 17 => 63 | 18 => 64 | 30 => 71 | 31 => 72 | 32 => 73 | 33 => 74 | 34 => 75 | 35 => 76 | 40 => 80 | n => n, fun | 23 => 33 | 25 => 3 | 3 => 3 | 32 => 94 | 22 => 33 | 0 => 0 | 44 => 109 | 46 => 111 | 4 => 4 | 36 => 102 | 35 => 101 | 41 => 87 | 5 => 5 | 9 => 9 | 53 => 119 | 57 => 123 | 63 => 127 | 64 => 128 | n => n, fun | n => n⟩
theorem Tryd.sortA : Go.Proofs.SlLaysM.n5 Tryd.prog Tryd.sortA_ren := {
  mixed := by kernel_rfl
  f5 := ⟨Tryd.f40.name, by decide, Tryd.func40.trans (congrArg some (by kernel_rfl))⟩
  f7 := ⟨Tryd.f51.name, by decide, Tryd.func51.trans (congrArg some (by kernel_rfl))⟩
  f8 := Tryd.func52.trans (congrArg some (by kernel_rfl))
  f10 := ⟨Tryd.f56.name, by decide, Tryd.func56.trans (congrArg some (by kernel_rfl))⟩
  f11 := ⟨Tryd.f57.name, by decide, Tryd.func57.trans (congrArg some (by kernel_rfl))⟩
  f12 := ⟨Tryd.f58.name, by decide, Tryd.func58.trans (congrArg some (by kernel_rfl))⟩
  f13 := ⟨Tryd.f59.name, by decide, Tryd.func59.trans (congrArg some (by kernel_rfl))⟩
  f14 := ⟨Tryd.f60.name, by decide, Tryd.func60.trans (congrArg some (by kernel_rfl))⟩
  f15 := ⟨Tryd.f61.name, by decide, Tryd.func61.trans (congrArg some (by kernel_rfl))⟩
  f16 := ⟨Tryd.f62.name, by decide, Tryd.func62.trans (congrArg some (by kernel_rfl))⟩
  f17 := ⟨Tryd.f63.name, by decide, Tryd.func63.trans (congrArg some (by kernel_rfl))⟩
  f18 := ⟨Tryd.f64.name, by decide, Tryd.func64.trans (congrArg some (by kernel_rfl))⟩
  f19 := Tryd.func65.trans (congrArg some (by kernel_rfl))
  f20 := Tryd.func66.trans (congrArg some (by kernel_rfl))
  f30 := ⟨Tryd.f71.name, by decide, Tryd.func71.trans (congrArg some (by kernel_rfl))⟩
  f31 := Tryd.func72.trans (congrArg some (by kernel_rfl))
  f32 := Tryd.func73.trans (congrArg some (by kernel_rfl))
  f33 := ⟨Tryd.f74.name, by decide, Tryd.func74.trans (congrArg some (by kernel_rfl))⟩
  f34 := ⟨Tryd.f75.name, by decide, Tryd.func75.trans (congrArg some (by kernel_rfl))⟩
  f35 := ⟨Tryd.f76.name, by decide, Tryd.func76.trans (congrArg some (by kernel_rfl))⟩
  f40 := ⟨Tryd.f80.name, by decide, Tryd.func80.trans (congrArg some (by kernel_rfl))⟩
  t0 := Tryd.underlying0
  a0 := Tryd.isAgg0
  z0 := Tryd.sizeOf0
  v0 := Tryd.zeroValue0
  t3 := Tryd.underlying3
  a3 := Tryd.isAgg3
  z3 := Tryd.sizeOf3
  v3 := Tryd.zeroValue3
  t4 := Tryd.underlying4
  a4 := Tryd.isAgg4
  z4 := Tryd.sizeOf4
  v4 := Tryd.zeroValue4
  t5 := Tryd.underlying5
  a5 := Tryd.isAgg5
  z5 := Tryd.sizeOf5
  v5 := Tryd.zeroValue5
  t9 := Tryd.underlying9
  a9 := Tryd.isAgg9
  z9 := Tryd.sizeOf9
  v9 := Tryd.zeroValue9
  t22 := Tryd.underlying33
  a22 := Tryd.isAgg33
  z22 := Tryd.sizeOf33
  v22 := Tryd.zeroValue33
  t23 := Tryd.underlying33
  a23 := Tryd.isAgg33
  z23 := Tryd.sizeOf33
  v23 := Tryd.zeroValue33
  t25 := Tryd.underlying3
  a25 := Tryd.isAgg3
  z25 := Tryd.sizeOf3
  v25 := Tryd.zeroValue3
  t32 := Tryd.underlying94
  a32 := Tryd.isAgg94
  z32 := Tryd.sizeOf94
  v32 := Tryd.zeroValue94
  t35 := Tryd.underlying101
  a35 := Tryd.isAgg101
  z35 := Tryd.sizeOf101
  v35 := Tryd.zeroValue101
  t36 := Tryd.underlying102
  a36 := Tryd.isAgg102
  z36 := Tryd.sizeOf102
  v36 := Tryd.zeroValue102
  t41 := Tryd.underlying87
  a41 := Tryd.isAgg87
  z41 := Tryd.sizeOf87
  v41 := Tryd.zeroValue87
  t44 := Tryd.underlying109
  a44 := Tryd.isAgg109
  z44 := Tryd.sizeOf109
  v44 := Tryd.zeroValue109
  t46 := Tryd.underlying111
  a46 := Tryd.isAgg111
  z46 := Tryd.sizeOf111
  v46 := Tryd.zeroValue111
  t53 := Tryd.underlying119
  a53 := Tryd.isAgg119
  z53 := Tryd.sizeOf119
  v53 := Tryd.zeroValue119
  t57 := Tryd.underlying123
  a57 := Tryd.isAgg123
  z57 := Tryd.sizeOf123
  v57 := Tryd.zeroValue123
  t63 := Tryd.underlying127
  a63 := Tryd.isAgg127
  z63 := Tryd.sizeOf127
  v63 := Tryd.zeroValue127
  t64 := Tryd.underlying128
  a64 := Tryd.isAgg128
  z64 := Tryd.sizeOf128
  v64 := Tryd.zeroValue128 }
end Go.Proofs
/-! Contracts: maps.Keys and slices.Sorted at the arena's maps. -/
namespace Go.Proofs
open Go.RowKit Go.Maps Go.Sort Go.Shelf
set_option linter.unusedSimpArgs false
set_option linter.unusedVariables false
theorem ikeysN_ok : Go.AL.SortsKeysN Tryd.prog 25 41 3 := fun Bm b nn D0 w hB hc hown hmax hbytes => by
  refine (callsIn_wide (n := 5)).1 ?_
  have hseq : SeqGives Fence.wide 2 Tryd.prog 41 #[.pointer (some ⟨Bm, 0, none⟩)] encZ (fun ss => ss.Perm (intKeys D0)) (Maps.size D0) w :=
    AnyZI.keys_gives (ρ := Tryd.keysA_ren) { Tryd.keysA with } Fence.wide _ trivial rfl (by omega) Bm b nn D0 w hB hc hown
  have hs : ∀ m, AnyZI.SortsIn Tryd.prog Tryd.sortedA_ren Fence.wide m := fun m =>
    ⟨fun blk off cap ss W hH hblk hsz => callsIn_wide.2 (AnyM.slices_Sort_int Tryd.sortA blk off cap ss W hH hblk hsz), fun p cap W => callsIn_wide.2 (AnyM.slices_Sort_int_none Tryd.sortA p cap W)⟩
  have cS := AnyZI.sorted_in Tryd.sortedA Fence.wide 5 trivial trivial trivial trivial rfl (by omega) (hs _) (enters_of Tryd.func40 (by kernel_rfl) rfl) 41 #[.pointer (some ⟨Bm, 0, none⟩)] trivial (enters_of Tryd.func41 (by kernel_rfl) rfl) _ _ hmax hbytes _ hseq
  change CallsIn _ _ Tryd.prog 25 _ _ _ at cS
  exact cS.mono fun e w' ⟨v, ss, h1, h2, h3, h4, h5⟩ => ⟨v, ss, h1, h2, h3, h4, h5⟩
theorem ikeysI_ok : Go.AL.SortsKeysN Tryd.prog 25 47 3 := fun Bm b nn D0 w hB hc hown hmax hbytes => by
  refine (callsIn_wide (n := 5)).1 ?_
  have hseq : SeqGives Fence.wide 2 Tryd.prog 47 #[.pointer (some ⟨Bm, 0, none⟩)] encZ (fun ss => ss.Perm (intKeys D0)) (Maps.size D0) w :=
    AnyZI.keys_gives (ρ := Tryd.keys2A_ren) { Tryd.keys2A with } Fence.wide _ trivial rfl (by omega) Bm b nn D0 w hB hc hown
  have hs : ∀ m, AnyZI.SortsIn Tryd.prog Tryd.sortedA_ren Fence.wide m := fun m =>
    ⟨fun blk off cap ss W hH hblk hsz => callsIn_wide.2 (AnyM.slices_Sort_int Tryd.sortA blk off cap ss W hH hblk hsz), fun p cap W => callsIn_wide.2 (AnyM.slices_Sort_int_none Tryd.sortA p cap W)⟩
  have cS := AnyZI.sorted_in Tryd.sortedA Fence.wide 5 trivial trivial trivial trivial rfl (by omega) (hs _) (enters_of Tryd.func40 (by kernel_rfl) rfl) 47 #[.pointer (some ⟨Bm, 0, none⟩)] trivial (enters_of Tryd.func47 (by kernel_rfl) rfl) _ _ hmax hbytes _ hseq
  change CallsIn _ _ Tryd.prog 25 _ _ _ at cS
  exact cS.mono fun e w' ⟨v, ss, h1, h2, h3, h4, h5⟩ => ⟨v, ss, h1, h2, h3, h4, h5⟩
end Go.Proofs
namespace Go.AL
open Go.Proofs Go.RowKit
variable {σ : ASt}
set_option maxHeartbeats 8000000 in
set_option maxRecDepth 100000 in
theorem ikeysFN_ok (m : Nat) (σ : ASt) : ACall Tryd.prog 26 [.map m] σ fun r τ => r = .fn (.func 41) [] [.ptr σ.next 0] ∧ τ = σ.addBx [.map m] := by
  refine acall_of Tryd.func26 Tryd.ntmps26 rfl ?_
  simp only [List.length_cons, List.length_nil, List.cons_append, List.nil_append, List.replicate]
  repeat' first | refine aw_N [1] trivial trivial ?_ | refine aw_cond rfl (fun h => ?_) (fun h => ?_)
  exact ⟨rfl, rfl⟩
set_option maxHeartbeats 8000000 in
set_option maxRecDepth 100000 in
theorem ikeysFI_ok (m : Nat) (σ : ASt) : ACall Tryd.prog 36 [.map m] σ fun r τ => r = .fn (.func 47) [] [.ptr σ.next 0] ∧ τ = σ.addBx [.map m] := by
  refine acall_of Tryd.func36 Tryd.ntmps36 rfl ?_
  simp only [List.length_cons, List.length_nil, List.cons_append, List.nil_append, List.replicate]
  repeat' first | refine aw_N [1] trivial trivial ?_ | refine aw_cond rfl (fun h => ?_) (fun h => ?_)
  exact ⟨rfl, rfl⟩
end Go.AL
/-! Sorted numbers, plainly. -/
namespace Go.AL
set_option linter.unusedSimpArgs false
set_option linter.unusedVariables false
theorem sortI_len (l : List Int) : (sortI l).length = l.length := List.length_mergeSort _
theorem sortI_perm (l : List Int) : (sortI l).Perm l := List.mergeSort_perm _ _
theorem sortI_mem (l : List Int) (x : Int) : x ∈ sortI l ↔ x ∈ l := (sortI_perm l).mem_iff
theorem sortI_le (l : List Int) : (sortI l).Pairwise (· ≤ ·) := by
  have := List.pairwise_mergeSort (le := leI) (fun a b c h1 h2 => by simp [leI] at *; omega) (fun a b => by simp [leI]; omega) l
  exact this.imp fun h => by simpa [leI] using h
theorem sortI_lt {l : List Int} (h : l.Nodup) : (sortI l).Pairwise (· < ·) := by
  have h1 := sortI_le l
  have h2 : (sortI l).Nodup := (sortI_perm l).nodup_iff.2 h
  exact (List.Pairwise.and h1 h2).imp fun ⟨a, b⟩ => by omega
theorem lt_nodup {l : List Int} (h : l.Pairwise (· < ·)) : l.Nodup := h.imp fun h => by omega
/-- Two that rise, of the same members. -/
theorem rise_ext {l l' : List Int} (h : l.Pairwise (· < ·)) (h' : l'.Pairwise (· < ·)) (hm : ∀ x, x ∈ l ↔ x ∈ l') : l = l' :=
  List.Perm.eq_of_pairwise (le := (· < ·)) (fun a b _ _ h1 h2 => by omega) h h' ((List.perm_ext_iff_of_nodup (lt_nodup h) (lt_nodup h')).2 hm)
end Go.AL
/-! Contracts: arena's Live, reached, Reach. -/
namespace Go.AL
open Go.Proofs
set_option linter.unusedSimpArgs false
set_option linter.unusedVariables false
/-- The live handles. -/
def livL (M : Nods) : List Int := sortI (M.map Prod.fst)
theorem livL_len (M : Nods) : (livL M).length = M.length := by rw [livL, sortI_len, List.length_map]
theorem wfI {z : Int} (h : 0 ≤ z ∧ z ≤ 100000) : (Lit.int .i64 z).wf = true := by
  simp [Lit.wf, IntKind.min, IntKind.max, IntKind.signed, IntKind.bits]; omega
theorem AI.key {M : Nods} {N : Nms} {c : Int} (h : AI M N c) : ∀ s ∈ M.map Prod.fst, 1 ≤ s ∧ s ≤ 100000 := fun s hs => by
  have := gotK_mem.2 hs
  cases hq : gotK M s with
  | none => rw [hq] at this; cases this
  | some x => have := h.pos s x hq; omega
theorem esN_fst {α : Type} (f : α → AV) (M : List (Int × α)) : (esK f M).map Prod.fst = (M.map Prod.fst).map fun s => .p (.int .i64 s) := by simp [esK]
theorem AI.klen {M : Nods} {N : Nms} {c : Int} (h : AI M N c) : M.length ≤ 100000 := by
  have := sub_len (M.map Prod.fst) (seqI 1 100000) h.ndM fun x hx => by
    have := h.key x hx
    exact seqI_mem.2 (by omega)
  rwa [seqI_len, List.length_map] at this
set_option maxHeartbeats 8000000 in
set_option maxRecDepth 100000 in
theorem aliveL_ok (M : Nods) (N : Nms) (a c : Int) (h : AI M N c) : AC Tryd.prog 11 [] a (esK ndA M) (esT vi N) c (.vsl ((livL M).map vi)) (esK ndA M) (esT vi N) c := by
  have hlen := livL_len M
  have hkl := h.klen
  refine ac_in Tryd.func11 Tryd.ntmps11 rfl ?_
  repeat' first | refine aw_N [] trivial trivial ?_ | refine aw_cond rfl (fun h => ?_) (fun h => ?_)
  refine awl_cons rfl (opq_call rfl rfl rfl ((ikeysFN_ok 1 _).mono fun r τ ⟨e1, e2⟩ => ?_))
  subst e1 e2
  refine awl_run' [] ?_
  simp -implicitDefEqProofs
  refine awl_cons rfl (opq_call rfl rfl rfl ((acall_sortedN ikeysN_ok Tryd.underlying3 (k := 3) (c := .map 1) (ns := M.map Prod.fst) (by simp [ASt.addBx]) (.inl ⟨1, esK ndA M, rfl, by simp [ASt.addBx], esN_fst ndA M⟩) h.ndM (fun s hs => wfI (by have := h.key s hs; omega)) (by simp; omega)).mono fun r τ ⟨e1, e2⟩ => ?_))
  subst e1 e2
  refine awl_run' [] ?_
  simp -implicitDefEqProofs
  repeat' first | refine aw_M [] trivial trivial ?_ | refine aw_cond rfl (fun h => ?_) (fun h => ?_)
  rw [show sortI (M.map Prod.fst) = livL M from rfl]
  refine ⟨by simp [tupOf, hlen, clo, clo1, clo0, ASt.addBx, ASt.addSl, List.take_of_length_le], by simp [ASt.noSl, ASt.addBx, ASt.addSl, upd], by simp [ASt.noSl, ASt.addBx, ASt.addSl, upd], by simp [ASt.noSl, ASt.addBx, ASt.addSl, upd]⟩
end Go.AL
