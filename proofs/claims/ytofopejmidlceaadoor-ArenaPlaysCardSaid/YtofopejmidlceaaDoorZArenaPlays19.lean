/- Parts of the proof of ArenaPlays: the logic, contracts, plain laws. -/
import Derived.Test.YtofopejmidlceaaDoorZArenaPlays18
import Derived.Test.YtofopejmidlceaaDoorZArenaPlays11
import Derived.Test.YtofopejmidlceaaDoorZArenaPlays12
/-! The document's arena under change: one node put. -/
namespace Go.AL
open Go.Proofs
set_option linter.unusedSimpArgs false
set_option linter.unusedVariables false
theorem lkN_app {ss : List (Nat × List AV)} (l : List (Nat × List AV)) {i : Nat} {v : List AV} (h : lkN ss i = some v) : lkN (ss ++ l) i = some v := by
  induction ss with
  | nil => cases h
  | cons q ss ih =>
    obtain ⟨a, x⟩ := q
    rw [lkN_cons] at h
    rw [List.cons_append, lkN_cons]
    split
    · rename_i e; rw [if_pos e] at h; exact h
    · rename_i e; rw [if_neg e] at h; exact ih h
theorem lkN_skip {i : Nat} (ss l : List (Nat × List AV)) (h : ∀ p ∈ ss, p.1 ≠ i) : lkN (ss ++ l) i = lkN l i := by
  induction ss with
  | nil => rfl
  | cons q ss ih =>
    obtain ⟨a, x⟩ := q
    rw [List.cons_append, lkN_cons, if_neg (fun e => h (a, x) List.mem_cons_self e.symm)]
    exact ih fun p hp => h p (List.mem_cons_of_mem _ hp)
def OnI (size : Int) (nds : List Nd) (is : List Bool) (k1 k2 : Nat) (ss : List (Nat × List AV)) (m : Nat) (x : Nd) (ah : List Int) (ka : Nat) (q : Nat) (fr : List AV) (σ : ASt) : Prop := ∃ (i B kr kn T : Nat), i + q = x.refs.length ∧ m ≤ B ∧ m ≤ kr ∧ m ≤ kn ∧ B < T ∧ kr < T ∧ kn < T ∧ kr ≠ kn ∧
  σ = rcS size nds is k1 k2 [(B, [vi x.k, .hsl kr 0 i, .hsl kn 0 x.nums.length, vs x.text])] (ss ++ [(kr, ((x.refs.take i).map (resR ah)).map vi), (kn, x.nums.map vi)]) T ∧ fr = frm 70 [(0, .ptr 0 0), (2, .hsl ka 0 ah.length), (4, .vel [ndA x] 0 0), (6, vi 0), (7, vi 0), (8, .ptr B 0), (9, vi (i : Nat))]
def OnM (size : Int) (nds : List Nd) (is : List Bool) (k1 k2 : Nat) (ss : List (Nat × List AV)) (m : Nat) (x : Nd) (ah : List Int) (ka : Nat) (fr : List AV) (σ : ASt) : Prop := ∃ B kn T : Nat, m ≤ B ∧ m ≤ kn ∧ B < T ∧ kn < T ∧ B ≠ kn ∧
  σ = rcS size nds is k1 k2 [(B, [vi x.k, .p (.slice none 0 0), .hsl kn 0 x.nums.length, vs x.text])] (ss ++ [(kn, x.nums.map vi)]) T ∧ fr = frm 70 [(0, .ptr 0 0), (2, .hsl ka 0 ah.length), (4, .vel [ndA x] 0 0), (6, vi 0), (7, vi 0), (8, .ptr B 0)]
set_option maxHeartbeats 8000000 in
set_option maxRecDepth 100000 in
theorem rone1_ok (size : Int) (nds : List Nd) (is : List Bool) (k1 k2 : Nat) (ss : List (Nat × List AV)) (m : Nat) (hn : RcN k1 k2 m [] ss) (hl : nds.length = is.length) (h0 : 1 ≤ is.length) (hlb : is.length ≤ 1000000) (x : Nd) (hx : NdOk x) (ah : List Int) (ka : Nat) (ha : (ka, ah.map vi) ∈ ss) (hr : ∀ r ∈ x.refs, -1 - r < ah.length) (hah : ah.length ≤ 1000000) (hN : ∀ y ∈ nds, NdL y) (h : Nat) (h1 : 1 ≤ h) (hf : findR (resN ah x) (nds.drop 1) (is.drop 1) 1 = (h : Nat)) :
    ACall Tryd.prog 38 [.ptr 0 0, ndA x, .hsl ka 0 ah.length] (rcS size nds is k1 k2 [] ss m) fun r τ => r = .tup [vi (h : Nat), vi 0] ∧ ∃ m', RcN k1 k2 m' [] ss ∧ (rcS size nds is k1 k2 [] ss m').Le τ := by
  have hnd : ndA x = .agg [vi x.k, .vsl (x.refs.map vi), .vsl (x.nums.map vi), vs x.text] := rfl
  have hnk : ¬ k2 = k1 := fun e => hn.n e.symm
  have hnl := hx.nl
  have hrl := hx.rl
  refine acall_of Tryd.func38 Tryd.ntmps38 rfl ?_
  simp only [List.length_cons, List.length_nil, List.cons_append, List.nil_append, List.replicate]
  rw [hnd]
  repeat' first | refine aw_N [8, 16] trivial trivial ?_ | refine aw_cond rfl (fun h => ?_) (fun h => ?_)
  obtain ⟨n1, n2, n3, n4, n5, n6, n7⟩ := hn
  have hka := n4 (ka, ah.map vi) ha
  simp only at hka
  refine aw_mid [0, 2, 4, 6, 7, 8] (fun fr σ => OnM size nds is k1 k2 ss m x ah ka fr σ) ?_ ?_
  · rintro fr σ ⟨B, kn, T, hB, hkn, hBT, hknT, hBk, rfl, rfl⟩
    simp -implicitDefEqProofs
    have B0 : ¬ B = 0 := by omega
    have B0' : ¬ 0 = B := by omega
    repeat' first | refine aw_W [8, 16] @B0 trivial ?_ | refine aw_cond rfl (fun h => ?_) (fun h => ?_)
    refine aw_openBx (b := B) (i := 1) (cs := [vi x.k, .p (.slice none 0 0), .hsl kn 0 x.nums.length, vs x.text]) (by simp [B0]) rfl ?_
    refine aw_loopW [0, 2, 4, 6, 7, 8, 9] (fun q fr σ => OnI size nds is k1 k2 ss m x ah ka q fr σ) x.refs.length ?_ ?_
    · refine ⟨rcS size nds is k1 k2 [(B, [vi x.k, .hsl T 0 0, .hsl kn 0 x.nums.length, vs x.text])] (ss ++ [(T, []), (kn, x.nums.map vi)]) (T + 1), le_rcS (by simp [upd, ASt.addSl, B0']) (by simp [upd, ASt.addSl, show ¬ k1 = T by omega]) (by simp [upd, ASt.addSl, hnk, show ¬ k2 = T by omega]) (fun p hp => ?_) (by simp [upd, ASt.addSl]) (by simp [ASt.addSl]), 0, B, T, kn, T + 1, by omega, hB, by omega, hkn, by omega, by omega, by omega, by omega, by simp, by simp⟩
      rcases List.mem_append.1 hp with hp | hp
      · obtain ⟨q1, q2, q3, q4⟩ := n4 p hp
        simp [upd, ASt.addSl, q3, q4, show ¬ p.1 = T by omega, lkN_app _ (lkN_of n5 hp)]
      · simp at hp
        rcases hp with rfl | rfl
        · simp [upd, ASt.addSl]
        · simp [upd, ASt.addSl, show ¬ kn = T by omega, show ¬ kn = k1 by omega, show ¬ kn = k2 by omega, lkN_skip (i := kn) ss _ fun p hp => by have := n4 p hp; omega]
    · clear hB hkn hBT hknT hBk B0 B0' B kn T
      rintro q fr σ ⟨i, B, kr, kn, T, hi, hB, hkr, hkn, hBT, hkrT, hknT, hkk, rfl, rfl⟩
      have B0 : ¬ B = 0 := by omega
      have B0' : ¬ 0 = B := by omega
      have l1 := lkN_skip (i := kr) ss [(kr, ((x.refs.take i).map (resR ah)).map vi), (kn, x.nums.map vi)] fun p hp => by have := n4 p hp; omega
      have l2 := lkN_skip (i := kn) ss [(kr, ((x.refs.take i).map (resR ah)).map vi), (kn, x.nums.map vi)] fun p hp => by have := n4 p hp; omega
      have l3 := lkN_app [(kr, ((x.refs.take i).map (resR ah)).map vi), (kn, x.nums.map vi)] (lkN_of n5 ha)
      obtain ⟨L, hL⟩ : ∃ L, L = (x.refs.take i).map (resR ah) := ⟨_, rfl⟩
      have hLl : L.length = i := by rw [hL]; simp; omega
      rw [← hL] at l1 l2 l3 ⊢
      simp only [lkN_cons, if_pos] at l1 l2 l3
      rw [if_neg (fun e => hkk e.symm)] at l2
      simp -implicitDefEqProofs
      have e1 : ¬ kr = k1 := by omega
      have e2 : ¬ kr = k2 := by omega
      have e3 : ¬ kn = k1 := by omega
      have e4 : ¬ kn = k2 := by omega
      have e5 : ¬ ka = k1 := by omega
      have e6 : ¬ ka = k2 := by omega
      by_cases hlt : i < x.refs.length
      · have hlti : (i : Int) < x.refs.length := by omega
        obtain ⟨r, hr1⟩ : ∃ r, x.refs[i] = r := ⟨_, rfl⟩
        have hrg : x.refs[i]? = some r := by rw [List.getElem?_eq_getElem hlt, hr1]
        have hrm := List.mem_of_getElem? hrg
        have wi : IntKind.i64.wrap ((i : Int) + 1) = (i : Int) + 1 := wrap_id (by omega) (by omega)
        have hrr := hx.refs r hrm
        have hrv : (x.refs.map vi).length = x.refs.length := List.length_map _
        have htk : (x.refs.take (i + 1)).map (resR ah) = L ++ [resR ah r] := by rw [List.take_add_one, hrg, List.map_append, ← hL]; rfl
        by_cases hr0 : r < 0
        · obtain ⟨j, hj⟩ : ∃ j : Nat, -1 - r = j := ⟨(-1 - r).toNat, by omega⟩
          have wr : IntKind.i64.wrap (-1 - r) = (j : Int) := by rw [← hj]; exact wrap_id (by omega) (by omega)
          have hjl : j < ah.length := by have := hr r hrm; omega
          have hjli : (j : Int) < ah.length := by omega
          obtain ⟨t, ht1⟩ : ∃ t, ah[j] = t := ⟨_, rfl⟩
          have htg : ah[j]? = some t := by rw [List.getElem?_eq_getElem hjl, ht1]
          have hhv : (ah.map vi).length = ah.length := List.length_map _
          have hrs : resR ah r = t := by rw [resR, if_pos hr0, hj]; simp [htg]
          rw [hrs] at htk
          repeat' (first
            | refine aw_seq ?_
            | ((first | refine aw_run [8, 16] ?_ | refine aw_ymix [8, 16] draws (by decide +kernel) ?_); try simp -implicitDefEqProofs (maxSteps := 1000000) [hnd, hlt, hlti, hr1, hrg, hrv, hr0, wr, hjl, hjli, ht1, htg, hhv, e1, e2, e3, e4, e5, e6, l1, l2, l3, B0])
            | ((first | refine aw_zrun [8, 16] [] draws (by decide +kernel) (by decide +kernel) ?_ | refine zl_skip (by simp) rfl ?_); try simp -implicitDefEqProofs (maxSteps := 1000000) [hnd, hlt, hlti, hr1, hrg, hrv, hr0, wr, hjl, hjli, ht1, htg, hhv, e1, e2, e3, e4, e5, e6, l1, l2, l3, B0]; repeat first | refine zcurL (by decide +kernel) ?_ | refine zcurH (by decide +kernel) ?_ | refine zcurL' (by decide +kernel) ?_ | refine zcurH' (by decide +kernel) ?_)
            | ((first | refine aw_yrun draws (by kernel_rfl) ?_ | refine awl_skip' [8, 16] rfl ?_ | refine yl_skip rfl ?_ | refine aw_skip ?_ | refine aw_exit ?_); try simp -implicitDefEqProofs (maxSteps := 1000000) [hnd, hlt, hlti, hr1, hrg, hrv, hr0, wr, hjl, hjli, ht1, htg, hhv, e1, e2, e3, e4, e5, e6, l1, l2, l3, B0])
            | (refine aw_cond rfl (fun h => ?_) (fun h => ?_) <;> try (with_reducible first | exact ff_tt h | exact tt_ff h))
            | refine aw_block ?_
            | refine aw_ret (ret_of (.inr rfl) (by simp [Tryd.results38]; rfl) (Fin.of ?_))
            | refine ret_of (.inl rfl) (by simp [Tryd.results38]; rfl) (Fin.of ?_))
          refine awl_append [8] rfl rfl rfl (b := kr) (xs := L.map vi) (by simp [e1, e2, l1]) (by simp; omega) rfl (by simp) te33 tet33 tz3 rfl (fun y hy => by obtain ⟨_, _, rfl⟩ := List.mem_map.1 hy; rfl) (by simp) (by simp; omega) (by simp; omega) ?_
          simp -implicitDefEqProofs [B0]
          repeat' first | refine aw_W [8, 16] (And.intro @wi @B0) trivial ?_ | refine aw_cond rfl (fun h => ?_) (fun h => ?_)
          refine ⟨q - 1, by omega, rcS size nds is k1 k2 [(B, [vi x.k, .hsl T 0 (i + 1), .hsl kn 0 x.nums.length, vs x.text])] (ss ++ [(T, ((x.refs.take (i + 1)).map (resR ah)).map vi), (kn, x.nums.map vi)]) (T + 1), le_rcS (by simp [upd, ASt.addSl, ASt.dropSl, B0']) (by simp [upd, ASt.addSl, ASt.dropSl, show ¬ k1 = T by omega, Ne.symm e1]) (by simp [upd, ASt.addSl, ASt.dropSl, hnk, show ¬ k2 = T by omega, Ne.symm e2]) (fun p hp => ?_) (by simp [upd, ASt.addSl, ASt.dropSl]) (by simp [ASt.addSl]), i + 1, B, T, kn, T + 1, by omega, hB, by omega, hkn, by omega, by omega, by omega, by omega, by simp, by simp [hnd]⟩
          rcases List.mem_append.1 hp with hp | hp
          · obtain ⟨q1, q2, q3, q4⟩ := n4 p hp
            simp [upd, ASt.addSl, ASt.dropSl, q3, q4, show ¬ p.1 = T by omega, show ¬ p.1 = kr by omega, lkN_app _ (lkN_of n5 hp)]
          · simp only [List.mem_cons, List.not_mem_nil, or_false] at hp
            rcases hp with rfl | rfl
            · rw [htk]
              simp [upd, ASt.addSl, ASt.dropSl, List.take_of_length_le, hLl]
            · simp [upd, ASt.addSl, ASt.dropSl, show ¬ kn = T by omega, Ne.symm hkk, e3, e4, l2]
        · have hrs : resR ah r = r := by rw [resR, if_neg hr0]
          rw [hrs] at htk
          repeat' (first
            | refine aw_seq ?_
            | ((first | refine aw_run [8, 16] ?_ | refine aw_ymix [8, 16] draws (by decide +kernel) ?_); try simp -implicitDefEqProofs (maxSteps := 1000000) [hnd, hlt, hlti, hr1, hrg, hrv, hr0, e1, e2, e3, e4, e5, e6, l1, l2, l3, B0])
            | ((first | refine aw_zrun [8, 16] [] draws (by decide +kernel) (by decide +kernel) ?_ | refine zl_skip (by simp) rfl ?_); try simp -implicitDefEqProofs (maxSteps := 1000000) [hnd, hlt, hlti, hr1, hrg, hrv, hr0, e1, e2, e3, e4, e5, e6, l1, l2, l3, B0]; repeat first | refine zcurL (by decide +kernel) ?_ | refine zcurH (by decide +kernel) ?_ | refine zcurL' (by decide +kernel) ?_ | refine zcurH' (by decide +kernel) ?_)
            | ((first | refine aw_yrun draws (by kernel_rfl) ?_ | refine awl_skip' [8, 16] rfl ?_ | refine yl_skip rfl ?_ | refine aw_skip ?_ | refine aw_exit ?_); try simp -implicitDefEqProofs (maxSteps := 1000000) [hnd, hlt, hlti, hr1, hrg, hrv, hr0, e1, e2, e3, e4, e5, e6, l1, l2, l3, B0])
            | (refine aw_cond rfl (fun h => ?_) (fun h => ?_) <;> try (with_reducible first | exact ff_tt h | exact tt_ff h))
            | refine aw_block ?_
            | refine aw_ret (ret_of (.inr rfl) (by simp [Tryd.results38]; rfl) (Fin.of ?_))
            | refine ret_of (.inl rfl) (by simp [Tryd.results38]; rfl) (Fin.of ?_))
          refine awl_append [8] rfl rfl rfl (b := kr) (xs := L.map vi) (by simp [e1, e2, l1]) (by simp; omega) rfl (by simp) te33 tet33 tz3 rfl (fun y hy => by obtain ⟨_, _, rfl⟩ := List.mem_map.1 hy; rfl) (by simp) (by simp; omega) (by simp; omega) ?_
          simp -implicitDefEqProofs [B0]
          repeat' first | refine aw_W [8, 16] (And.intro @wi @B0) trivial ?_ | refine aw_cond rfl (fun h => ?_) (fun h => ?_)
          refine ⟨q - 1, by omega, rcS size nds is k1 k2 [(B, [vi x.k, .hsl T 0 (i + 1), .hsl kn 0 x.nums.length, vs x.text])] (ss ++ [(T, ((x.refs.take (i + 1)).map (resR ah)).map vi), (kn, x.nums.map vi)]) (T + 1), le_rcS (by simp [upd, ASt.addSl, ASt.dropSl, B0']) (by simp [upd, ASt.addSl, ASt.dropSl, show ¬ k1 = T by omega, Ne.symm e1]) (by simp [upd, ASt.addSl, ASt.dropSl, hnk, show ¬ k2 = T by omega, Ne.symm e2]) (fun p hp => ?_) (by simp [upd, ASt.addSl, ASt.dropSl]) (by simp [ASt.addSl]), i + 1, B, T, kn, T + 1, by omega, hB, by omega, hkn, by omega, by omega, by omega, by omega, by simp, by simp [hnd]⟩
          rcases List.mem_append.1 hp with hp | hp
          · obtain ⟨q1, q2, q3, q4⟩ := n4 p hp
            simp [upd, ASt.addSl, ASt.dropSl, q3, q4, show ¬ p.1 = T by omega, show ¬ p.1 = kr by omega, lkN_app _ (lkN_of n5 hp)]
          · simp only [List.mem_cons, List.not_mem_nil, or_false] at hp
            rcases hp with rfl | rfl
            · rw [htk]
              simp [upd, ASt.addSl, ASt.dropSl, List.take_of_length_le, hLl]
            · simp [upd, ASt.addSl, ASt.dropSl, show ¬ kn = T by omega, Ne.symm hkk, e3, e4, l2]
      · have hlti : ¬ (i : Int) < x.refs.length := by omega
        have hrv : (x.refs.map vi).length = x.refs.length := List.length_map _
        rw [List.take_of_length_le (by omega)] at hL
        obtain rfl : i = x.refs.length := by omega
        repeat' first | refine aw_N [8, 16] (And.intro @hnd (And.intro @hlti (And.intro @hrv @B0))) trivial ?_ | refine aw_cond rfl (fun h => ?_) (fun h => ?_)
        have e7 : ¬ ka = kr := by omega
        have e8 : ¬ ka = kn := by omega
        have e9 : ¬ kn = kr := fun e => hkk e.symm
        refine awl_freezeX (b := kr) (b0 := B) (xs := L.map vi) (cs := [vi x.k, .hsl kr 0 x.refs.length, .hsl kn 0 x.nums.length, vs x.text]) (by simp [e1, e2, l1]) (by simp [B0]) ?_
        refine awl_freezeX (b := kn) (b0 := B) (xs := x.nums.map vi) (cs := [vi x.k, .vsl (L.map vi), .hsl kn 0 x.nums.length, vs x.text]) (by simp [ASt.dropSl, ASt.setBx, upd, e9, e3, e4, l2]) (by simp [ASt.dropSl, ASt.setBx, frz, frz1, frz0, e9, hLl, List.take_of_length_le]) ?_
        obtain ⟨y, hy⟩ : ∃ y, y = resN ah x := ⟨_, rfl⟩
        have hya : ndA y = .agg [vi x.k, .vsl (L.map vi), .vsl (x.nums.map vi), vs x.text] := by rw [hy, hL]; rfl
        refine AWL.less (τ := rcS size nds is k1 k2 [(B, [vi x.k, .vsl (L.map vi), .vsl (x.nums.map vi), vs x.text])] ss T) (le_rcS (by simp [ASt.dropSl, ASt.setBx, upd, B0']) (by simp [ASt.dropSl, ASt.setBx, upd, Ne.symm e1, Ne.symm e3]) (by simp [ASt.dropSl, ASt.setBx, upd, hnk, Ne.symm e2, Ne.symm e4]) (fun p hp => by
          obtain ⟨q1, q2, q3, q4⟩ := n4 p hp
          simp [ASt.dropSl, ASt.setBx, upd, q3, q4, show ¬ p.1 = kr by omega, show ¬ p.1 = kn by omega, lkN_app _ (lkN_of n5 hp)]) (by simp [ASt.dropSl, ASt.setBx, upd, frz, frz1, frz0, hLl, List.take_of_length_le]) (by simp [ASt.dropSl, ASt.setBx])) ?_
        simp -implicitDefEqProofs [frz, frz1, frz0, e7, e8, e9, hLl, List.take_of_length_le]
        have hnB : RcN k1 k2 T [(B, [vi x.k, .vsl (L.map vi), .vsl (x.nums.map vi), vs x.text])] ss := ⟨by omega, by omega, n3, fun p hp => by have := n4 p hp; omega, n5, by simp; omega, by simp⟩
        have hyL : NdL y := by rw [hy]; exact ⟨by simp [resN]; omega, by simp [resN]; omega⟩
        have hfd := rfind09_ok size nds is y hl hlb hyL hN
        rw [hya] at hfd
        rw [← hy] at hf
        rw [hf] at hfd
        refine awl_lendD 2 [8] rfl rfl rfl (by kernel_rfl) (args := [.ptr 0 0, .agg [vi x.k, .vsl (L.map vi), .vsl (x.nums.map vi), vs x.text]]) rfl (args' := [rcV size nds is, .agg [vi x.k, .vsl (L.map vi), .vsl (x.nums.map vi), vs x.text]]) (by
          simp only [List.map_cons, List.map_nil]
          rw [cloD_rc hnB]
          simp [cloD]) hfd (by
          intro a ha
          simp only [List.mem_cons, List.not_mem_nil, or_false] at ha
          rcases ha with rfl | rfl
          · exact cl_rcV _ _ _
          · rw [← hya]; exact cl_ndA _) (by simp) ?_
        simp -implicitDefEqProofs
        have h1i : (0 : Int) < (h : Int) := by omega
        have h1n : 0 < h := by omega
        repeat' first | refine aw_W [8, 16] (And.intro @h1i @h1n) trivial ?_ | refine aw_cond rfl (fun h => ?_) (fun h => ?_)
        exact ⟨by simp [tupOf], T, ⟨by omega, by omega, n3, fun p hp => by have := n4 p hp; omega, n5, by simp, by simp⟩, le_rcS (by simp) (by simp) (by simp [hnk]) (fun p hp => by obtain ⟨q1, q2, q3, q4⟩ := n4 p hp; simp [q3, q4, lkN_of n5 hp]) (by simp) (by simp)⟩
  have hnv : (x.nums.map vi).length = x.nums.length := List.length_map _
  have m0 : ¬ m = 0 := by omega
  have m0' : ¬ 0 = m := by omega
  · refine aw_of_awo draws (awo_split 9 4 (by decide) (by decide) (by decide) ?_ (awo_split 9 7 (by decide) (by decide) (by decide) ?_ ?_))
    case refine_1 =>
      simp only [aft, List.modify_succ_cons, List.modify_zero_cons, aftE, List.push_toArray, List.cons_append, List.nil_append]
      refine awo_perm [0, 1, 2, 3, 9, 4, 5, 6, 7, 8, 10] (by decide +kernel) ?_
      simp only [permL, renO, List.getD_cons_zero, List.getD_cons_succ, Option.map_none, Option.map_some]
      refine awo_zrun [8, 16] [] (by decide +kernel) ?_
      simp -implicitDefEqProofs [m0]
      repeat first | refine zcurL (by decide +kernel) ?_ | refine zcurH (by decide +kernel) ?_ | refine zcurL' (by decide +kernel) ?_ | refine zcurH' (by decide +kernel) ?_
      by_cases hx0 : x.nums = []
      · rw [hx0]
        simp -implicitDefEqProofs
        refine zl_append0 (by simp) rfl rfl rfl (.inl rfl) tet33 ts3 ?_
        simp -implicitDefEqProofs [m0]
        repeat first | refine zcurL (by decide +kernel) ?_ | refine zcurH (by decide +kernel) ?_ | refine zcurL' (by decide +kernel) ?_ | refine zcurH' (by decide +kernel) ?_
        refine ⟨rcS size nds is k1 k2 [(m, [vi x.k, .p (.slice none 0 0), .hsl (m + 1) 0 x.nums.length, vs x.text])] (ss ++ [((m + 1), x.nums.map vi)]) (m + 1 + 1), le_rcS (by simp [upd, m0']) (by simp [upd, show ¬ k1 = m by omega, show ¬ k1 = m + 1 by omega, show ¬ k1 = m + 1 + 1 by omega]) (by simp [upd, hnk, show ¬ k2 = m by omega, show ¬ k2 = m + 1 by omega, show ¬ k2 = m + 1 + 1 by omega]) (fun p hp => ?_) (by simp [upd, hx0]) (by simp), m, (m + 1), (m + 1 + 1), by omega, by omega, by omega, by omega, by omega, rfl, by simp [hnd, hx0]⟩
        rcases List.mem_append.1 hp with hp | hp
        · obtain ⟨q1, q2, q3, q4⟩ := n4 p hp
          simp [upd, q3, q4, show ¬ p.1 = m by omega, show ¬ p.1 = m + 1 by omega, show ¬ p.1 = m + 1 + 1 by omega, lkN_of n5 hp]
        · obtain rfl := List.mem_singleton.1 hp
          simp [upd, hx0]
      · refine zl_append (by simp) rfl rfl rfl (b := (m + 1)) (xs := []) (by simp [upd]) (by simp) rfl (by simp [hx0]) te33 tet33 tz3 rfl (by simp) (by simp) (by simp; omega) (by simp; omega) ?_
        simp -implicitDefEqProofs [m0]
        repeat first | refine zcurL (by decide +kernel) ?_ | refine zcurH (by decide +kernel) ?_ | refine zcurL' (by decide +kernel) ?_ | refine zcurH' (by decide +kernel) ?_
        refine ⟨rcS size nds is k1 k2 [(m, [vi x.k, .p (.slice none 0 0), .hsl (m + 1 + 1) 0 x.nums.length, vs x.text])] (ss ++ [((m + 1 + 1), x.nums.map vi)]) (m + 1 + 1 + 1), le_rcS (by simp [upd, m0']) (by simp [upd, show ¬ k1 = m by omega, show ¬ k1 = m + 1 by omega, show ¬ k1 = m + 1 + 1 by omega]) (by simp [upd, hnk, show ¬ k2 = m by omega, show ¬ k2 = m + 1 by omega, show ¬ k2 = m + 1 + 1 by omega]) (fun p hp => ?_) (by simp [upd, hx0]) (by simp), m, (m + 1 + 1), (m + 1 + 1 + 1), by omega, by omega, by omega, by omega, by omega, rfl, by simp [hnd, hx0]⟩
        rcases List.mem_append.1 hp with hp | hp
        · obtain ⟨q1, q2, q3, q4⟩ := n4 p hp
          simp [upd, q3, q4, show ¬ p.1 = m by omega, show ¬ p.1 = m + 1 by omega, show ¬ p.1 = m + 1 + 1 by omega, lkN_of n5 hp]
        · obtain rfl := List.mem_singleton.1 hp
          simp [upd, hx0]
    case refine_2 =>
      simp only [aft, List.modify_succ_cons, List.modify_zero_cons, aftE, List.push_toArray, List.cons_append, List.nil_append]
      refine awo_perm [0, 1, 2, 3, 4, 9, 5, 6, 7, 8, 10] (by decide +kernel) ?_
      simp only [permL, renO, List.getD_cons_zero, List.getD_cons_succ, Option.map_none, Option.map_some]
      refine awo_zrun [8, 16] [] (by decide +kernel) ?_
      simp -implicitDefEqProofs [m0]
      repeat first | refine zcurL (by decide +kernel) ?_ | refine zcurH (by decide +kernel) ?_ | refine zcurL' (by decide +kernel) ?_ | refine zcurH' (by decide +kernel) ?_
      by_cases hx0 : x.nums = []
      · rw [hx0]
        simp -implicitDefEqProofs
        refine zl_append0 (by simp) rfl rfl rfl (.inl rfl) tet33 ts3 ?_
        simp -implicitDefEqProofs [m0]
        repeat first | refine zcurL (by decide +kernel) ?_ | refine zcurH (by decide +kernel) ?_ | refine zcurL' (by decide +kernel) ?_ | refine zcurH' (by decide +kernel) ?_
        refine ⟨rcS size nds is k1 k2 [((m + 1), [vi x.k, .p (.slice none 0 0), .hsl m 0 x.nums.length, vs x.text])] (ss ++ [(m, x.nums.map vi)]) (m + 1 + 1), le_rcS (by simp [upd, m0']) (by simp [upd, show ¬ k1 = m by omega, show ¬ k1 = m + 1 by omega, show ¬ k1 = m + 1 + 1 by omega]) (by simp [upd, hnk, show ¬ k2 = m by omega, show ¬ k2 = m + 1 by omega, show ¬ k2 = m + 1 + 1 by omega]) (fun p hp => ?_) (by simp [upd, hx0]) (by simp), (m + 1), m, (m + 1 + 1), by omega, by omega, by omega, by omega, by omega, rfl, by simp [hnd, hx0]⟩
        rcases List.mem_append.1 hp with hp | hp
        · obtain ⟨q1, q2, q3, q4⟩ := n4 p hp
          simp [upd, q3, q4, show ¬ p.1 = m by omega, show ¬ p.1 = m + 1 by omega, show ¬ p.1 = m + 1 + 1 by omega, lkN_of n5 hp]
        · obtain rfl := List.mem_singleton.1 hp
          simp [upd, hx0]
      · refine zl_append (by simp) rfl rfl rfl (b := m) (xs := []) (by simp [upd]) (by simp) rfl (by simp [hx0]) te33 tet33 tz3 rfl (by simp) (by simp) (by simp; omega) (by simp; omega) ?_
        simp -implicitDefEqProofs [m0]
        repeat first | refine zcurL (by decide +kernel) ?_ | refine zcurH (by decide +kernel) ?_ | refine zcurL' (by decide +kernel) ?_ | refine zcurH' (by decide +kernel) ?_
        refine ⟨rcS size nds is k1 k2 [((m + 1), [vi x.k, .p (.slice none 0 0), .hsl (m + 1 + 1) 0 x.nums.length, vs x.text])] (ss ++ [((m + 1 + 1), x.nums.map vi)]) (m + 1 + 1 + 1), le_rcS (by simp [upd, m0']) (by simp [upd, show ¬ k1 = m by omega, show ¬ k1 = m + 1 by omega, show ¬ k1 = m + 1 + 1 by omega]) (by simp [upd, hnk, show ¬ k2 = m by omega, show ¬ k2 = m + 1 by omega, show ¬ k2 = m + 1 + 1 by omega]) (fun p hp => ?_) (by simp [upd, hx0]) (by simp), (m + 1), (m + 1 + 1), (m + 1 + 1 + 1), by omega, by omega, by omega, by omega, by omega, rfl, by simp [hnd, hx0]⟩
        rcases List.mem_append.1 hp with hp | hp
        · obtain ⟨q1, q2, q3, q4⟩ := n4 p hp
          simp [upd, q3, q4, show ¬ p.1 = m by omega, show ¬ p.1 = m + 1 by omega, show ¬ p.1 = m + 1 + 1 by omega, lkN_of n5 hp]
        · obtain rfl := List.mem_singleton.1 hp
          simp [upd, hx0]
    case refine_3 =>
      simp only [aft, List.modify_succ_cons, List.modify_zero_cons, aftE, List.push_toArray, List.cons_append, List.nil_append]
      refine awo_perm [0, 1, 2, 3, 4, 5, 6, 7, 9, 8, 10] (by decide +kernel) ?_
      simp only [permL, renO, List.getD_cons_zero, List.getD_cons_succ, Option.map_none, Option.map_some]
      refine awo_zrun [8, 16] [] (by decide +kernel) ?_
      simp -implicitDefEqProofs [m0]
      repeat first | refine zcurL (by decide +kernel) ?_ | refine zcurH (by decide +kernel) ?_ | refine zcurL' (by decide +kernel) ?_ | refine zcurH' (by decide +kernel) ?_
      by_cases hx0 : x.nums = []
      · rw [hx0]
        simp -implicitDefEqProofs
        refine zl_append0 (by simp) rfl rfl rfl (.inl rfl) tet33 ts3 ?_
        simp -implicitDefEqProofs [m0]
        repeat first | refine zcurL (by decide +kernel) ?_ | refine zcurH (by decide +kernel) ?_ | refine zcurL' (by decide +kernel) ?_ | refine zcurH' (by decide +kernel) ?_
        refine ⟨rcS size nds is k1 k2 [((m + 1), [vi x.k, .p (.slice none 0 0), .hsl m 0 x.nums.length, vs x.text])] (ss ++ [(m, x.nums.map vi)]) (m + 1 + 1), le_rcS (by simp [upd, m0']) (by simp [upd, show ¬ k1 = m by omega, show ¬ k1 = m + 1 by omega, show ¬ k1 = m + 1 + 1 by omega]) (by simp [upd, hnk, show ¬ k2 = m by omega, show ¬ k2 = m + 1 by omega, show ¬ k2 = m + 1 + 1 by omega]) (fun p hp => ?_) (by simp [upd, hx0]) (by simp), (m + 1), m, (m + 1 + 1), by omega, by omega, by omega, by omega, by omega, rfl, by simp [hnd, hx0]⟩
        rcases List.mem_append.1 hp with hp | hp
        · obtain ⟨q1, q2, q3, q4⟩ := n4 p hp
          simp [upd, q3, q4, show ¬ p.1 = m by omega, show ¬ p.1 = m + 1 by omega, show ¬ p.1 = m + 1 + 1 by omega, lkN_of n5 hp]
        · obtain rfl := List.mem_singleton.1 hp
          simp [upd, hx0]
      · refine zl_append (by simp) rfl rfl rfl (b := m) (xs := []) (by simp [upd]) (by simp) rfl (by simp [hx0]) te33 tet33 tz3 rfl (by simp) (by simp) (by simp; omega) (by simp; omega) ?_
        simp -implicitDefEqProofs [m0]
        repeat first | refine zcurL (by decide +kernel) ?_ | refine zcurH (by decide +kernel) ?_ | refine zcurL' (by decide +kernel) ?_ | refine zcurH' (by decide +kernel) ?_
        refine ⟨rcS size nds is k1 k2 [((m + 1 + 1), [vi x.k, .p (.slice none 0 0), .hsl (m + 1) 0 x.nums.length, vs x.text])] (ss ++ [((m + 1), x.nums.map vi)]) (m + 1 + 1 + 1), le_rcS (by simp [upd, m0']) (by simp [upd, show ¬ k1 = m by omega, show ¬ k1 = m + 1 by omega, show ¬ k1 = m + 1 + 1 by omega]) (by simp [upd, hnk, show ¬ k2 = m by omega, show ¬ k2 = m + 1 by omega, show ¬ k2 = m + 1 + 1 by omega]) (fun p hp => ?_) (by simp [upd, hx0]) (by simp), (m + 1 + 1), (m + 1), (m + 1 + 1 + 1), by omega, by omega, by omega, by omega, by omega, rfl, by simp [hnd, hx0]⟩
        rcases List.mem_append.1 hp with hp | hp
        · obtain ⟨q1, q2, q3, q4⟩ := n4 p hp
          simp [upd, q3, q4, show ¬ p.1 = m by omega, show ¬ p.1 = m + 1 by omega, show ¬ p.1 = m + 1 + 1 by omega, lkN_of n5 hp]
        · obtain rfl := List.mem_singleton.1 hp
          simp [upd, hx0]
set_option maxHeartbeats 8000000 in
set_option maxRecDepth 100000 in
theorem rone2_ok (size : Int) (nds : List Nd) (is : List Bool) (k1 k2 : Nat) (ss : List (Nat × List AV)) (m : Nat) (hn : RcN k1 k2 m [] ss) (hl : nds.length = is.length) (h0 : 1 ≤ is.length) (hlb : is.length ≤ 1000000) (x : Nd) (hx : NdOk x) (ah : List Int) (ka : Nat) (ha : (ka, ah.map vi) ∈ ss) (hr : ∀ r ∈ x.refs, -1 - r < ah.length) (hah : ah.length ≤ 1000000) (hN : ∀ y ∈ nds, NdL y) (hf : findR (resN ah x) (nds.drop 1) (is.drop 1) 1 = 0) (hfr : freeR (is.drop 1) 1 = none) (hsz : size < (is.length : Int)) :
    ACall Tryd.prog 38 [.ptr 0 0, ndA x, .hsl ka 0 ah.length] (rcS size nds is k1 k2 [] ss m) fun r τ => r = .tup [vi 0, vi 3] ∧ ∃ m', RcN k1 k2 m' [] ss ∧ (rcS size nds is k1 k2 [] ss m').Le τ := by
  have hnd : ndA x = .agg [vi x.k, .vsl (x.refs.map vi), .vsl (x.nums.map vi), vs x.text] := rfl
  have hnk : ¬ k2 = k1 := fun e => hn.n e.symm
  have hnl := hx.nl
  have hrl := hx.rl
  refine acall_of Tryd.func38 Tryd.ntmps38 rfl ?_
  simp only [List.length_cons, List.length_nil, List.cons_append, List.nil_append, List.replicate]
  rw [hnd]
  repeat' first | refine aw_N [8, 16] trivial trivial ?_ | refine aw_cond rfl (fun h => ?_) (fun h => ?_)
  obtain ⟨n1, n2, n3, n4, n5, n6, n7⟩ := hn
  have hka := n4 (ka, ah.map vi) ha
  simp only at hka
  refine aw_mid [0, 2, 4, 6, 7, 8] (fun fr σ => OnM size nds is k1 k2 ss m x ah ka fr σ) ?_ ?_
  · rintro fr σ ⟨B, kn, T, hB, hkn, hBT, hknT, hBk, rfl, rfl⟩
    simp -implicitDefEqProofs
    have B0 : ¬ B = 0 := by omega
    have B0' : ¬ 0 = B := by omega
    repeat' first | refine aw_W [8, 16] @B0 trivial ?_ | refine aw_cond rfl (fun h => ?_) (fun h => ?_)
    refine aw_openBx (b := B) (i := 1) (cs := [vi x.k, .p (.slice none 0 0), .hsl kn 0 x.nums.length, vs x.text]) (by simp [B0]) rfl ?_
    refine aw_loopW [0, 2, 4, 6, 7, 8, 9] (fun q fr σ => OnI size nds is k1 k2 ss m x ah ka q fr σ) x.refs.length ?_ ?_
    · refine ⟨rcS size nds is k1 k2 [(B, [vi x.k, .hsl T 0 0, .hsl kn 0 x.nums.length, vs x.text])] (ss ++ [(T, []), (kn, x.nums.map vi)]) (T + 1), le_rcS (by simp [upd, ASt.addSl, B0']) (by simp [upd, ASt.addSl, show ¬ k1 = T by omega]) (by simp [upd, ASt.addSl, hnk, show ¬ k2 = T by omega]) (fun p hp => ?_) (by simp [upd, ASt.addSl]) (by simp [ASt.addSl]), 0, B, T, kn, T + 1, by omega, hB, by omega, hkn, by omega, by omega, by omega, by omega, by simp, by simp⟩
      rcases List.mem_append.1 hp with hp | hp
      · obtain ⟨q1, q2, q3, q4⟩ := n4 p hp
        simp [upd, ASt.addSl, q3, q4, show ¬ p.1 = T by omega, lkN_app _ (lkN_of n5 hp)]
      · simp at hp
        rcases hp with rfl | rfl
        · simp [upd, ASt.addSl]
        · simp [upd, ASt.addSl, show ¬ kn = T by omega, show ¬ kn = k1 by omega, show ¬ kn = k2 by omega, lkN_skip (i := kn) ss _ fun p hp => by have := n4 p hp; omega]
    · clear hB hkn hBT hknT hBk B0 B0' B kn T
      rintro q fr σ ⟨i, B, kr, kn, T, hi, hB, hkr, hkn, hBT, hkrT, hknT, hkk, rfl, rfl⟩
      have B0 : ¬ B = 0 := by omega
      have B0' : ¬ 0 = B := by omega
      have l1 := lkN_skip (i := kr) ss [(kr, ((x.refs.take i).map (resR ah)).map vi), (kn, x.nums.map vi)] fun p hp => by have := n4 p hp; omega
      have l2 := lkN_skip (i := kn) ss [(kr, ((x.refs.take i).map (resR ah)).map vi), (kn, x.nums.map vi)] fun p hp => by have := n4 p hp; omega
      have l3 := lkN_app [(kr, ((x.refs.take i).map (resR ah)).map vi), (kn, x.nums.map vi)] (lkN_of n5 ha)
      obtain ⟨L, hL⟩ : ∃ L, L = (x.refs.take i).map (resR ah) := ⟨_, rfl⟩
      have hLl : L.length = i := by rw [hL]; simp; omega
      rw [← hL] at l1 l2 l3 ⊢
      simp only [lkN_cons, if_pos] at l1 l2 l3
      rw [if_neg (fun e => hkk e.symm)] at l2
      simp -implicitDefEqProofs
      have e1 : ¬ kr = k1 := by omega
      have e2 : ¬ kr = k2 := by omega
      have e3 : ¬ kn = k1 := by omega
      have e4 : ¬ kn = k2 := by omega
      have e5 : ¬ ka = k1 := by omega
      have e6 : ¬ ka = k2 := by omega
      by_cases hlt : i < x.refs.length
      · have hlti : (i : Int) < x.refs.length := by omega
        obtain ⟨r, hr1⟩ : ∃ r, x.refs[i] = r := ⟨_, rfl⟩
        have hrg : x.refs[i]? = some r := by rw [List.getElem?_eq_getElem hlt, hr1]
        have hrm := List.mem_of_getElem? hrg
        have wi : IntKind.i64.wrap ((i : Int) + 1) = (i : Int) + 1 := wrap_id (by omega) (by omega)
        have hrr := hx.refs r hrm
        have hrv : (x.refs.map vi).length = x.refs.length := List.length_map _
        have htk : (x.refs.take (i + 1)).map (resR ah) = L ++ [resR ah r] := by rw [List.take_add_one, hrg, List.map_append, ← hL]; rfl
        by_cases hr0 : r < 0
        · obtain ⟨j, hj⟩ : ∃ j : Nat, -1 - r = j := ⟨(-1 - r).toNat, by omega⟩
          have wr : IntKind.i64.wrap (-1 - r) = (j : Int) := by rw [← hj]; exact wrap_id (by omega) (by omega)
          have hjl : j < ah.length := by have := hr r hrm; omega
          have hjli : (j : Int) < ah.length := by omega
          obtain ⟨t, ht1⟩ : ∃ t, ah[j] = t := ⟨_, rfl⟩
          have htg : ah[j]? = some t := by rw [List.getElem?_eq_getElem hjl, ht1]
          have hhv : (ah.map vi).length = ah.length := List.length_map _
          have hrs : resR ah r = t := by rw [resR, if_pos hr0, hj]; simp [htg]
          rw [hrs] at htk
          repeat' (first
            | refine aw_seq ?_
            | ((first | refine aw_run [8, 16] ?_ | refine aw_ymix [8, 16] draws (by decide +kernel) ?_); try simp -implicitDefEqProofs (maxSteps := 1000000) [hnd, hlt, hlti, hr1, hrg, hrv, hr0, wr, hjl, hjli, ht1, htg, hhv, e1, e2, e3, e4, e5, e6, l1, l2, l3, B0])
            | ((first | refine aw_zrun [8, 16] [] draws (by decide +kernel) (by decide +kernel) ?_ | refine zl_skip (by simp) rfl ?_); try simp -implicitDefEqProofs (maxSteps := 1000000) [hnd, hlt, hlti, hr1, hrg, hrv, hr0, wr, hjl, hjli, ht1, htg, hhv, e1, e2, e3, e4, e5, e6, l1, l2, l3, B0]; repeat first | refine zcurL (by decide +kernel) ?_ | refine zcurH (by decide +kernel) ?_ | refine zcurL' (by decide +kernel) ?_ | refine zcurH' (by decide +kernel) ?_)
            | ((first | refine aw_yrun draws (by kernel_rfl) ?_ | refine awl_skip' [8, 16] rfl ?_ | refine yl_skip rfl ?_ | refine aw_skip ?_ | refine aw_exit ?_); try simp -implicitDefEqProofs (maxSteps := 1000000) [hnd, hlt, hlti, hr1, hrg, hrv, hr0, wr, hjl, hjli, ht1, htg, hhv, e1, e2, e3, e4, e5, e6, l1, l2, l3, B0])
            | (refine aw_cond rfl (fun h => ?_) (fun h => ?_) <;> try (with_reducible first | exact ff_tt h | exact tt_ff h))
            | refine aw_block ?_
            | refine aw_ret (ret_of (.inr rfl) (by simp [Tryd.results38]; rfl) (Fin.of ?_))
            | refine ret_of (.inl rfl) (by simp [Tryd.results38]; rfl) (Fin.of ?_))
          refine awl_append [8] rfl rfl rfl (b := kr) (xs := L.map vi) (by simp [e1, e2, l1]) (by simp; omega) rfl (by simp) te33 tet33 tz3 rfl (fun y hy => by obtain ⟨_, _, rfl⟩ := List.mem_map.1 hy; rfl) (by simp) (by simp; omega) (by simp; omega) ?_
          simp -implicitDefEqProofs [B0]
          repeat' first | refine aw_W [8, 16] (And.intro @wi @B0) trivial ?_ | refine aw_cond rfl (fun h => ?_) (fun h => ?_)
          refine ⟨q - 1, by omega, rcS size nds is k1 k2 [(B, [vi x.k, .hsl T 0 (i + 1), .hsl kn 0 x.nums.length, vs x.text])] (ss ++ [(T, ((x.refs.take (i + 1)).map (resR ah)).map vi), (kn, x.nums.map vi)]) (T + 1), le_rcS (by simp [upd, ASt.addSl, ASt.dropSl, B0']) (by simp [upd, ASt.addSl, ASt.dropSl, show ¬ k1 = T by omega, Ne.symm e1]) (by simp [upd, ASt.addSl, ASt.dropSl, hnk, show ¬ k2 = T by omega, Ne.symm e2]) (fun p hp => ?_) (by simp [upd, ASt.addSl, ASt.dropSl]) (by simp [ASt.addSl]), i + 1, B, T, kn, T + 1, by omega, hB, by omega, hkn, by omega, by omega, by omega, by omega, by simp, by simp [hnd]⟩
          rcases List.mem_append.1 hp with hp | hp
          · obtain ⟨q1, q2, q3, q4⟩ := n4 p hp
            simp [upd, ASt.addSl, ASt.dropSl, q3, q4, show ¬ p.1 = T by omega, show ¬ p.1 = kr by omega, lkN_app _ (lkN_of n5 hp)]
          · simp only [List.mem_cons, List.not_mem_nil, or_false] at hp
            rcases hp with rfl | rfl
            · rw [htk]
              simp [upd, ASt.addSl, ASt.dropSl, List.take_of_length_le, hLl]
            · simp [upd, ASt.addSl, ASt.dropSl, show ¬ kn = T by omega, Ne.symm hkk, e3, e4, l2]
        · have hrs : resR ah r = r := by rw [resR, if_neg hr0]
          rw [hrs] at htk
          repeat' (first
            | refine aw_seq ?_
            | ((first | refine aw_run [8, 16] ?_ | refine aw_ymix [8, 16] draws (by decide +kernel) ?_); try simp -implicitDefEqProofs (maxSteps := 1000000) [hnd, hlt, hlti, hr1, hrg, hrv, hr0, e1, e2, e3, e4, e5, e6, l1, l2, l3, B0])
            | ((first | refine aw_zrun [8, 16] [] draws (by decide +kernel) (by decide +kernel) ?_ | refine zl_skip (by simp) rfl ?_); try simp -implicitDefEqProofs (maxSteps := 1000000) [hnd, hlt, hlti, hr1, hrg, hrv, hr0, e1, e2, e3, e4, e5, e6, l1, l2, l3, B0]; repeat first | refine zcurL (by decide +kernel) ?_ | refine zcurH (by decide +kernel) ?_ | refine zcurL' (by decide +kernel) ?_ | refine zcurH' (by decide +kernel) ?_)
            | ((first | refine aw_yrun draws (by kernel_rfl) ?_ | refine awl_skip' [8, 16] rfl ?_ | refine yl_skip rfl ?_ | refine aw_skip ?_ | refine aw_exit ?_); try simp -implicitDefEqProofs (maxSteps := 1000000) [hnd, hlt, hlti, hr1, hrg, hrv, hr0, e1, e2, e3, e4, e5, e6, l1, l2, l3, B0])
            | (refine aw_cond rfl (fun h => ?_) (fun h => ?_) <;> try (with_reducible first | exact ff_tt h | exact tt_ff h))
            | refine aw_block ?_
            | refine aw_ret (ret_of (.inr rfl) (by simp [Tryd.results38]; rfl) (Fin.of ?_))
            | refine ret_of (.inl rfl) (by simp [Tryd.results38]; rfl) (Fin.of ?_))
          refine awl_append [8] rfl rfl rfl (b := kr) (xs := L.map vi) (by simp [e1, e2, l1]) (by simp; omega) rfl (by simp) te33 tet33 tz3 rfl (fun y hy => by obtain ⟨_, _, rfl⟩ := List.mem_map.1 hy; rfl) (by simp) (by simp; omega) (by simp; omega) ?_
          simp -implicitDefEqProofs [B0]
          repeat' first | refine aw_W [8, 16] (And.intro @wi @B0) trivial ?_ | refine aw_cond rfl (fun h => ?_) (fun h => ?_)
          refine ⟨q - 1, by omega, rcS size nds is k1 k2 [(B, [vi x.k, .hsl T 0 (i + 1), .hsl kn 0 x.nums.length, vs x.text])] (ss ++ [(T, ((x.refs.take (i + 1)).map (resR ah)).map vi), (kn, x.nums.map vi)]) (T + 1), le_rcS (by simp [upd, ASt.addSl, ASt.dropSl, B0']) (by simp [upd, ASt.addSl, ASt.dropSl, show ¬ k1 = T by omega, Ne.symm e1]) (by simp [upd, ASt.addSl, ASt.dropSl, hnk, show ¬ k2 = T by omega, Ne.symm e2]) (fun p hp => ?_) (by simp [upd, ASt.addSl, ASt.dropSl]) (by simp [ASt.addSl]), i + 1, B, T, kn, T + 1, by omega, hB, by omega, hkn, by omega, by omega, by omega, by omega, by simp, by simp [hnd]⟩
          rcases List.mem_append.1 hp with hp | hp
          · obtain ⟨q1, q2, q3, q4⟩ := n4 p hp
            simp [upd, ASt.addSl, ASt.dropSl, q3, q4, show ¬ p.1 = T by omega, show ¬ p.1 = kr by omega, lkN_app _ (lkN_of n5 hp)]
          · simp only [List.mem_cons, List.not_mem_nil, or_false] at hp
            rcases hp with rfl | rfl
            · rw [htk]
              simp [upd, ASt.addSl, ASt.dropSl, List.take_of_length_le, hLl]
            · simp [upd, ASt.addSl, ASt.dropSl, show ¬ kn = T by omega, Ne.symm hkk, e3, e4, l2]
      · have hlti : ¬ (i : Int) < x.refs.length := by omega
        have hrv : (x.refs.map vi).length = x.refs.length := List.length_map _
        rw [List.take_of_length_le (by omega)] at hL
        obtain rfl : i = x.refs.length := by omega
        repeat' first | refine aw_N [8, 16] (And.intro @hnd (And.intro @hlti (And.intro @hrv @B0))) trivial ?_ | refine aw_cond rfl (fun h => ?_) (fun h => ?_)
        have e7 : ¬ ka = kr := by omega
        have e8 : ¬ ka = kn := by omega
        have e9 : ¬ kn = kr := fun e => hkk e.symm
        refine awl_freezeX (b := kr) (b0 := B) (xs := L.map vi) (cs := [vi x.k, .hsl kr 0 x.refs.length, .hsl kn 0 x.nums.length, vs x.text]) (by simp [e1, e2, l1]) (by simp [B0]) ?_
        refine awl_freezeX (b := kn) (b0 := B) (xs := x.nums.map vi) (cs := [vi x.k, .vsl (L.map vi), .hsl kn 0 x.nums.length, vs x.text]) (by simp [ASt.dropSl, ASt.setBx, upd, e9, e3, e4, l2]) (by simp [ASt.dropSl, ASt.setBx, frz, frz1, frz0, e9, hLl, List.take_of_length_le]) ?_
        obtain ⟨y, hy⟩ : ∃ y, y = resN ah x := ⟨_, rfl⟩
        have hya : ndA y = .agg [vi x.k, .vsl (L.map vi), .vsl (x.nums.map vi), vs x.text] := by rw [hy, hL]; rfl
        refine AWL.less (τ := rcS size nds is k1 k2 [(B, [vi x.k, .vsl (L.map vi), .vsl (x.nums.map vi), vs x.text])] ss T) (le_rcS (by simp [ASt.dropSl, ASt.setBx, upd, B0']) (by simp [ASt.dropSl, ASt.setBx, upd, Ne.symm e1, Ne.symm e3]) (by simp [ASt.dropSl, ASt.setBx, upd, hnk, Ne.symm e2, Ne.symm e4]) (fun p hp => by
          obtain ⟨q1, q2, q3, q4⟩ := n4 p hp
          simp [ASt.dropSl, ASt.setBx, upd, q3, q4, show ¬ p.1 = kr by omega, show ¬ p.1 = kn by omega, lkN_app _ (lkN_of n5 hp)]) (by simp [ASt.dropSl, ASt.setBx, upd, frz, frz1, frz0, hLl, List.take_of_length_le]) (by simp [ASt.dropSl, ASt.setBx])) ?_
        simp -implicitDefEqProofs [frz, frz1, frz0, e7, e8, e9, hLl, List.take_of_length_le]
        have hnB : RcN k1 k2 T [(B, [vi x.k, .vsl (L.map vi), .vsl (x.nums.map vi), vs x.text])] ss := ⟨by omega, by omega, n3, fun p hp => by have := n4 p hp; omega, n5, by simp; omega, by simp⟩
        have hyL : NdL y := by rw [hy]; exact ⟨by simp [resN]; omega, by simp [resN]; omega⟩
        have hfd := rfind09_ok size nds is y hl hlb hyL hN
        rw [hya] at hfd
        rw [← hy] at hf
        rw [hf] at hfd
        refine awl_lendD 2 [8] rfl rfl rfl (by kernel_rfl) (args := [.ptr 0 0, .agg [vi x.k, .vsl (L.map vi), .vsl (x.nums.map vi), vs x.text]]) rfl (args' := [rcV size nds is, .agg [vi x.k, .vsl (L.map vi), .vsl (x.nums.map vi), vs x.text]]) (by
          simp only [List.map_cons, List.map_nil]
          rw [cloD_rc hnB]
          simp [cloD]) hfd (by
          intro a ha
          simp only [List.mem_cons, List.not_mem_nil, or_false] at ha
          rcases ha with rfl | rfl
          · exact cl_rcV _ _ _
          · rw [← hya]; exact cl_ndA _) (by simp) ?_
        simp -implicitDefEqProofs
        repeat' first | refine aw_W [8, 16] trivial trivial ?_ | refine aw_cond rfl (fun h => ?_) (fun h => ?_)
        refine awl_cons rfl (opq_call rfl rfl rfl ((rfree2_ok size nds is k1 k2 _ ss T hnB hl h0 hlb hfr hsz).mono fun r τ ⟨q1, q2⟩ => ?_))
        subst q1
        refine AWL.less q2 ?_
        refine awl_run' [8] ?_
        simp -implicitDefEqProofs
        repeat' first | refine aw_W [8, 16] trivial trivial ?_ | refine aw_cond rfl (fun h => ?_) (fun h => ?_)
        exact ⟨by simp [tupOf], T, ⟨by omega, by omega, n3, fun p hp => by have := n4 p hp; omega, n5, by simp, by simp⟩, le_rcS (by simp) (by simp) (by simp [hnk]) (fun p hp => by obtain ⟨q1, q2, q3, q4⟩ := n4 p hp; simp [q3, q4, lkN_of n5 hp]) (by simp) (by simp)⟩
  have hnv : (x.nums.map vi).length = x.nums.length := List.length_map _
  have m0 : ¬ m = 0 := by omega
  have m0' : ¬ 0 = m := by omega
  · refine aw_of_awo draws (awo_split 9 4 (by decide) (by decide) (by decide) ?_ (awo_split 9 7 (by decide) (by decide) (by decide) ?_ ?_))
    case refine_1 =>
      simp only [aft, List.modify_succ_cons, List.modify_zero_cons, aftE, List.push_toArray, List.cons_append, List.nil_append]
      refine awo_perm [0, 1, 2, 3, 9, 4, 5, 6, 7, 8, 10] (by decide +kernel) ?_
      simp only [permL, renO, List.getD_cons_zero, List.getD_cons_succ, Option.map_none, Option.map_some]
      refine awo_zrun [8, 16] [] (by decide +kernel) ?_
      simp -implicitDefEqProofs [m0]
      repeat first | refine zcurL (by decide +kernel) ?_ | refine zcurH (by decide +kernel) ?_ | refine zcurL' (by decide +kernel) ?_ | refine zcurH' (by decide +kernel) ?_
      by_cases hx0 : x.nums = []
      · rw [hx0]
        simp -implicitDefEqProofs
        refine zl_append0 (by simp) rfl rfl rfl (.inl rfl) tet33 ts3 ?_
        simp -implicitDefEqProofs [m0]
        repeat first | refine zcurL (by decide +kernel) ?_ | refine zcurH (by decide +kernel) ?_ | refine zcurL' (by decide +kernel) ?_ | refine zcurH' (by decide +kernel) ?_
        refine ⟨rcS size nds is k1 k2 [(m, [vi x.k, .p (.slice none 0 0), .hsl (m + 1) 0 x.nums.length, vs x.text])] (ss ++ [((m + 1), x.nums.map vi)]) (m + 1 + 1), le_rcS (by simp [upd, m0']) (by simp [upd, show ¬ k1 = m by omega, show ¬ k1 = m + 1 by omega, show ¬ k1 = m + 1 + 1 by omega]) (by simp [upd, hnk, show ¬ k2 = m by omega, show ¬ k2 = m + 1 by omega, show ¬ k2 = m + 1 + 1 by omega]) (fun p hp => ?_) (by simp [upd, hx0]) (by simp), m, (m + 1), (m + 1 + 1), by omega, by omega, by omega, by omega, by omega, rfl, by simp [hnd, hx0]⟩
        rcases List.mem_append.1 hp with hp | hp
        · obtain ⟨q1, q2, q3, q4⟩ := n4 p hp
          simp [upd, q3, q4, show ¬ p.1 = m by omega, show ¬ p.1 = m + 1 by omega, show ¬ p.1 = m + 1 + 1 by omega, lkN_of n5 hp]
        · obtain rfl := List.mem_singleton.1 hp
          simp [upd, hx0]
      · refine zl_append (by simp) rfl rfl rfl (b := (m + 1)) (xs := []) (by simp [upd]) (by simp) rfl (by simp [hx0]) te33 tet33 tz3 rfl (by simp) (by simp) (by simp; omega) (by simp; omega) ?_
        simp -implicitDefEqProofs [m0]
        repeat first | refine zcurL (by decide +kernel) ?_ | refine zcurH (by decide +kernel) ?_ | refine zcurL' (by decide +kernel) ?_ | refine zcurH' (by decide +kernel) ?_
        refine ⟨rcS size nds is k1 k2 [(m, [vi x.k, .p (.slice none 0 0), .hsl (m + 1 + 1) 0 x.nums.length, vs x.text])] (ss ++ [((m + 1 + 1), x.nums.map vi)]) (m + 1 + 1 + 1), le_rcS (by simp [upd, m0']) (by simp [upd, show ¬ k1 = m by omega, show ¬ k1 = m + 1 by omega, show ¬ k1 = m + 1 + 1 by omega]) (by simp [upd, hnk, show ¬ k2 = m by omega, show ¬ k2 = m + 1 by omega, show ¬ k2 = m + 1 + 1 by omega]) (fun p hp => ?_) (by simp [upd, hx0]) (by simp), m, (m + 1 + 1), (m + 1 + 1 + 1), by omega, by omega, by omega, by omega, by omega, rfl, by simp [hnd, hx0]⟩
        rcases List.mem_append.1 hp with hp | hp
        · obtain ⟨q1, q2, q3, q4⟩ := n4 p hp
          simp [upd, q3, q4, show ¬ p.1 = m by omega, show ¬ p.1 = m + 1 by omega, show ¬ p.1 = m + 1 + 1 by omega, lkN_of n5 hp]
        · obtain rfl := List.mem_singleton.1 hp
          simp [upd, hx0]
    case refine_2 =>
      simp only [aft, List.modify_succ_cons, List.modify_zero_cons, aftE, List.push_toArray, List.cons_append, List.nil_append]
      refine awo_perm [0, 1, 2, 3, 4, 9, 5, 6, 7, 8, 10] (by decide +kernel) ?_
      simp only [permL, renO, List.getD_cons_zero, List.getD_cons_succ, Option.map_none, Option.map_some]
      refine awo_zrun [8, 16] [] (by decide +kernel) ?_
      simp -implicitDefEqProofs [m0]
      repeat first | refine zcurL (by decide +kernel) ?_ | refine zcurH (by decide +kernel) ?_ | refine zcurL' (by decide +kernel) ?_ | refine zcurH' (by decide +kernel) ?_
      by_cases hx0 : x.nums = []
      · rw [hx0]
        simp -implicitDefEqProofs
        refine zl_append0 (by simp) rfl rfl rfl (.inl rfl) tet33 ts3 ?_
        simp -implicitDefEqProofs [m0]
        repeat first | refine zcurL (by decide +kernel) ?_ | refine zcurH (by decide +kernel) ?_ | refine zcurL' (by decide +kernel) ?_ | refine zcurH' (by decide +kernel) ?_
        refine ⟨rcS size nds is k1 k2 [((m + 1), [vi x.k, .p (.slice none 0 0), .hsl m 0 x.nums.length, vs x.text])] (ss ++ [(m, x.nums.map vi)]) (m + 1 + 1), le_rcS (by simp [upd, m0']) (by simp [upd, show ¬ k1 = m by omega, show ¬ k1 = m + 1 by omega, show ¬ k1 = m + 1 + 1 by omega]) (by simp [upd, hnk, show ¬ k2 = m by omega, show ¬ k2 = m + 1 by omega, show ¬ k2 = m + 1 + 1 by omega]) (fun p hp => ?_) (by simp [upd, hx0]) (by simp), (m + 1), m, (m + 1 + 1), by omega, by omega, by omega, by omega, by omega, rfl, by simp [hnd, hx0]⟩
        rcases List.mem_append.1 hp with hp | hp
        · obtain ⟨q1, q2, q3, q4⟩ := n4 p hp
          simp [upd, q3, q4, show ¬ p.1 = m by omega, show ¬ p.1 = m + 1 by omega, show ¬ p.1 = m + 1 + 1 by omega, lkN_of n5 hp]
        · obtain rfl := List.mem_singleton.1 hp
          simp [upd, hx0]
      · refine zl_append (by simp) rfl rfl rfl (b := m) (xs := []) (by simp [upd]) (by simp) rfl (by simp [hx0]) te33 tet33 tz3 rfl (by simp) (by simp) (by simp; omega) (by simp; omega) ?_
        simp -implicitDefEqProofs [m0]
        repeat first | refine zcurL (by decide +kernel) ?_ | refine zcurH (by decide +kernel) ?_ | refine zcurL' (by decide +kernel) ?_ | refine zcurH' (by decide +kernel) ?_
        refine ⟨rcS size nds is k1 k2 [((m + 1), [vi x.k, .p (.slice none 0 0), .hsl (m + 1 + 1) 0 x.nums.length, vs x.text])] (ss ++ [((m + 1 + 1), x.nums.map vi)]) (m + 1 + 1 + 1), le_rcS (by simp [upd, m0']) (by simp [upd, show ¬ k1 = m by omega, show ¬ k1 = m + 1 by omega, show ¬ k1 = m + 1 + 1 by omega]) (by simp [upd, hnk, show ¬ k2 = m by omega, show ¬ k2 = m + 1 by omega, show ¬ k2 = m + 1 + 1 by omega]) (fun p hp => ?_) (by simp [upd, hx0]) (by simp), (m + 1), (m + 1 + 1), (m + 1 + 1 + 1), by omega, by omega, by omega, by omega, by omega, rfl, by simp [hnd, hx0]⟩
        rcases List.mem_append.1 hp with hp | hp
        · obtain ⟨q1, q2, q3, q4⟩ := n4 p hp
          simp [upd, q3, q4, show ¬ p.1 = m by omega, show ¬ p.1 = m + 1 by omega, show ¬ p.1 = m + 1 + 1 by omega, lkN_of n5 hp]
        · obtain rfl := List.mem_singleton.1 hp
          simp [upd, hx0]
    case refine_3 =>
      simp only [aft, List.modify_succ_cons, List.modify_zero_cons, aftE, List.push_toArray, List.cons_append, List.nil_append]
      refine awo_perm [0, 1, 2, 3, 4, 5, 6, 7, 9, 8, 10] (by decide +kernel) ?_
      simp only [permL, renO, List.getD_cons_zero, List.getD_cons_succ, Option.map_none, Option.map_some]
      refine awo_zrun [8, 16] [] (by decide +kernel) ?_
      simp -implicitDefEqProofs [m0]
      repeat first | refine zcurL (by decide +kernel) ?_ | refine zcurH (by decide +kernel) ?_ | refine zcurL' (by decide +kernel) ?_ | refine zcurH' (by decide +kernel) ?_
      by_cases hx0 : x.nums = []
      · rw [hx0]
        simp -implicitDefEqProofs
        refine zl_append0 (by simp) rfl rfl rfl (.inl rfl) tet33 ts3 ?_
        simp -implicitDefEqProofs [m0]
        repeat first | refine zcurL (by decide +kernel) ?_ | refine zcurH (by decide +kernel) ?_ | refine zcurL' (by decide +kernel) ?_ | refine zcurH' (by decide +kernel) ?_
        refine ⟨rcS size nds is k1 k2 [((m + 1), [vi x.k, .p (.slice none 0 0), .hsl m 0 x.nums.length, vs x.text])] (ss ++ [(m, x.nums.map vi)]) (m + 1 + 1), le_rcS (by simp [upd, m0']) (by simp [upd, show ¬ k1 = m by omega, show ¬ k1 = m + 1 by omega, show ¬ k1 = m + 1 + 1 by omega]) (by simp [upd, hnk, show ¬ k2 = m by omega, show ¬ k2 = m + 1 by omega, show ¬ k2 = m + 1 + 1 by omega]) (fun p hp => ?_) (by simp [upd, hx0]) (by simp), (m + 1), m, (m + 1 + 1), by omega, by omega, by omega, by omega, by omega, rfl, by simp [hnd, hx0]⟩
        rcases List.mem_append.1 hp with hp | hp
        · obtain ⟨q1, q2, q3, q4⟩ := n4 p hp
          simp [upd, q3, q4, show ¬ p.1 = m by omega, show ¬ p.1 = m + 1 by omega, show ¬ p.1 = m + 1 + 1 by omega, lkN_of n5 hp]
        · obtain rfl := List.mem_singleton.1 hp
          simp [upd, hx0]
      · refine zl_append (by simp) rfl rfl rfl (b := m) (xs := []) (by simp [upd]) (by simp) rfl (by simp [hx0]) te33 tet33 tz3 rfl (by simp) (by simp) (by simp; omega) (by simp; omega) ?_
        simp -implicitDefEqProofs [m0]
        repeat first | refine zcurL (by decide +kernel) ?_ | refine zcurH (by decide +kernel) ?_ | refine zcurL' (by decide +kernel) ?_ | refine zcurH' (by decide +kernel) ?_
        refine ⟨rcS size nds is k1 k2 [((m + 1 + 1), [vi x.k, .p (.slice none 0 0), .hsl (m + 1) 0 x.nums.length, vs x.text])] (ss ++ [((m + 1), x.nums.map vi)]) (m + 1 + 1 + 1), le_rcS (by simp [upd, m0']) (by simp [upd, show ¬ k1 = m by omega, show ¬ k1 = m + 1 by omega, show ¬ k1 = m + 1 + 1 by omega]) (by simp [upd, hnk, show ¬ k2 = m by omega, show ¬ k2 = m + 1 by omega, show ¬ k2 = m + 1 + 1 by omega]) (fun p hp => ?_) (by simp [upd, hx0]) (by simp), (m + 1 + 1), (m + 1), (m + 1 + 1 + 1), by omega, by omega, by omega, by omega, by omega, rfl, by simp [hnd, hx0]⟩
        rcases List.mem_append.1 hp with hp | hp
        · obtain ⟨q1, q2, q3, q4⟩ := n4 p hp
          simp [upd, q3, q4, show ¬ p.1 = m by omega, show ¬ p.1 = m + 1 by omega, show ¬ p.1 = m + 1 + 1 by omega, lkN_of n5 hp]
        · obtain rfl := List.mem_singleton.1 hp
          simp [upd, hx0]
set_option maxHeartbeats 8000000 in
set_option maxRecDepth 100000 in
theorem rone34 (size : Int) (nds nds' : List Nd) (is is' : List Bool) (k1 k2 : Nat) (ss : List (Nat × List AV)) (m : Nat) (hn : RcN k1 k2 m [] ss) (hl : nds.length = is.length) (h0 : 1 ≤ is.length) (hlb : is.length ≤ 1000000) (x : Nd) (hx : NdOk x) (ah : List Int) (ka : Nat) (ha : (ka, ah.map vi) ∈ ss) (hr : ∀ r ∈ x.refs, -1 - r < ah.length) (hah : ah.length ≤ 1000000) (hN : ∀ y ∈ nds, NdL y) (hf : findR (resN ah x) (nds.drop 1) (is.drop 1) 1 = 0)
    (h : Nat) (h1 : 1 ≤ h) (hl' : nds'.length = is'.length) (hh : h < is'.length) (hfree : ∀ bs T, RcN k1 k2 T bs ss → ACall Tryd.prog 49 [.ptr 0 0] (rcS size nds is k1 k2 bs ss T) fun r τ => r = vi (h : Nat) ∧ ∃ k1' k2' m', RcN k1' k2' m' bs ss ∧ (rcS size nds' is' k1' k2' bs ss m').Le τ) :
    ACall Tryd.prog 38 [.ptr 0 0, ndA x, .hsl ka 0 ah.length] (rcS size nds is k1 k2 [] ss m) fun r τ => r = .tup [vi (h : Nat), vi 0] ∧ ∃ k1' k2' m', RcN k1' k2' m' [] ss ∧ (rcS size (nds'.set h (resN ah x)) (is'.set h true) k1' k2' [] ss m').Le τ := by
  have hnd : ndA x = .agg [vi x.k, .vsl (x.refs.map vi), .vsl (x.nums.map vi), vs x.text] := rfl
  have hnk : ¬ k2 = k1 := fun e => hn.n e.symm
  have hnl := hx.nl
  have hrl := hx.rl
  refine acall_of Tryd.func38 Tryd.ntmps38 rfl ?_
  simp only [List.length_cons, List.length_nil, List.cons_append, List.nil_append, List.replicate]
  rw [hnd]
  repeat' first | refine aw_N [8, 16] trivial trivial ?_ | refine aw_cond rfl (fun h => ?_) (fun h => ?_)
  obtain ⟨n1, n2, n3, n4, n5, n6, n7⟩ := hn
  have hka := n4 (ka, ah.map vi) ha
  simp only at hka
  refine aw_mid [0, 2, 4, 6, 7, 8] (fun fr σ => OnM size nds is k1 k2 ss m x ah ka fr σ) ?_ ?_
  · rintro fr σ ⟨B, kn, T, hB, hkn, hBT, hknT, hBk, rfl, rfl⟩
    simp -implicitDefEqProofs
    have B0 : ¬ B = 0 := by omega
    have B0' : ¬ 0 = B := by omega
    repeat' first | refine aw_W [8, 16] @B0 trivial ?_ | refine aw_cond rfl (fun h => ?_) (fun h => ?_)
    refine aw_openBx (b := B) (i := 1) (cs := [vi x.k, .p (.slice none 0 0), .hsl kn 0 x.nums.length, vs x.text]) (by simp [B0]) rfl ?_
    refine aw_loopW [0, 2, 4, 6, 7, 8, 9] (fun q fr σ => OnI size nds is k1 k2 ss m x ah ka q fr σ) x.refs.length ?_ ?_
    · refine ⟨rcS size nds is k1 k2 [(B, [vi x.k, .hsl T 0 0, .hsl kn 0 x.nums.length, vs x.text])] (ss ++ [(T, []), (kn, x.nums.map vi)]) (T + 1), le_rcS (by simp [upd, ASt.addSl, B0']) (by simp [upd, ASt.addSl, show ¬ k1 = T by omega]) (by simp [upd, ASt.addSl, hnk, show ¬ k2 = T by omega]) (fun p hp => ?_) (by simp [upd, ASt.addSl]) (by simp [ASt.addSl]), 0, B, T, kn, T + 1, by omega, hB, by omega, hkn, by omega, by omega, by omega, by omega, by simp, by simp⟩
      rcases List.mem_append.1 hp with hp | hp
      · obtain ⟨q1, q2, q3, q4⟩ := n4 p hp
        simp [upd, ASt.addSl, q3, q4, show ¬ p.1 = T by omega, lkN_app _ (lkN_of n5 hp)]
      · simp at hp
        rcases hp with rfl | rfl
        · simp [upd, ASt.addSl]
        · simp [upd, ASt.addSl, show ¬ kn = T by omega, show ¬ kn = k1 by omega, show ¬ kn = k2 by omega, lkN_skip (i := kn) ss _ fun p hp => by have := n4 p hp; omega]
    · clear hB hkn hBT hknT hBk B0 B0' B kn T
      rintro q fr σ ⟨i, B, kr, kn, T, hi, hB, hkr, hkn, hBT, hkrT, hknT, hkk, rfl, rfl⟩
      have B0 : ¬ B = 0 := by omega
      have B0' : ¬ 0 = B := by omega
      have l1 := lkN_skip (i := kr) ss [(kr, ((x.refs.take i).map (resR ah)).map vi), (kn, x.nums.map vi)] fun p hp => by have := n4 p hp; omega
      have l2 := lkN_skip (i := kn) ss [(kr, ((x.refs.take i).map (resR ah)).map vi), (kn, x.nums.map vi)] fun p hp => by have := n4 p hp; omega
      have l3 := lkN_app [(kr, ((x.refs.take i).map (resR ah)).map vi), (kn, x.nums.map vi)] (lkN_of n5 ha)
      obtain ⟨L, hL⟩ : ∃ L, L = (x.refs.take i).map (resR ah) := ⟨_, rfl⟩
      have hLl : L.length = i := by rw [hL]; simp; omega
      rw [← hL] at l1 l2 l3 ⊢
      simp only [lkN_cons, if_pos] at l1 l2 l3
      rw [if_neg (fun e => hkk e.symm)] at l2
      simp -implicitDefEqProofs
      have e1 : ¬ kr = k1 := by omega
      have e2 : ¬ kr = k2 := by omega
      have e3 : ¬ kn = k1 := by omega
      have e4 : ¬ kn = k2 := by omega
      have e5 : ¬ ka = k1 := by omega
      have e6 : ¬ ka = k2 := by omega
      by_cases hlt : i < x.refs.length
      · have hlti : (i : Int) < x.refs.length := by omega
        obtain ⟨r, hr1⟩ : ∃ r, x.refs[i] = r := ⟨_, rfl⟩
        have hrg : x.refs[i]? = some r := by rw [List.getElem?_eq_getElem hlt, hr1]
        have hrm := List.mem_of_getElem? hrg
        have wi : IntKind.i64.wrap ((i : Int) + 1) = (i : Int) + 1 := wrap_id (by omega) (by omega)
        have hrr := hx.refs r hrm
        have hrv : (x.refs.map vi).length = x.refs.length := List.length_map _
        have htk : (x.refs.take (i + 1)).map (resR ah) = L ++ [resR ah r] := by rw [List.take_add_one, hrg, List.map_append, ← hL]; rfl
        by_cases hr0 : r < 0
        · obtain ⟨j, hj⟩ : ∃ j : Nat, -1 - r = j := ⟨(-1 - r).toNat, by omega⟩
          have wr : IntKind.i64.wrap (-1 - r) = (j : Int) := by rw [← hj]; exact wrap_id (by omega) (by omega)
          have hjl : j < ah.length := by have := hr r hrm; omega
          have hjli : (j : Int) < ah.length := by omega
          obtain ⟨t, ht1⟩ : ∃ t, ah[j] = t := ⟨_, rfl⟩
          have htg : ah[j]? = some t := by rw [List.getElem?_eq_getElem hjl, ht1]
          have hhv : (ah.map vi).length = ah.length := List.length_map _
          have hrs : resR ah r = t := by rw [resR, if_pos hr0, hj]; simp [htg]
          rw [hrs] at htk
          repeat' (first
            | refine aw_seq ?_
            | ((first | refine aw_run [8, 16] ?_ | refine aw_ymix [8, 16] draws (by decide +kernel) ?_); try simp -implicitDefEqProofs (maxSteps := 1000000) [hnd, hlt, hlti, hr1, hrg, hrv, hr0, wr, hjl, hjli, ht1, htg, hhv, e1, e2, e3, e4, e5, e6, l1, l2, l3, B0])
            | ((first | refine aw_zrun [8, 16] [] draws (by decide +kernel) (by decide +kernel) ?_ | refine zl_skip (by simp) rfl ?_); try simp -implicitDefEqProofs (maxSteps := 1000000) [hnd, hlt, hlti, hr1, hrg, hrv, hr0, wr, hjl, hjli, ht1, htg, hhv, e1, e2, e3, e4, e5, e6, l1, l2, l3, B0]; repeat first | refine zcurL (by decide +kernel) ?_ | refine zcurH (by decide +kernel) ?_ | refine zcurL' (by decide +kernel) ?_ | refine zcurH' (by decide +kernel) ?_)
            | ((first | refine aw_yrun draws (by kernel_rfl) ?_ | refine awl_skip' [8, 16] rfl ?_ | refine yl_skip rfl ?_ | refine aw_skip ?_ | refine aw_exit ?_); try simp -implicitDefEqProofs (maxSteps := 1000000) [hnd, hlt, hlti, hr1, hrg, hrv, hr0, wr, hjl, hjli, ht1, htg, hhv, e1, e2, e3, e4, e5, e6, l1, l2, l3, B0])
            | (refine aw_cond rfl (fun h => ?_) (fun h => ?_) <;> try (with_reducible first | exact ff_tt h | exact tt_ff h))
            | refine aw_block ?_
            | refine aw_ret (ret_of (.inr rfl) (by simp [Tryd.results38]; rfl) (Fin.of ?_))
            | refine ret_of (.inl rfl) (by simp [Tryd.results38]; rfl) (Fin.of ?_))
          refine awl_append [8] rfl rfl rfl (b := kr) (xs := L.map vi) (by simp [e1, e2, l1]) (by simp; omega) rfl (by simp) te33 tet33 tz3 rfl (fun y hy => by obtain ⟨_, _, rfl⟩ := List.mem_map.1 hy; rfl) (by simp) (by simp; omega) (by simp; omega) ?_
          simp -implicitDefEqProofs [B0]
          repeat' first | refine aw_W [8, 16] (And.intro @wi @B0) trivial ?_ | refine aw_cond rfl (fun h => ?_) (fun h => ?_)
          refine ⟨q - 1, by omega, rcS size nds is k1 k2 [(B, [vi x.k, .hsl T 0 (i + 1), .hsl kn 0 x.nums.length, vs x.text])] (ss ++ [(T, ((x.refs.take (i + 1)).map (resR ah)).map vi), (kn, x.nums.map vi)]) (T + 1), le_rcS (by simp [upd, ASt.addSl, ASt.dropSl, B0']) (by simp [upd, ASt.addSl, ASt.dropSl, show ¬ k1 = T by omega, Ne.symm e1]) (by simp [upd, ASt.addSl, ASt.dropSl, hnk, show ¬ k2 = T by omega, Ne.symm e2]) (fun p hp => ?_) (by simp [upd, ASt.addSl, ASt.dropSl]) (by simp [ASt.addSl]), i + 1, B, T, kn, T + 1, by omega, hB, by omega, hkn, by omega, by omega, by omega, by omega, by simp, by simp [hnd]⟩
          rcases List.mem_append.1 hp with hp | hp
          · obtain ⟨q1, q2, q3, q4⟩ := n4 p hp
            simp [upd, ASt.addSl, ASt.dropSl, q3, q4, show ¬ p.1 = T by omega, show ¬ p.1 = kr by omega, lkN_app _ (lkN_of n5 hp)]
          · simp only [List.mem_cons, List.not_mem_nil, or_false] at hp
            rcases hp with rfl | rfl
            · rw [htk]
              simp [upd, ASt.addSl, ASt.dropSl, List.take_of_length_le, hLl]
            · simp [upd, ASt.addSl, ASt.dropSl, show ¬ kn = T by omega, Ne.symm hkk, e3, e4, l2]
        · have hrs : resR ah r = r := by rw [resR, if_neg hr0]
          rw [hrs] at htk
          repeat' (first
            | refine aw_seq ?_
            | ((first | refine aw_run [8, 16] ?_ | refine aw_ymix [8, 16] draws (by decide +kernel) ?_); try simp -implicitDefEqProofs (maxSteps := 1000000) [hnd, hlt, hlti, hr1, hrg, hrv, hr0, e1, e2, e3, e4, e5, e6, l1, l2, l3, B0])
            | ((first | refine aw_zrun [8, 16] [] draws (by decide +kernel) (by decide +kernel) ?_ | refine zl_skip (by simp) rfl ?_); try simp -implicitDefEqProofs (maxSteps := 1000000) [hnd, hlt, hlti, hr1, hrg, hrv, hr0, e1, e2, e3, e4, e5, e6, l1, l2, l3, B0]; repeat first | refine zcurL (by decide +kernel) ?_ | refine zcurH (by decide +kernel) ?_ | refine zcurL' (by decide +kernel) ?_ | refine zcurH' (by decide +kernel) ?_)
            | ((first | refine aw_yrun draws (by kernel_rfl) ?_ | refine awl_skip' [8, 16] rfl ?_ | refine yl_skip rfl ?_ | refine aw_skip ?_ | refine aw_exit ?_); try simp -implicitDefEqProofs (maxSteps := 1000000) [hnd, hlt, hlti, hr1, hrg, hrv, hr0, e1, e2, e3, e4, e5, e6, l1, l2, l3, B0])
            | (refine aw_cond rfl (fun h => ?_) (fun h => ?_) <;> try (with_reducible first | exact ff_tt h | exact tt_ff h))
            | refine aw_block ?_
            | refine aw_ret (ret_of (.inr rfl) (by simp [Tryd.results38]; rfl) (Fin.of ?_))
            | refine ret_of (.inl rfl) (by simp [Tryd.results38]; rfl) (Fin.of ?_))
          refine awl_append [8] rfl rfl rfl (b := kr) (xs := L.map vi) (by simp [e1, e2, l1]) (by simp; omega) rfl (by simp) te33 tet33 tz3 rfl (fun y hy => by obtain ⟨_, _, rfl⟩ := List.mem_map.1 hy; rfl) (by simp) (by simp; omega) (by simp; omega) ?_
          simp -implicitDefEqProofs [B0]
          repeat' first | refine aw_W [8, 16] (And.intro @wi @B0) trivial ?_ | refine aw_cond rfl (fun h => ?_) (fun h => ?_)
          refine ⟨q - 1, by omega, rcS size nds is k1 k2 [(B, [vi x.k, .hsl T 0 (i + 1), .hsl kn 0 x.nums.length, vs x.text])] (ss ++ [(T, ((x.refs.take (i + 1)).map (resR ah)).map vi), (kn, x.nums.map vi)]) (T + 1), le_rcS (by simp [upd, ASt.addSl, ASt.dropSl, B0']) (by simp [upd, ASt.addSl, ASt.dropSl, show ¬ k1 = T by omega, Ne.symm e1]) (by simp [upd, ASt.addSl, ASt.dropSl, hnk, show ¬ k2 = T by omega, Ne.symm e2]) (fun p hp => ?_) (by simp [upd, ASt.addSl, ASt.dropSl]) (by simp [ASt.addSl]), i + 1, B, T, kn, T + 1, by omega, hB, by omega, hkn, by omega, by omega, by omega, by omega, by simp, by simp [hnd]⟩
          rcases List.mem_append.1 hp with hp | hp
          · obtain ⟨q1, q2, q3, q4⟩ := n4 p hp
            simp [upd, ASt.addSl, ASt.dropSl, q3, q4, show ¬ p.1 = T by omega, show ¬ p.1 = kr by omega, lkN_app _ (lkN_of n5 hp)]
          · simp only [List.mem_cons, List.not_mem_nil, or_false] at hp
            rcases hp with rfl | rfl
            · rw [htk]
              simp [upd, ASt.addSl, ASt.dropSl, List.take_of_length_le, hLl]
            · simp [upd, ASt.addSl, ASt.dropSl, show ¬ kn = T by omega, Ne.symm hkk, e3, e4, l2]
      · have hlti : ¬ (i : Int) < x.refs.length := by omega
        have hrv : (x.refs.map vi).length = x.refs.length := List.length_map _
        rw [List.take_of_length_le (by omega)] at hL
        obtain rfl : i = x.refs.length := by omega
        repeat' first | refine aw_N [8, 16] (And.intro @hnd (And.intro @hlti (And.intro @hrv @B0))) trivial ?_ | refine aw_cond rfl (fun h => ?_) (fun h => ?_)
        have e7 : ¬ ka = kr := by omega
        have e8 : ¬ ka = kn := by omega
        have e9 : ¬ kn = kr := fun e => hkk e.symm
        refine awl_freezeX (b := kr) (b0 := B) (xs := L.map vi) (cs := [vi x.k, .hsl kr 0 x.refs.length, .hsl kn 0 x.nums.length, vs x.text]) (by simp [e1, e2, l1]) (by simp [B0]) ?_
        refine awl_freezeX (b := kn) (b0 := B) (xs := x.nums.map vi) (cs := [vi x.k, .vsl (L.map vi), .hsl kn 0 x.nums.length, vs x.text]) (by simp [ASt.dropSl, ASt.setBx, upd, e9, e3, e4, l2]) (by simp [ASt.dropSl, ASt.setBx, frz, frz1, frz0, e9, hLl, List.take_of_length_le]) ?_
        obtain ⟨y, hy⟩ : ∃ y, y = resN ah x := ⟨_, rfl⟩
        have hya : ndA y = .agg [vi x.k, .vsl (L.map vi), .vsl (x.nums.map vi), vs x.text] := by rw [hy, hL]; rfl
        refine AWL.less (τ := rcS size nds is k1 k2 [(B, [vi x.k, .vsl (L.map vi), .vsl (x.nums.map vi), vs x.text])] ss T) (le_rcS (by simp [ASt.dropSl, ASt.setBx, upd, B0']) (by simp [ASt.dropSl, ASt.setBx, upd, Ne.symm e1, Ne.symm e3]) (by simp [ASt.dropSl, ASt.setBx, upd, hnk, Ne.symm e2, Ne.symm e4]) (fun p hp => by
          obtain ⟨q1, q2, q3, q4⟩ := n4 p hp
          simp [ASt.dropSl, ASt.setBx, upd, q3, q4, show ¬ p.1 = kr by omega, show ¬ p.1 = kn by omega, lkN_app _ (lkN_of n5 hp)]) (by simp [ASt.dropSl, ASt.setBx, upd, frz, frz1, frz0, hLl, List.take_of_length_le]) (by simp [ASt.dropSl, ASt.setBx])) ?_
        simp -implicitDefEqProofs [frz, frz1, frz0, e7, e8, e9, hLl, List.take_of_length_le]
        have hnB : RcN k1 k2 T [(B, [vi x.k, .vsl (L.map vi), .vsl (x.nums.map vi), vs x.text])] ss := ⟨by omega, by omega, n3, fun p hp => by have := n4 p hp; omega, n5, by simp; omega, by simp⟩
        have hyL : NdL y := by rw [hy]; exact ⟨by simp [resN]; omega, by simp [resN]; omega⟩
        have hfd := rfind09_ok size nds is y hl hlb hyL hN
        rw [hya] at hfd
        rw [← hy] at hf
        rw [hf] at hfd
        refine awl_lendD 2 [8] rfl rfl rfl (by kernel_rfl) (args := [.ptr 0 0, .agg [vi x.k, .vsl (L.map vi), .vsl (x.nums.map vi), vs x.text]]) rfl (args' := [rcV size nds is, .agg [vi x.k, .vsl (L.map vi), .vsl (x.nums.map vi), vs x.text]]) (by
          simp only [List.map_cons, List.map_nil]
          rw [cloD_rc hnB]
          simp [cloD]) hfd (by
          intro a ha
          simp only [List.mem_cons, List.not_mem_nil, or_false] at ha
          rcases ha with rfl | rfl
          · exact cl_rcV _ _ _
          · rw [← hya]; exact cl_ndA _) (by simp) ?_
        simp -implicitDefEqProofs
        repeat' first | refine aw_W [8, 16] trivial trivial ?_ | refine aw_cond rfl (fun h => ?_) (fun h => ?_)
        refine awl_cons rfl (opq_call rfl rfl rfl ((hfree _ T hnB).mono fun r τ ⟨q1, q2⟩ => ?_))
        obtain ⟨k1', k2', m', hnB', hle⟩ := q2
        subst q1
        refine AWL.less hle ?_
        refine awl_run' [8] ?_
        simp -implicitDefEqProofs
        obtain ⟨c1, c2, c3, c4, c5, c6, c7⟩ := hnB'
        have c3' : ¬ k2' = k1' := fun e => c3 e.symm
        have hhi : ¬ (h : Int) = 0 := by omega
        have hhn : ¬ h = 0 := by omega
        have hhl : h < nds'.length := by omega
        have hhl2 : h < is'.length := by omega
        have hhli : (h : Int) < nds'.length := by omega
        have hhli2 : (h : Int) < is'.length := by omega
        have hv1 : (nds'.map ndA).length = nds'.length := List.length_map _
        have hv2 : (is'.map fun b => (vb b : AV)).length = is'.length := List.length_map _
        obtain ⟨z, hz1⟩ : ∃ z, nds'[h] = z := ⟨_, rfl⟩
        have hzg : nds'[h]? = some z := by rw [List.getElem?_eq_getElem hhl, hz1]
        have hza : ndA z = .agg [vi z.k, .vsl (z.refs.map vi), .vsl (z.nums.map vi), vs z.text] := rfl
        obtain ⟨b, hb1⟩ : ∃ b, is'[h] = b := ⟨_, rfl⟩
        have hbg : is'[h]? = some b := by rw [List.getElem?_eq_getElem hhl2, hb1]
        repeat' first | refine aw_W [8, 16] (And.intro @hhi (And.intro @hhn (And.intro @hhl (And.intro @hhl2 (And.intro @hhli (And.intro @hhli2 (And.intro @hv1 (And.intro @hv2 (And.intro @hz1 (And.intro @hzg (And.intro @hza (And.intro @hb1 (And.intro @hbg (And.intro @B0 (And.intro @c3 @c3'))))))))))))))) trivial ?_ | refine aw_cond rfl (fun h => ?_) (fun h => ?_)
        exact ⟨by simp [tupOf], k1', k2', m', ⟨c1, c2, c3, c4, c5, by simp, by simp⟩, le_rcS (by simp) (by rw [← hy, List.map_set, hya]; simp [upd, c3]) (by simp [upd, List.map_set]) (fun p hp => by obtain ⟨q1, q2, q3, q4⟩ := c4 p hp; simp [upd, q3, q4, lkN_of n5 hp]) (by simp) (by simp)⟩
  have hnv : (x.nums.map vi).length = x.nums.length := List.length_map _
  have m0 : ¬ m = 0 := by omega
  have m0' : ¬ 0 = m := by omega
  · refine aw_of_awo draws (awo_split 9 4 (by decide) (by decide) (by decide) ?_ (awo_split 9 7 (by decide) (by decide) (by decide) ?_ ?_))
    case refine_1 =>
      simp only [aft, List.modify_succ_cons, List.modify_zero_cons, aftE, List.push_toArray, List.cons_append, List.nil_append]
      refine awo_perm [0, 1, 2, 3, 9, 4, 5, 6, 7, 8, 10] (by decide +kernel) ?_
      simp only [permL, renO, List.getD_cons_zero, List.getD_cons_succ, Option.map_none, Option.map_some]
      refine awo_zrun [8, 16] [] (by decide +kernel) ?_
      simp -implicitDefEqProofs [m0]
      repeat first | refine zcurL (by decide +kernel) ?_ | refine zcurH (by decide +kernel) ?_ | refine zcurL' (by decide +kernel) ?_ | refine zcurH' (by decide +kernel) ?_
      by_cases hx0 : x.nums = []
      · rw [hx0]
        simp -implicitDefEqProofs
        refine zl_append0 (by simp) rfl rfl rfl (.inl rfl) tet33 ts3 ?_
        simp -implicitDefEqProofs [m0]
        repeat first | refine zcurL (by decide +kernel) ?_ | refine zcurH (by decide +kernel) ?_ | refine zcurL' (by decide +kernel) ?_ | refine zcurH' (by decide +kernel) ?_
        refine ⟨rcS size nds is k1 k2 [(m, [vi x.k, .p (.slice none 0 0), .hsl (m + 1) 0 x.nums.length, vs x.text])] (ss ++ [((m + 1), x.nums.map vi)]) (m + 1 + 1), le_rcS (by simp [upd, m0']) (by simp [upd, show ¬ k1 = m by omega, show ¬ k1 = m + 1 by omega, show ¬ k1 = m + 1 + 1 by omega]) (by simp [upd, hnk, show ¬ k2 = m by omega, show ¬ k2 = m + 1 by omega, show ¬ k2 = m + 1 + 1 by omega]) (fun p hp => ?_) (by simp [upd, hx0]) (by simp), m, (m + 1), (m + 1 + 1), by omega, by omega, by omega, by omega, by omega, rfl, by simp [hnd, hx0]⟩
        rcases List.mem_append.1 hp with hp | hp
        · obtain ⟨q1, q2, q3, q4⟩ := n4 p hp
          simp [upd, q3, q4, show ¬ p.1 = m by omega, show ¬ p.1 = m + 1 by omega, show ¬ p.1 = m + 1 + 1 by omega, lkN_of n5 hp]
        · obtain rfl := List.mem_singleton.1 hp
          simp [upd, hx0]
      · refine zl_append (by simp) rfl rfl rfl (b := (m + 1)) (xs := []) (by simp [upd]) (by simp) rfl (by simp [hx0]) te33 tet33 tz3 rfl (by simp) (by simp) (by simp; omega) (by simp; omega) ?_
        simp -implicitDefEqProofs [m0]
        repeat first | refine zcurL (by decide +kernel) ?_ | refine zcurH (by decide +kernel) ?_ | refine zcurL' (by decide +kernel) ?_ | refine zcurH' (by decide +kernel) ?_
        refine ⟨rcS size nds is k1 k2 [(m, [vi x.k, .p (.slice none 0 0), .hsl (m + 1 + 1) 0 x.nums.length, vs x.text])] (ss ++ [((m + 1 + 1), x.nums.map vi)]) (m + 1 + 1 + 1), le_rcS (by simp [upd, m0']) (by simp [upd, show ¬ k1 = m by omega, show ¬ k1 = m + 1 by omega, show ¬ k1 = m + 1 + 1 by omega]) (by simp [upd, hnk, show ¬ k2 = m by omega, show ¬ k2 = m + 1 by omega, show ¬ k2 = m + 1 + 1 by omega]) (fun p hp => ?_) (by simp [upd, hx0]) (by simp), m, (m + 1 + 1), (m + 1 + 1 + 1), by omega, by omega, by omega, by omega, by omega, rfl, by simp [hnd, hx0]⟩
        rcases List.mem_append.1 hp with hp | hp
        · obtain ⟨q1, q2, q3, q4⟩ := n4 p hp
          simp [upd, q3, q4, show ¬ p.1 = m by omega, show ¬ p.1 = m + 1 by omega, show ¬ p.1 = m + 1 + 1 by omega, lkN_of n5 hp]
        · obtain rfl := List.mem_singleton.1 hp
          simp [upd, hx0]
    case refine_2 =>
      simp only [aft, List.modify_succ_cons, List.modify_zero_cons, aftE, List.push_toArray, List.cons_append, List.nil_append]
      refine awo_perm [0, 1, 2, 3, 4, 9, 5, 6, 7, 8, 10] (by decide +kernel) ?_
      simp only [permL, renO, List.getD_cons_zero, List.getD_cons_succ, Option.map_none, Option.map_some]
      refine awo_zrun [8, 16] [] (by decide +kernel) ?_
      simp -implicitDefEqProofs [m0]
      repeat first | refine zcurL (by decide +kernel) ?_ | refine zcurH (by decide +kernel) ?_ | refine zcurL' (by decide +kernel) ?_ | refine zcurH' (by decide +kernel) ?_
      by_cases hx0 : x.nums = []
      · rw [hx0]
        simp -implicitDefEqProofs
        refine zl_append0 (by simp) rfl rfl rfl (.inl rfl) tet33 ts3 ?_
        simp -implicitDefEqProofs [m0]
        repeat first | refine zcurL (by decide +kernel) ?_ | refine zcurH (by decide +kernel) ?_ | refine zcurL' (by decide +kernel) ?_ | refine zcurH' (by decide +kernel) ?_
        refine ⟨rcS size nds is k1 k2 [((m + 1), [vi x.k, .p (.slice none 0 0), .hsl m 0 x.nums.length, vs x.text])] (ss ++ [(m, x.nums.map vi)]) (m + 1 + 1), le_rcS (by simp [upd, m0']) (by simp [upd, show ¬ k1 = m by omega, show ¬ k1 = m + 1 by omega, show ¬ k1 = m + 1 + 1 by omega]) (by simp [upd, hnk, show ¬ k2 = m by omega, show ¬ k2 = m + 1 by omega, show ¬ k2 = m + 1 + 1 by omega]) (fun p hp => ?_) (by simp [upd, hx0]) (by simp), (m + 1), m, (m + 1 + 1), by omega, by omega, by omega, by omega, by omega, rfl, by simp [hnd, hx0]⟩
        rcases List.mem_append.1 hp with hp | hp
        · obtain ⟨q1, q2, q3, q4⟩ := n4 p hp
          simp [upd, q3, q4, show ¬ p.1 = m by omega, show ¬ p.1 = m + 1 by omega, show ¬ p.1 = m + 1 + 1 by omega, lkN_of n5 hp]
        · obtain rfl := List.mem_singleton.1 hp
          simp [upd, hx0]
      · refine zl_append (by simp) rfl rfl rfl (b := m) (xs := []) (by simp [upd]) (by simp) rfl (by simp [hx0]) te33 tet33 tz3 rfl (by simp) (by simp) (by simp; omega) (by simp; omega) ?_
        simp -implicitDefEqProofs [m0]
        repeat first | refine zcurL (by decide +kernel) ?_ | refine zcurH (by decide +kernel) ?_ | refine zcurL' (by decide +kernel) ?_ | refine zcurH' (by decide +kernel) ?_
        refine ⟨rcS size nds is k1 k2 [((m + 1), [vi x.k, .p (.slice none 0 0), .hsl (m + 1 + 1) 0 x.nums.length, vs x.text])] (ss ++ [((m + 1 + 1), x.nums.map vi)]) (m + 1 + 1 + 1), le_rcS (by simp [upd, m0']) (by simp [upd, show ¬ k1 = m by omega, show ¬ k1 = m + 1 by omega, show ¬ k1 = m + 1 + 1 by omega]) (by simp [upd, hnk, show ¬ k2 = m by omega, show ¬ k2 = m + 1 by omega, show ¬ k2 = m + 1 + 1 by omega]) (fun p hp => ?_) (by simp [upd, hx0]) (by simp), (m + 1), (m + 1 + 1), (m + 1 + 1 + 1), by omega, by omega, by omega, by omega, by omega, rfl, by simp [hnd, hx0]⟩
        rcases List.mem_append.1 hp with hp | hp
        · obtain ⟨q1, q2, q3, q4⟩ := n4 p hp
          simp [upd, q3, q4, show ¬ p.1 = m by omega, show ¬ p.1 = m + 1 by omega, show ¬ p.1 = m + 1 + 1 by omega, lkN_of n5 hp]
        · obtain rfl := List.mem_singleton.1 hp
          simp [upd, hx0]
    case refine_3 =>
      simp only [aft, List.modify_succ_cons, List.modify_zero_cons, aftE, List.push_toArray, List.cons_append, List.nil_append]
      refine awo_perm [0, 1, 2, 3, 4, 5, 6, 7, 9, 8, 10] (by decide +kernel) ?_
      simp only [permL, renO, List.getD_cons_zero, List.getD_cons_succ, Option.map_none, Option.map_some]
      refine awo_zrun [8, 16] [] (by decide +kernel) ?_
      simp -implicitDefEqProofs [m0]
      repeat first | refine zcurL (by decide +kernel) ?_ | refine zcurH (by decide +kernel) ?_ | refine zcurL' (by decide +kernel) ?_ | refine zcurH' (by decide +kernel) ?_
      by_cases hx0 : x.nums = []
      · rw [hx0]
        simp -implicitDefEqProofs
        refine zl_append0 (by simp) rfl rfl rfl (.inl rfl) tet33 ts3 ?_
        simp -implicitDefEqProofs [m0]
        repeat first | refine zcurL (by decide +kernel) ?_ | refine zcurH (by decide +kernel) ?_ | refine zcurL' (by decide +kernel) ?_ | refine zcurH' (by decide +kernel) ?_
        refine ⟨rcS size nds is k1 k2 [((m + 1), [vi x.k, .p (.slice none 0 0), .hsl m 0 x.nums.length, vs x.text])] (ss ++ [(m, x.nums.map vi)]) (m + 1 + 1), le_rcS (by simp [upd, m0']) (by simp [upd, show ¬ k1 = m by omega, show ¬ k1 = m + 1 by omega, show ¬ k1 = m + 1 + 1 by omega]) (by simp [upd, hnk, show ¬ k2 = m by omega, show ¬ k2 = m + 1 by omega, show ¬ k2 = m + 1 + 1 by omega]) (fun p hp => ?_) (by simp [upd, hx0]) (by simp), (m + 1), m, (m + 1 + 1), by omega, by omega, by omega, by omega, by omega, rfl, by simp [hnd, hx0]⟩
        rcases List.mem_append.1 hp with hp | hp
        · obtain ⟨q1, q2, q3, q4⟩ := n4 p hp
          simp [upd, q3, q4, show ¬ p.1 = m by omega, show ¬ p.1 = m + 1 by omega, show ¬ p.1 = m + 1 + 1 by omega, lkN_of n5 hp]
        · obtain rfl := List.mem_singleton.1 hp
          simp [upd, hx0]
      · refine zl_append (by simp) rfl rfl rfl (b := m) (xs := []) (by simp [upd]) (by simp) rfl (by simp [hx0]) te33 tet33 tz3 rfl (by simp) (by simp) (by simp; omega) (by simp; omega) ?_
        simp -implicitDefEqProofs [m0]
        repeat first | refine zcurL (by decide +kernel) ?_ | refine zcurH (by decide +kernel) ?_ | refine zcurL' (by decide +kernel) ?_ | refine zcurH' (by decide +kernel) ?_
        refine ⟨rcS size nds is k1 k2 [((m + 1 + 1), [vi x.k, .p (.slice none 0 0), .hsl (m + 1) 0 x.nums.length, vs x.text])] (ss ++ [((m + 1), x.nums.map vi)]) (m + 1 + 1 + 1), le_rcS (by simp [upd, m0']) (by simp [upd, show ¬ k1 = m by omega, show ¬ k1 = m + 1 by omega, show ¬ k1 = m + 1 + 1 by omega]) (by simp [upd, hnk, show ¬ k2 = m by omega, show ¬ k2 = m + 1 by omega, show ¬ k2 = m + 1 + 1 by omega]) (fun p hp => ?_) (by simp [upd, hx0]) (by simp), (m + 1 + 1), (m + 1), (m + 1 + 1 + 1), by omega, by omega, by omega, by omega, by omega, rfl, by simp [hnd, hx0]⟩
        rcases List.mem_append.1 hp with hp | hp
        · obtain ⟨q1, q2, q3, q4⟩ := n4 p hp
          simp [upd, q3, q4, show ¬ p.1 = m by omega, show ¬ p.1 = m + 1 by omega, show ¬ p.1 = m + 1 + 1 by omega, lkN_of n5 hp]
        · obtain rfl := List.mem_singleton.1 hp
          simp [upd, hx0]
theorem rone3_ok (size : Int) (nds : List Nd) (is : List Bool) (k1 k2 : Nat) (ss : List (Nat × List AV)) (m : Nat) (hn : RcN k1 k2 m [] ss) (hl : nds.length = is.length) (h0 : 1 ≤ is.length) (hlb : is.length ≤ 1000000) (x : Nd) (hx : NdOk x) (ah : List Int) (ka : Nat) (ha : (ka, ah.map vi) ∈ ss) (hr : ∀ r ∈ x.refs, -1 - r < ah.length) (hah : ah.length ≤ 1000000) (hN : ∀ y ∈ nds, NdL y) (hf : findR (resN ah x) (nds.drop 1) (is.drop 1) 1 = 0)
    (h : Nat) (h1 : 1 ≤ h) (hh : h < is.length) (hfr : freeR (is.drop 1) 1 = some h) :
    ACall Tryd.prog 38 [.ptr 0 0, ndA x, .hsl ka 0 ah.length] (rcS size nds is k1 k2 [] ss m) fun r τ => r = .tup [vi (h : Nat), vi 0] ∧ ∃ k1' k2' m', RcN k1' k2' m' [] ss ∧ (rcS size (nds.set h (resN ah x)) (is.set h true) k1' k2' [] ss m').Le τ :=
  rone34 size nds nds is is k1 k2 ss m hn hl h0 hlb x hx ah ka ha hr hah hN hf h h1 hl hh fun bs T hB => (rfree1_ok size nds is k1 k2 bs ss T hB hl h0 hlb h hfr).mono fun r τ ⟨e1, e2⟩ => ⟨e1, k1, k2, T, hB, e2⟩
theorem rone4_ok (size : Int) (nds : List Nd) (is : List Bool) (k1 k2 : Nat) (ss : List (Nat × List AV)) (m : Nat) (hn : RcN k1 k2 m [] ss) (hl : nds.length = is.length) (h0 : 1 ≤ is.length) (hlb : is.length ≤ 1000000) (x : Nd) (hx : NdOk x) (ah : List Int) (ka : Nat) (ha : (ka, ah.map vi) ∈ ss) (hr : ∀ r ∈ x.refs, -1 - r < ah.length) (hah : ah.length ≤ 1000000) (hN : ∀ y ∈ nds, NdL y) (hf : findR (resN ah x) (nds.drop 1) (is.drop 1) 1 = 0)
    (hfr : freeR (is.drop 1) 1 = none) (hsz : (is.length : Int) ≤ size) :
    ACall Tryd.prog 38 [.ptr 0 0, ndA x, .hsl ka 0 ah.length] (rcS size nds is k1 k2 [] ss m) fun r τ => r = .tup [vi (is.length : Nat), vi 0] ∧ ∃ k1' k2' m', RcN k1' k2' m' [] ss ∧ (rcS size (nds ++ [resN ah x]) (is ++ [true]) k1' k2' [] ss m').Le τ := by
  have := rone34 size nds (nds ++ [ndZ]) is (is ++ [false]) k1 k2 ss m hn hl h0 hlb x hx ah ka ha hr hah hN hf is.length h0 (by simp [hl]) (by simp) fun bs T hB => rfree3_ok size nds is k1 k2 bs ss T hB hl h0 hlb hfr hsz
  have e1 : (nds ++ [ndZ]).set is.length (resN ah x) = nds ++ [resN ah x] := by rw [← hl]; simp
  have e2 : (is ++ [false]).set is.length true = is ++ [true] := by simp
  rw [e1, e2] at this
  exact this
end Go.AL
