/- Parts of the proof of GraphBehind: the logic, contracts, plain laws. -/
import Derived.Test.YtofopejmidlceaaZGraphBehind16
import Derived.Test.YtofopejmidlceaaZGraphBehind9
/-! Contract: graph's Order, walked. -/
namespace Go.AL
open Go.Proofs
set_option linter.unusedSimpArgs false
set_option linter.unusedVariables false
def O1 (L : List Lnk) (q : Nat) (fr : List AV) (σ : ASt) : Prop := ∃ (i b off m : Nat) (us : List Int) (W : List (Int × Int)), i + q = (plainL L).length ∧ off ≤ us.length ∧ us.drop off = r1 L i ∧ WOk (plainL L) W (f1 L i) ∧ b < m ∧ σ = oS W b us b us m ∧
  fr = frm 99 [(0, gV L), (3, .vsl ((plainL L).map vi)), (5, .map 3), (6, .hsl b off (us.length - off)), (25, .vsl ((plainL L).map vi)), (26, vi ((plainL L).length : Nat)), (27, vi (i : Nat))]
def O2 (L : List Lnk) (i : Nat) (n : Int) (b off m : Nat) (us : List Int) (q : Nat) (fr : List AV) (σ : ASt) : Prop := ∃ (j : Nat) (W : List (Int × Int)), j + q = (redL L n).length ∧ WOk (plainL L) W (f2 L i n j) ∧ σ = oS W b us b us m ∧
  fr = frm 99 [(0, gV L), (3, .vsl ((plainL L).map vi)), (5, .map 3), (6, .hsl b off (us.length - off)), (8, vi n), (25, .vsl ((plainL L).map vi)), (26, vi ((plainL L).length : Nat)), (27, vi (i : Nat)), (36, .vsl ((redL L n).map vi)), (37, vi ((redL L n).length : Nat)), (38, vi (j : Nat))]
def O3 (L : List Lnk) (q : Nat) (fr : List AV) (σ : ASt) : Prop := ∃ (b off c m : Nat) (us o : List Int) (W : List (Int × Int)), o.length + q = (plainL L).length ∧ off ≤ us.length ∧ us.drop off = rdyL L o ∧ OrdOk L o ∧ WOk (plainL L) W (wtL L o) ∧ c ≠ b ∧ b < m ∧ c < m ∧ σ = oS W b us c o m ∧
  fr = frm 99 [(0, gV L), (3, .vsl ((plainL L).map vi)), (5, .map 3), (6, .hsl b off (us.length - off)), (11, .hsl c 0 o.length)]
def O4 (L : List Lnk) (o : List Int) (n : Int) (c : Nat) (q : Nat) (fr : List AV) (σ : ASt) : Prop := ∃ (b off m j : Nat) (us : List Int) (W : List (Int × Int)), j + q = (rdL L n).length ∧ off ≤ us.length ∧ us.drop off = r3 L o n j ∧ WOk (plainL L) W (f3 L o n j) ∧ c ≠ b ∧ b < m ∧ c < m ∧ σ = oS W b us c o m ∧
  fr = frm 99 [(0, gV L), (3, .vsl ((plainL L).map vi)), (5, .map 3), (6, .hsl b off (us.length - off)), (11, .hsl c 0 o.length), (75, .vsl ((rdL L n).map vi)), (76, vi ((rdL L n).length : Nat)), (77, vi (j : Nat))]
theorem wrap1 {v : Int} (h0 : 0 ≤ v) (h1 : v ≤ 1000000) : IntKind.i64.wrap (v + 1) = v + 1 := wrap_id (by omega) (by omega)
set_option maxHeartbeats 16000000 in
set_option maxRecDepth 100000 in
theorem gorder_ok {L : List Lnk} (hL : GOk L) : APure Try.prog 15 [gV L] (.vsl ((ordL L).map vi)) := by
  have hg : gV L = .vel [.agg [mapV (readsM L), mapV (readM L)]] 0 0 := rfl
  have hnl := nodesL_len L
  have hLl := hL.len
  have hcy := gcyclic_ok hL
  have hcyl : (cycL L).length ≤ 1000 := Nat.le_trans (List.length_filter_le _ _) (by omega)
  have hpl := plainL_len L
  have hpv : ((plainL L).map vi).length = (plainL L).length := List.length_map _
  have hplain : (nodesL L).filter (fun n => !decide (n ∈ cycL L)) = plainL L := by
    refine List.filter_congr fun y hy => ?_
    have : decide (y ∈ cycL L) = onCyc L y := by
      have h : y ∈ cycL L ↔ onCyc L y = true := by unfold cycL; rw [List.mem_filter]; exact ⟨fun h => h.2, fun h => ⟨hy, h⟩⟩
      cases hc : onCyc L y
      · rw [hc] at h; exact decide_eq_false fun h' => by cases h.1 h'
      · rw [hc] at h; exact decide_eq_true (h.2 rfl)
    rw [this]
  refine apure_in Try.func15 Try.ntmps15 rfl ?_
  have hg2 : ∀ (P : AV → Prop), P (gV L) → P (.vel [.agg [mapV (readsM L), mapV (readM L)]] 0 0) := fun P h => h
  rw [hg]
  repeat' first | refine aw_N [4] trivial trivial ?_ | refine aw_cond rfl (fun h => ?_) (fun h => ?_)
  rw [← hg]
  refine awl_cons rfl (opq_call rfl rfl rfl ((gnodesA_ok hL _).mono fun r τ ⟨e1, e2⟩ => ?_))
  subst e1 e2
  refine awl_run' [] ?_
  simp -implicitDefEqProofs
  repeat' first | refine aw_N [4] trivial (And.intro @hcy trivial) ?_ | refine aw_cond rfl (fun h => ?_) (fun h => ?_)
  have hd := ideleteC_ok (fq := 32) (by kernel_rfl) (σ := ((σ0.addBx [mapV (readsM L)]).addSl ((nodesL L).map vi)).addBx [.vsl ((cycL L).map vi)]) (cs := [.vsl ((cycL L).map vi)]) (p := fun n => decide (n ∈ cycL L)) (l := nodesL L) (fun z _ => gorder1_ok (cycL L) hcyl z) (by omega) (by simp) (b := 2) (k := 1) (by simp [ASt.addBx, ASt.addSl, upd, σ0]) (by simp [ASt.addBx, ASt.addSl, upd, σ0]) (by omega) (by simp [ASt.addBx, ASt.addSl, upd, σ0])
  rw [hnl, hplain] at hd
  refine awl_cons rfl (opq_call rfl rfl rfl (hd.mono fun r τ ⟨e1, e2⟩ => ?_))
  subst e1 e2
  refine awl_run' [] ?_
  simp -implicitDefEqProofs
  repeat' first | refine aw_N [4] trivial trivial ?_ | refine aw_cond rfl (fun h => ?_) (fun h => ?_)
  refine awl_makeMap [] rfl rfl ?_
  simp -implicitDefEqProofs
  repeat' first | refine aw_N [4] trivial trivial ?_ | refine aw_cond rfl (fun h => ?_) (fun h => ?_)
  refine aw_nilH (i := 6) rfl ?_
  simp -implicitDefEqProofs only [List.set]
  have hplen : (plainL L).length ≤ 1000 := by omega
  refine aw_loopW [0, 3, 5, 6, 25, 26, 27] (fun q fr σ => O1 L q fr σ) (plainL L).length ?_ ?_
  · refine ⟨oS [] 4 [] 4 [] 5, le_oS (by simp [ASt.addMp, ASt.addSl, ASt.dropSl, ASt.addBx, upd, σ0, esK]) (by simp [ASt.addMp, ASt.addSl, ASt.dropSl, ASt.addBx, upd, σ0, esK]) (fun h => absurd rfl h) (by simp [ASt.addMp, ASt.addSl, ASt.dropSl, ASt.addBx, upd, σ0, esK]), 0, 4, 0, 5, [], [], by omega, by simp, by simp [r1], fun y hy => by simp [f1, gotK], by omega, rfl, ?_⟩
    simp
  · rintro q fr σ ⟨i, b, off, m, us, W, hiq, hoff, hus, hW, hbm, rfl, rfl⟩
    simp -implicitDefEqProofs
    by_cases hlt : i < (plainL L).length
    · have hlti : (i : Int) < (plainL L).length := by omega
      obtain ⟨n, hn⟩ : ∃ n, (plainL L)[i] = n := ⟨_, rfl⟩
      have hng : (plainL L)[i]? = some n := by rw [List.getElem?_eq_getElem hlt, hn]
      have hnP := List.mem_of_getElem? hng
      have wi : IntKind.i64.wrap ((i : Int) + 1) = (i : Int) + 1 := wrap_id (by omega) (by omega)
      have hgr := got_redL hL hnP
      have hrl := redL_len hL hnP
      rw [hg]
      repeat' first | refine aw_N [4] (And.intro @hlt (And.intro @hlti (And.intro @hn (And.intro @hng @hpv)))) trivial ?_ | refine aw_cond rfl (fun h => ?_) (fun h => ?_)
      refine awl_lookG [] rfl rfl (M := readsM L) (n := n) rfl rfl ?_
      rw [hgr]
      have hz0 : zgot (some (redL L n)) = .vsl ((redL L n).map vi) := rfl
      have hrv : ((redL L n).map vi).length = (redL L n).length := List.length_map _
      simp -implicitDefEqProofs [hz0]
      repeat' first | refine aw_N [4] @hrv trivial ?_ | refine aw_cond rfl (fun h => ?_) (fun h => ?_)
      refine aw_loopW [0, 3, 5, 6, 8, 25, 26, 27, 36, 37, 38] (fun q fr σ => O2 L i n b off m us q fr σ) (redL L n).length ?_ ?_
      · refine ⟨oS W b us b us m, le_oS (by simp) (by simp) (fun h => absurd rfl h) (by simp), 0, W, by omega, hW.congr fun y _ => f2_zero hL.nd hng y, rfl, ?_⟩
        simp [hg]
      · clear hW W
        rintro q2 fr σ ⟨j, W, hjq, hW, rfl, rfl⟩
        simp -implicitDefEqProofs
        by_cases hltj : j < (redL L n).length
        · have hltji : (j : Int) < (redL L n).length := by omega
          obtain ⟨x, hx⟩ : ∃ x, (redL L n)[j] = x := ⟨_, rfl⟩
          have hxg : (redL L n)[j]? = some x := by rw [List.getElem?_eq_getElem hltj, hx]
          have wj : IntKind.i64.wrap ((j : Int) + 1) = (j : Int) + 1 := wrap_id (by omega) (by omega)
          have hc := icontains_ok (plainL L) x (by omega)
          have hsu := f2_succ (i := i) (n := n) hxg
          by_cases hxP : x ∈ plainL L
          · rw [decide_eq_true hxP] at hc
            have hv := hW n hnP
            have hvl : f2 L i n j n ≤ 1000 := by
              unfold f2
              rw [if_pos rfl]
              refine Nat.le_trans (wtc_le _ _ _) ?_
              simp; omega
            have wv := wrap1 (v := (f2 L i n j n : Nat)) (by omega) (by omega)
            repeat' first | refine aw_N [4] (And.intro @hltj (And.intro @hltji (And.intro @hx (And.intro @hxg @hrv)))) (And.intro @hc trivial) ?_ | refine aw_cond rfl (fun h => ?_) (fun h => ?_)
            refine awl_lookI [] rfl rfl (b := 3) (M := W) (n := n) rfl (by simp) rfl ?_
            rw [hv]
            simp -implicitDefEqProofs [wv]
            repeat' first | refine aw_N [4] @wv trivial ?_ | refine aw_cond rfl (fun h => ?_) (fun h => ?_)
            refine awl_putI [] rfl rfl (b := 3) (M := W) (n := n) (v := (f2 L i n j n : Int) + 1) rfl (by simp) rfl rfl ?_
            simp -implicitDefEqProofs
            repeat' first | refine aw_N [4] @wj trivial ?_ | refine aw_cond rfl (fun h => ?_) (fun h => ?_)
            refine ⟨q2 - 1, by omega, oS (putK W n ((f2 L i n j n + 1 : Nat) : Int)) b us b us m, le_oS (by simp) (by simp) (fun h => absurd rfl h) (by simp), j + 1, _, by omega, hW.put n _ fun y _ => ?_, rfl, ?_⟩
            · rw [hsu, if_pos hxP]
            · simp
          · rw [decide_eq_false hxP] at hc
            repeat' first | refine aw_N [4] (And.intro @hltj (And.intro @hltji (And.intro @hx (And.intro @hxg (And.intro @hrv @wj))))) (And.intro @hc trivial) ?_ | refine aw_cond rfl (fun h => ?_) (fun h => ?_)
            refine ⟨q2 - 1, by omega, oS W b us b us m, le_oS (by simp) (by simp) (fun h => absurd rfl h) (by simp), j + 1, W, by omega, hW.congr fun y _ => ?_, rfl, ?_⟩
            · rw [hsu, if_neg hxP]
              split
              · rename_i e; rw [e]; rfl
              · rfl
            · simp
        · have hltji : ¬ (j : Int) < (redL L n).length := by omega
          have hfd := fun y => f2_done (j := j) hng (by omega) y
          have hv := hW n hnP
          rw [← hfd n] at hv
          have hfn : f1 L (i + 1) n = wtL L [] n := by
            unfold f1
            rw [if_pos (by rw [List.take_add_one, hng]; simp)]
          rw [hfn] at hv
          have hr1 := r1_succ hL.nd hng
          repeat' first | refine aw_N [4] @hltji trivial ?_ | refine aw_cond rfl (fun h => ?_) (fun h => ?_)
          refine awl_lookI [] rfl rfl (b := 3) (M := W) (n := n) rfl (by simp) rfl ?_
          rw [hv]
          by_cases h0 : wtL L [] n = 0
          · rw [if_pos h0] at hr1
            rw [h0]
            simp -implicitDefEqProofs
            repeat' first | refine aw_N [4] trivial trivial ?_ | refine aw_cond rfl (fun h => ?_) (fun h => ?_)
            have hrl1 := r1_len L i
            have husl : us.length - off = (us.drop off).length := by simp
            refine awl_cons rfl (opq_call rfl rfl rfl ((gwithD_ok (σ := oS W b us b us m) (b := b) (off := off) (us := us) (by simp) hbm hoff n (by rw [husl, hus]; omega) (by rw [hus]; exact r1_lt hL.nd i)).mono fun r τ ⟨e1, e2⟩ => ?_))
            subst e1 e2
            refine awl_run' [] ?_
            simp -implicitDefEqProofs
            repeat' first | refine aw_N [4] @wi trivial ?_ | refine aw_cond rfl (fun h => ?_) (fun h => ?_)
            refine ⟨q - 1, by omega, oS W (m + 1) (withI (us.drop off) n) (m + 1) (withI (us.drop off) n) (m + 2), le_oS (by simp [ASt.addSl, ASt.dropSl]) (by simp [ASt.addSl, ASt.dropSl]) (fun h => absurd rfl h) (by simp [ASt.addSl, ASt.dropSl]), i + 1, m + 1, 0, m + 2, _, W, by omega, by omega, by rw [hr1, hus]; rfl, hW.congr fun y _ => hfd y, by omega, rfl, ?_⟩
            simp
          · rw [if_neg h0] at hr1
            have h0i : ¬ ((wtL L [] n : Nat) : Int) = 0 := by omega
            simp -implicitDefEqProofs [h0, h0i]
            repeat' first | refine aw_N [4] (And.intro @h0 (And.intro @h0i @wi)) trivial ?_ | refine aw_cond rfl (fun h => ?_) (fun h => ?_)
            refine ⟨q - 1, by omega, oS W b us b us m, le_oS (by simp) (by simp) (fun h => absurd rfl h) (by simp), i + 1, b, off, m, us, W, by omega, hoff, by rw [hr1, hus], hW.congr fun y _ => hfd y, hbm, rfl, ?_⟩
            simp
    · have hlti : ¬ (i : Int) < (plainL L).length := by omega
      repeat' first | refine aw_N [4] (And.intro @hlti @hpv) trivial ?_ | refine aw_cond rfl (fun h => ?_) (fun h => ?_)
      rw [r1_whole L (by omega)] at hus
      have hW0 : WOk (plainL L) W (wtL L []) := hW.congr fun y hy => by unfold f1; rw [List.take_of_length_le (by omega), if_pos hy]
      clear hW
      refine aw_nilH (i := 11) rfl ?_
      simp -implicitDefEqProofs only [List.set]
      refine aw_loopW [0, 3, 5, 6, 11] (fun q fr σ => O3 L q fr σ) (plainL L).length ?_ ?_
      · have hbm' : ¬ m = b := by omega
        have hbm2 : ¬ b = m := by omega
        refine ⟨oS W b us m [] (m + 1), le_oS (by simp [ASt.addSl]) (by simp [ASt.addSl, upd, hbm', hbm2]) (fun h => by simp [ASt.addSl]) (by simp [ASt.addSl]), b, off, m, m + 1, us, [], W, by simp, hoff, hus, .nil L, hW0, hbm', by omega, by omega, rfl, ?_⟩
        simp
      · clear hW0 hlti hlt hus hoff hbm hiq W us m off b i
        rintro q fr σ ⟨b, off, c, m, us, o, W, hq, hoff, hus, hO, hW, hcb, hbm, hcm, rfl, rfl⟩
        simp -implicitDefEqProofs
        have hol := hO.len
        have husl : us.length - off = (us.drop off).length := by simp
        by_cases h0 : us.length - off = 0
        · have hnil : us.drop off = [] := List.drop_eq_nil_of_le (by omega)
          have hres : o = ordL L := hO.done (by rw [← hus, hnil])
          have h0n : ¬ 0 < us.length - off := by omega
          have h0i : ¬ (0 : Int) < ((us.length - off : Nat) : Int) := by omega
          repeat' first | refine aw_M [4] (And.intro @h0 (And.intro @h0n @h0i)) trivial ?_ | refine aw_cond rfl (fun h => ?_) (fun h => ?_)
          simp [tupOf, hcb, List.take_of_length_le, hres]
        · obtain ⟨n, hng⟩ : ∃ n, us[off]? = some n := ⟨_, List.getElem?_eq_getElem (by omega)⟩
          have hlt : off < us.length := by omega
          have hn : us[off] = n := by rw [List.getElem?_eq_getElem hlt] at hng; exact Option.some.inj hng
          have hr : rdyL L o = n :: us.drop (off + 1) := by rw [← hus]; exact drop_get' hng
          have hr0 : us.drop (off + 1) = r3 L (o ++ [n]) n 0 := rdyL_tail hL.nd hr
          have hmem : n ∈ rdyL L o := by rw [hr]; exact List.mem_cons_self
          obtain ⟨hnP, hno, hnz⟩ := mem_rdyL.1 hmem
          have hO' : OrdOk L (o ++ [n]) := hO.step hL.nd (by rw [hr]; rfl)
          have hol' := hO'.len
          have hW0 : WOk (plainL L) W (f3 L (o ++ [n]) n 0) := hW.congr fun y hy => f3_zero hL.nd hnP hno hy
          have h0p : 0 < us.length - off := by omega
          have h0i : ¬ ((us.length - off : Nat) : Int) = 0 := by omega
          have h0n : ¬ (us.length - off = 0) := h0
          have h0pi : (0 : Int) < ((us.length - off : Nat) : Int) := by omega
          have h1n : 1 ≤ us.length - off := by omega
          have h1i : (1 : Int) ≤ ((us.length - off : Nat) : Int) := by omega
          have hsb : us.length - off - 1 = us.length - (off + 1) := by omega
          have hbc : ¬ b = c := fun e => hcb e.symm
          repeat' first | refine aw_N [4] (And.intro @h0p (And.intro @h0pi (And.intro @h0i (And.intro @h0n (And.intro @hn (And.intro @hng (And.intro @hlt (And.intro @h1n (And.intro @h1i @hsb))))))))) trivial ?_ | refine aw_cond rfl (fun h => ?_) (fun h => ?_)
          refine awl_append [] rfl rfl rfl (xs := o.map vi) (by simp [hcb]) (by simp) rfl (by simp) te23 tet23 tz3 rfl (fun y hy => by obtain ⟨_, _, rfl⟩ := List.mem_map.1 hy; rfl) (by simp) (by simp; omega) (by simp; omega) ?_
          simp -implicitDefEqProofs
          rw [hg]
          repeat' first | refine aw_N [4] trivial trivial ?_ | refine aw_cond rfl (fun h => ?_) (fun h => ?_)
          refine awl_lookG [] rfl rfl (M := readM L) (n := n) rfl rfl ?_
          have hgot := got_readM L n
          have hrl := rdL_len L n
          have hrv : ((rdL L n).map vi).length = (rdL L n).length := List.length_map _
          cases hq2 : gotK (readM L) n with
          | none =>
            rw [hq2] at hgot
            have hr9 : rdL L n = [] := hgot.symm
            have hz0 : zgot none = .p (.slice none 0 0) := rfl
            simp -implicitDefEqProofs [hz0]
            repeat' first | refine aw_N [4] trivial trivial ?_ | refine aw_cond rfl (fun h => ?_) (fun h => ?_)
            refine aw_nilV (i := 75) rfl ?_
            simp -implicitDefEqProofs only [List.set]
            refine aw_loopW [0, 3, 5, 6, 11, 75, 76, 77] (fun q fr σ => O4 L (o ++ [n]) n m q fr σ) (rdL L n).length ?_ ?_
            · have hmb : ¬ m = b := by omega
              have hbm2 : ¬ b = m := by omega
              refine ⟨oS W b us m (o ++ [n]) (m + 1), le_oS (by simp [ASt.addSl, ASt.dropSl]) (by simp [ASt.addSl, ASt.dropSl, upd, hbm2, hbc]) (fun h => by simp [ASt.addSl, List.take_of_length_le]) (by simp [ASt.addSl, ASt.dropSl]), b, off + 1, m + 1, 0, us, W, by omega, by omega, hr0, hW0, hmb, by omega, by omega, rfl, ?_⟩
              simp [hg, hr9]
            · clear hbc hsb h1i h1n h0pi h0n h0i h0p hW0 hr0 hr hn hlt hng h0 husl hW hus hoff hcb hbm hcm W us off b
              rintro q3 fr σ ⟨b, off, m2, j, us, W, hjq, hoff, hus, hW, hcb, hbm, hcm, rfl, rfl⟩
              simp -implicitDefEqProofs
              by_cases hltj : j < (rdL L n).length
              · have hltji : (j : Int) < (rdL L n).length := by omega
                obtain ⟨x, hx⟩ : ∃ x, (rdL L n)[j] = x := ⟨_, rfl⟩
                have hxg : (rdL L n)[j]? = some x := by rw [List.getElem?_eq_getElem hltj, hx]
                have wj : IntKind.i64.wrap ((j : Int) + 1) = (j : Int) + 1 := wrap_id (by omega) (by omega)
                have hc := icontains_ok (plainL L) x (by omega)
                have hsu := f3_succ (o := o ++ [n]) hL.nd hxg
                by_cases hxP : x ∈ plainL L
                · rw [decide_eq_true hxP] at hc
                  have hv := hW x hxP
                  rw [f3_at hxg] at hv
                  have hvl : wtL L (o ++ [n]) x ≤ 1000 := Nat.le_trans (wtc_le _ _ _) (redL_len hL hxP)
                  have wv : IntKind.i64.wrap (wtL L (o ++ [n]) x : Int) = (wtL L (o ++ [n]) x : Int) := wrap_id (by omega) (by omega)
                  have hW2 : WOk (plainL L) (putK W x ((wtL L (o ++ [n]) x : Nat) : Int)) (f3 L (o ++ [n]) n (j + 1)) := hW.put x _ fun y _ => hsu y
                  repeat' first | refine aw_N [4] (And.intro @hltj (And.intro @hltji (And.intro @hx (And.intro @hxg @hrv)))) trivial ?_ | refine aw_cond rfl (fun h => ?_) (fun h => ?_)
                  refine awl_lookI [] rfl rfl (b := 3) (M := W) (n := x) rfl (by simp) rfl ?_
                  rw [hv]
                  simp -implicitDefEqProofs [wv]
                  repeat' first | refine aw_N [4] @wv trivial ?_ | refine aw_cond rfl (fun h => ?_) (fun h => ?_)
                  refine awl_putI [] rfl rfl (b := 3) (M := W) (n := x) (v := (wtL L (o ++ [n]) x : Int)) rfl (by simp) rfl rfl ?_
                  simp -implicitDefEqProofs
                  repeat' first | refine aw_N [4] trivial trivial ?_ | refine aw_cond rfl (fun h => ?_) (fun h => ?_)
                  refine awl_lookI [] rfl rfl (b := 3) (M := putK W x (wtL L (o ++ [n]) x : Int)) (n := x) rfl (by simp) rfl ?_
                  rw [gotK_put, if_pos rfl, Option.getD_some]
                  by_cases h0 : wtL L (o ++ [n]) x = 0
                  · rw [h0] at hW2 ⊢
                    simp -implicitDefEqProofs
                    repeat' first | refine aw_N [4] trivial (And.intro @hc trivial) ?_ | refine aw_cond rfl (fun h => ?_) (fun h => ?_)
                    have hrl3 := r3_len L (o ++ [n]) n j
                    have husl : us.length - off = (us.drop off).length := by simp
                    have hr3 := r3_with hL.nd hxg hxP (told_not hL.nd hO hmem hxg hxP) h0
                    refine awl_cons rfl (opq_call rfl rfl rfl ((gwithD_ok (b := b) (off := off) (us := us) (by simp) hbm hoff x (by rw [husl, hus]; omega) (by rw [hus]; exact r3_lt hL.nd _ _ _)).mono fun r τ ⟨e1, e2⟩ => ?_))
                    subst e1 e2
                    refine awl_run' [] ?_
                    simp -implicitDefEqProofs
                    repeat' first | refine aw_N [4] @wj trivial ?_ | refine aw_cond rfl (fun h => ?_) (fun h => ?_)
                    have hmc : ¬ m2 + 1 = m := by omega
                    have hmc1 : ¬ m = m2 + 1 := by omega
                    have hmc2 : ¬ m = m2 := by omega
                    refine ⟨q3 - 1, by omega, oS (putK W x ((0 : Nat) : Int)) (m2 + 1) (withI (us.drop off) x) m (o ++ [n]) (m2 + 2), le_oS (by simp [ASt.addSl, ASt.dropSl]) (by simp [ASt.addSl, ASt.dropSl]) (fun _ => by simp [ASt.addSl, ASt.dropSl, upd, hmc1, hmc2, hcb]) (by simp [ASt.addSl, ASt.dropSl]), m2 + 1, 0, m2 + 2, j + 1, _, _, by omega, by omega, by rw [hr3, hus]; rfl, hW2, hmc1, by omega, by omega, rfl, ?_⟩
                    simp
                  · have h0i : ¬ ((wtL L (o ++ [n]) x : Nat) : Int) = 0 := by omega
                    have hr3 := r3_out hL.nd hxg (.inr h0)
                    simp -implicitDefEqProofs [h0, h0i]
                    repeat' first | refine aw_N [4] (And.intro @h0 (And.intro @h0i @wj)) (And.intro @hc trivial) ?_ | refine aw_cond rfl (fun h => ?_) (fun h => ?_)
                    refine ⟨q3 - 1, by omega, oS (putK W x ((wtL L (o ++ [n]) x : Nat) : Int)) b us m (o ++ [n]) m2, le_oS (by simp) (by simp) (fun h => by simp [hcb]) (by simp), b, off, m2, j + 1, us, _, by omega, hoff, by rw [hr3, hus], hW2, hcb, hbm, hcm, rfl, ?_⟩
                    simp
                · rw [decide_eq_false hxP] at hc
                  have hr3 := r3_out (o := o ++ [n]) hL.nd hxg (.inl hxP)
                  obtain ⟨v, hv⟩ : ∃ v, IntKind.i64.wrap ((gotK W x).getD 0 - 1) = v := ⟨_, rfl⟩
                  have hW2 : WOk (plainL L) (putK W x v) (f3 L (o ++ [n]) n (j + 1)) := hW.out hxP v fun y hy => by
                    have hne : ¬ x = y := fun e => hxP (by rw [e]; exact hy)
                    rw [hsu y, if_neg hne]
                  repeat' first | refine aw_N [4] (And.intro @hltj (And.intro @hltji (And.intro @hx (And.intro @hxg @hrv)))) trivial ?_ | refine aw_cond rfl (fun h => ?_) (fun h => ?_)
                  refine awl_lookI [] rfl rfl (b := 3) (M := W) (n := x) rfl (by simp) rfl ?_
                  simp -implicitDefEqProofs [hv]
                  repeat' first | refine aw_N [4] @hv trivial ?_ | refine aw_cond rfl (fun h => ?_) (fun h => ?_)
                  refine awl_putI [] rfl rfl (b := 3) (M := W) (n := x) (v := v) rfl (by simp) rfl rfl ?_
                  simp -implicitDefEqProofs
                  repeat' first | refine aw_N [4] trivial trivial ?_ | refine aw_cond rfl (fun h => ?_) (fun h => ?_)
                  refine awl_lookI [] rfl rfl (b := 3) (M := putK W x v) (n := x) rfl (by simp) rfl ?_
                  rw [gotK_put, if_pos rfl, Option.getD_some]
                  by_cases h0 : v = 0
                  · rw [h0] at hW2 ⊢
                    simp -implicitDefEqProofs
                    repeat' first | refine aw_N [4] @wj (And.intro @hc trivial) ?_ | refine aw_cond rfl (fun h => ?_) (fun h => ?_)
                    refine ⟨q3 - 1, by omega, oS (putK W x 0) b us m (o ++ [n]) m2, le_oS (by simp) (by simp) (fun h => by simp [hcb]) (by simp), b, off, m2, j + 1, us, _, by omega, hoff, by rw [hr3, hus], hW2, hcb, hbm, hcm, rfl, ?_⟩
                    simp
                  · simp -implicitDefEqProofs [h0]
                    repeat' first | refine aw_N [4] (And.intro @h0 @wj) (And.intro @hc trivial) ?_ | refine aw_cond rfl (fun h => ?_) (fun h => ?_)
                    refine ⟨q3 - 1, by omega, oS (putK W x v) b us m (o ++ [n]) m2, le_oS (by simp) (by simp) (fun h => by simp [hcb]) (by simp), b, off, m2, j + 1, us, _, by omega, hoff, by rw [hr3, hus], hW2, hcb, hbm, hcm, rfl, ?_⟩
                    simp
              · have hltji : ¬ (j : Int) < (rdL L n).length := by omega
                repeat' first | refine aw_N [4] @hltji trivial ?_ | refine aw_cond rfl (fun h => ?_) (fun h => ?_)
                refine ⟨q - 1, by simp at hol'; omega, oS W b us m (o ++ [n]) m2, le_oS (by simp) (by simp) (fun h => by simp [hcb]) (by simp), b, off, m, m2, us, o ++ [n], W, by simp at hol' ⊢; omega, hoff, by rw [hus]; exact r3_done (by omega), hO', hW.congr fun y _ => f3_done (by omega) y, hcb, hbm, hcm, rfl, ?_⟩
                simp
          | some l =>
            rw [hq2] at hgot
            have hr9 : l = rdL L n := hgot
            subst hr9
            have hz0 : zgot (some (rdL L n)) = .vsl ((rdL L n).map vi) := rfl
            simp -implicitDefEqProofs [hz0]
            repeat' first | refine aw_N [4] @hrv trivial ?_ | refine aw_cond rfl (fun h => ?_) (fun h => ?_)
            refine aw_loopW [0, 3, 5, 6, 11, 75, 76, 77] (fun q fr σ => O4 L (o ++ [n]) n m q fr σ) (rdL L n).length ?_ ?_
            · have hmb : ¬ m = b := by omega
              have hbm2 : ¬ b = m := by omega
              refine ⟨oS W b us m (o ++ [n]) (m + 1), le_oS (by simp [ASt.addSl, ASt.dropSl]) (by simp [ASt.addSl, ASt.dropSl, upd, hbm2, hbc]) (fun h => by simp [ASt.addSl, List.take_of_length_le]) (by simp [ASt.addSl, ASt.dropSl]), b, off + 1, m + 1, 0, us, W, by omega, by omega, hr0, hW0, hmb, by omega, by omega, rfl, ?_⟩
              simp [hg, hz0]
            · clear hbc hsb h1i h1n h0pi h0n h0i h0p hW0 hr0 hr hn hlt hng h0 husl hW hus hoff hcb hbm hcm W us off b
              rintro q3 fr σ ⟨b, off, m2, j, us, W, hjq, hoff, hus, hW, hcb, hbm, hcm, rfl, rfl⟩
              simp -implicitDefEqProofs
              by_cases hltj : j < (rdL L n).length
              · have hltji : (j : Int) < (rdL L n).length := by omega
                obtain ⟨x, hx⟩ : ∃ x, (rdL L n)[j] = x := ⟨_, rfl⟩
                have hxg : (rdL L n)[j]? = some x := by rw [List.getElem?_eq_getElem hltj, hx]
                have wj : IntKind.i64.wrap ((j : Int) + 1) = (j : Int) + 1 := wrap_id (by omega) (by omega)
                have hc := icontains_ok (plainL L) x (by omega)
                have hsu := f3_succ (o := o ++ [n]) hL.nd hxg
                by_cases hxP : x ∈ plainL L
                · rw [decide_eq_true hxP] at hc
                  have hv := hW x hxP
                  rw [f3_at hxg] at hv
                  have hvl : wtL L (o ++ [n]) x ≤ 1000 := Nat.le_trans (wtc_le _ _ _) (redL_len hL hxP)
                  have wv : IntKind.i64.wrap (wtL L (o ++ [n]) x : Int) = (wtL L (o ++ [n]) x : Int) := wrap_id (by omega) (by omega)
                  have hW2 : WOk (plainL L) (putK W x ((wtL L (o ++ [n]) x : Nat) : Int)) (f3 L (o ++ [n]) n (j + 1)) := hW.put x _ fun y _ => hsu y
                  repeat' first | refine aw_N [4] (And.intro @hltj (And.intro @hltji (And.intro @hx (And.intro @hxg @hrv)))) trivial ?_ | refine aw_cond rfl (fun h => ?_) (fun h => ?_)
                  refine awl_lookI [] rfl rfl (b := 3) (M := W) (n := x) rfl (by simp) rfl ?_
                  rw [hv]
                  simp -implicitDefEqProofs [wv]
                  repeat' first | refine aw_N [4] @wv trivial ?_ | refine aw_cond rfl (fun h => ?_) (fun h => ?_)
                  refine awl_putI [] rfl rfl (b := 3) (M := W) (n := x) (v := (wtL L (o ++ [n]) x : Int)) rfl (by simp) rfl rfl ?_
                  simp -implicitDefEqProofs
                  repeat' first | refine aw_N [4] trivial trivial ?_ | refine aw_cond rfl (fun h => ?_) (fun h => ?_)
                  refine awl_lookI [] rfl rfl (b := 3) (M := putK W x (wtL L (o ++ [n]) x : Int)) (n := x) rfl (by simp) rfl ?_
                  rw [gotK_put, if_pos rfl, Option.getD_some]
                  by_cases h0 : wtL L (o ++ [n]) x = 0
                  · rw [h0] at hW2 ⊢
                    simp -implicitDefEqProofs
                    repeat' first | refine aw_N [4] trivial (And.intro @hc trivial) ?_ | refine aw_cond rfl (fun h => ?_) (fun h => ?_)
                    have hrl3 := r3_len L (o ++ [n]) n j
                    have husl : us.length - off = (us.drop off).length := by simp
                    have hr3 := r3_with hL.nd hxg hxP (told_not hL.nd hO hmem hxg hxP) h0
                    refine awl_cons rfl (opq_call rfl rfl rfl ((gwithD_ok (b := b) (off := off) (us := us) (by simp) hbm hoff x (by rw [husl, hus]; omega) (by rw [hus]; exact r3_lt hL.nd _ _ _)).mono fun r τ ⟨e1, e2⟩ => ?_))
                    subst e1 e2
                    refine awl_run' [] ?_
                    simp -implicitDefEqProofs
                    repeat' first | refine aw_N [4] @wj trivial ?_ | refine aw_cond rfl (fun h => ?_) (fun h => ?_)
                    have hmc : ¬ m2 + 1 = m := by omega
                    have hmc1 : ¬ m = m2 + 1 := by omega
                    have hmc2 : ¬ m = m2 := by omega
                    refine ⟨q3 - 1, by omega, oS (putK W x ((0 : Nat) : Int)) (m2 + 1) (withI (us.drop off) x) m (o ++ [n]) (m2 + 2), le_oS (by simp [ASt.addSl, ASt.dropSl]) (by simp [ASt.addSl, ASt.dropSl]) (fun _ => by simp [ASt.addSl, ASt.dropSl, upd, hmc1, hmc2, hcb]) (by simp [ASt.addSl, ASt.dropSl]), m2 + 1, 0, m2 + 2, j + 1, _, _, by omega, by omega, by rw [hr3, hus]; rfl, hW2, hmc1, by omega, by omega, rfl, ?_⟩
                    simp
                  · have h0i : ¬ ((wtL L (o ++ [n]) x : Nat) : Int) = 0 := by omega
                    have hr3 := r3_out hL.nd hxg (.inr h0)
                    simp -implicitDefEqProofs [h0, h0i]
                    repeat' first | refine aw_N [4] (And.intro @h0 (And.intro @h0i @wj)) (And.intro @hc trivial) ?_ | refine aw_cond rfl (fun h => ?_) (fun h => ?_)
                    refine ⟨q3 - 1, by omega, oS (putK W x ((wtL L (o ++ [n]) x : Nat) : Int)) b us m (o ++ [n]) m2, le_oS (by simp) (by simp) (fun h => by simp [hcb]) (by simp), b, off, m2, j + 1, us, _, by omega, hoff, by rw [hr3, hus], hW2, hcb, hbm, hcm, rfl, ?_⟩
                    simp
                · rw [decide_eq_false hxP] at hc
                  have hr3 := r3_out (o := o ++ [n]) hL.nd hxg (.inl hxP)
                  obtain ⟨v, hv⟩ : ∃ v, IntKind.i64.wrap ((gotK W x).getD 0 - 1) = v := ⟨_, rfl⟩
                  have hW2 : WOk (plainL L) (putK W x v) (f3 L (o ++ [n]) n (j + 1)) := hW.out hxP v fun y hy => by
                    have hne : ¬ x = y := fun e => hxP (by rw [e]; exact hy)
                    rw [hsu y, if_neg hne]
                  repeat' first | refine aw_N [4] (And.intro @hltj (And.intro @hltji (And.intro @hx (And.intro @hxg @hrv)))) trivial ?_ | refine aw_cond rfl (fun h => ?_) (fun h => ?_)
                  refine awl_lookI [] rfl rfl (b := 3) (M := W) (n := x) rfl (by simp) rfl ?_
                  simp -implicitDefEqProofs [hv]
                  repeat' first | refine aw_N [4] @hv trivial ?_ | refine aw_cond rfl (fun h => ?_) (fun h => ?_)
                  refine awl_putI [] rfl rfl (b := 3) (M := W) (n := x) (v := v) rfl (by simp) rfl rfl ?_
                  simp -implicitDefEqProofs
                  repeat' first | refine aw_N [4] trivial trivial ?_ | refine aw_cond rfl (fun h => ?_) (fun h => ?_)
                  refine awl_lookI [] rfl rfl (b := 3) (M := putK W x v) (n := x) rfl (by simp) rfl ?_
                  rw [gotK_put, if_pos rfl, Option.getD_some]
                  by_cases h0 : v = 0
                  · rw [h0] at hW2 ⊢
                    simp -implicitDefEqProofs
                    repeat' first | refine aw_N [4] @wj (And.intro @hc trivial) ?_ | refine aw_cond rfl (fun h => ?_) (fun h => ?_)
                    refine ⟨q3 - 1, by omega, oS (putK W x 0) b us m (o ++ [n]) m2, le_oS (by simp) (by simp) (fun h => by simp [hcb]) (by simp), b, off, m2, j + 1, us, _, by omega, hoff, by rw [hr3, hus], hW2, hcb, hbm, hcm, rfl, ?_⟩
                    simp
                  · simp -implicitDefEqProofs [h0]
                    repeat' first | refine aw_N [4] (And.intro @h0 @wj) (And.intro @hc trivial) ?_ | refine aw_cond rfl (fun h => ?_) (fun h => ?_)
                    refine ⟨q3 - 1, by omega, oS (putK W x v) b us m (o ++ [n]) m2, le_oS (by simp) (by simp) (fun h => by simp [hcb]) (by simp), b, off, m2, j + 1, us, _, by omega, hoff, by rw [hr3, hus], hW2, hcb, hbm, hcm, rfl, ?_⟩
                    simp
              · have hltji : ¬ (j : Int) < (rdL L n).length := by omega
                repeat' first | refine aw_N [4] @hltji trivial ?_ | refine aw_cond rfl (fun h => ?_) (fun h => ?_)
                refine ⟨q - 1, by simp at hol'; omega, oS W b us m (o ++ [n]) m2, le_oS (by simp) (by simp) (fun h => by simp [hcb]) (by simp), b, off, m, m2, us, o ++ [n], W, by simp at hol' ⊢; omega, hoff, by rw [hus]; exact r3_done (by omega), hO', hW.congr fun y _ => f3_done (by omega) y, hcb, hbm, hcm, rfl, ?_⟩
                simp
end Go.AL
/-! The live question's graph, plainly. -/
namespace Go.AL
open Go.Proofs
set_option linter.unusedSimpArgs false
set_option linter.unusedVariables false
def Lc : List Lnk := [(7, [3, 9]), (3, [5]), (5, [3]), (2, [8, 7]), (8, [])]
theorem gok_Lc : GOk Lc := ⟨by decide, by decide, by decide, by decide⟩
theorem hang_7 : hangL Lc [7] = [2] := (hangL_eq (S := [2]) gok_Lc.nd (by
  have h2 : Hg Lc [7] 2 := .base (2, [8, 7]) (by decide) 7 (by decide) (by decide)
  simpa using h2) (by decide) (by decide) (fun x => Iff.rfl)).symm
theorem hang_8 : hangL Lc [8] = [2] := (hangL_eq (S := [2]) gok_Lc.nd (by
  have h2 : Hg Lc [8] 2 := .base (2, [8, 7]) (by decide) 8 (by decide) (by decide)
  simpa using h2) (by decide) (by decide) (fun x => Iff.rfl)).symm
theorem hang_2 : hangL Lc [2] = [] := (hangL_eq (S := []) gok_Lc.nd (by simp) (by decide) (by decide) (fun x => Iff.rfl)).symm
theorem hang_3 : hangL Lc [3] = [2, 3, 5, 7] := (hangL_eq (S := [2, 3, 5, 7]) gok_Lc.nd (by
  have h7 : Hg Lc [3] 7 := .base (7, [3, 9]) (by decide) 3 (by decide) (by decide)
  have h5 : Hg Lc [3] 5 := .base (5, [3]) (by decide) 3 (by decide) (by decide)
  have h3 : Hg Lc [3] 3 := .step (3, [5]) (by decide) 5 (by decide) h5
  have h2 : Hg Lc [3] 2 := .step (2, [8, 7]) (by decide) 7 (by decide) h7
  simp [h2, h3, h5, h7]) (by decide) (by decide) (fun x => Iff.rfl)).symm
theorem hang_5 : hangL Lc [5] = [2, 3, 5, 7] := (hangL_eq (S := [2, 3, 5, 7]) gok_Lc.nd (by
  have h3 : Hg Lc [5] 3 := .base (3, [5]) (by decide) 5 (by decide) (by decide)
  have h7 : Hg Lc [5] 7 := .step (7, [3, 9]) (by decide) 3 (by decide) h3
  have h5 : Hg Lc [5] 5 := .step (5, [3]) (by decide) 3 (by decide) h3
  have h2 : Hg Lc [5] 2 := .step (2, [8, 7]) (by decide) 7 (by decide) h7
  simp [h2, h3, h5, h7]) (by decide) (by decide) (fun x => Iff.rfl)).symm
theorem hang_91 : hangL Lc [9, 1] = [2, 7] := (hangL_eq (S := [2, 7]) gok_Lc.nd (by
  have h7 : Hg Lc [9, 1] 7 := .base (7, [3, 9]) (by decide) 9 (by decide) (by decide)
  have h2 : Hg Lc [9, 1] 2 := .step (2, [8, 7]) (by decide) 7 (by decide) h7
  simp [h2, h7]) (by decide) (by decide) (fun x => Iff.rfl)).symm
theorem nodes_Lc : nodesL Lc = [2, 3, 5, 7, 8] := rise_ext (sortI_lt gok_Lc.nd) (by decide) fun x => by
  rw [nodesL, sortI_mem]
  simp only [Lc, List.map_cons, List.map_nil, List.mem_cons, List.not_mem_nil, or_false]
  omega
theorem onCyc_of {n : Int} {l : List Int} (h : hangL Lc [n] = l) : onCyc Lc n = decide (n ∈ l) := by
  unfold onCyc
  rw [decide_eq_decide, h]
theorem cyc_Lc : cycL Lc = [3, 5] := by
  unfold cycL
  rw [nodes_Lc]
  simp only [List.filter_cons, List.filter_nil, onCyc_of hang_2, onCyc_of hang_3, onCyc_of hang_5, onCyc_of hang_7, onCyc_of hang_8]
  decide
def qB (o : List Int) (y : Int) : Bool := !decide (y ∈ ([3, 5] : List Int)) && !decide (y ∈ o) && ((Lc.find? fun p => decide (p.1 = y)).map fun p => p.2.all fun r => rdyB Lc [3, 5] o r).getD false
theorem rdQ_Lc (o : List Int) {p : Lnk} (hp : p ∈ Lc) (hf : (Lc.find? fun q => decide (q.1 = p.1)) = some p) : rdQ Lc o p.1 = qB o p.1 := by
  unfold rdQ qB
  rw [hf, ← may_iff gok_Lc.nd hp o, cyc_Lc]
  have : onCyc Lc p.1 = decide (p.1 ∈ ([3, 5] : List Int)) := by
    have h := @mem_cycL Lc p.1
    rw [cyc_Lc] at h
    cases hc : onCyc Lc p.1
    · refine (decide_eq_false fun h' => ?_).symm
      have := (h.1 h').2; rw [hc] at this; cases this
    · exact (decide_eq_true (h.2 ⟨List.mem_map.2 ⟨p, hp, rfl⟩, hc⟩)).symm
  rw [this]; rfl
theorem rdy_Lc (o : List Int) : rdyL Lc o = [2, 3, 5, 7, 8].filter (qB o) := by
  rw [rdyL_Q, nodes_Lc]
  refine List.filter_congr fun y hy => ?_
  simp only [List.mem_cons, List.not_mem_nil, or_false] at hy
  rcases hy with rfl | rfl | rfl | rfl | rfl
  · exact rdQ_Lc o (p := (2, [8, 7])) (by decide) (by decide)
  · exact rdQ_Lc o (p := (3, [5])) (by decide) (by decide)
  · exact rdQ_Lc o (p := (5, [3])) (by decide) (by decide)
  · exact rdQ_Lc o (p := (7, [3, 9])) (by decide) (by decide)
  · exact rdQ_Lc o (p := (8, [])) (by decide) (by decide)
theorem ord_Lc : ordL Lc = [7, 8, 2] := by
  have h0 := OrdOk.nil Lc
  have h1 := h0.step (n := 7) gok_Lc.nd (by rw [rdy_Lc]; decide)
  have h2 := h1.step (n := 8) gok_Lc.nd (by rw [rdy_Lc]; decide)
  have h3 := h2.step (n := 2) gok_Lc.nd (by rw [rdy_Lc]; decide)
  exact (h3.done (by rw [rdy_Lc]; decide)).symm
/-! ### nil, for no numbers -/
def lnkN (p : Lnk) : AV := if p.2 = [] then .agg [vi p.1, .p (.slice none 0 0)] else lnk p
theorem lnkN_len (p : Lnk) : (lnkN p).cells.length = 2 ∧ (lnk p).cells.length = 2 := by
  unfold lnkN
  refine ⟨?_, rfl⟩
  split <;> rfl
theorem lnkN_cell (p : Lnk) (j : Nat) (c : AV) (h : (lnk p).cells[j]? = some c) : ∃ c', (lnkN p).cells[j]? = some c' ∧ (c' = c ∨ (c' = .p (.slice none 0 0) ∧ c = .vsl [])) := by
  unfold lnkN
  split
  · rename_i hp
    have e : (lnk p).cells = [vi p.1, .vsl []] := by rw [lnk, hp]; rfl
    rw [e] at h
    match j, h with
    | 0, h => exact ⟨_, rfl, .inl (Option.some.inj h)⟩
    | 1, h => exact ⟨_, rfl, .inr ⟨rfl, (Option.some.inj h).symm⟩⟩
  · exact ⟨c, h, .inl rfl⟩
theorem rep_lnkN {L : List Lnk} (G : Ghost) (w : World) (v : Value) (h : Rep G w (.vsl (L.map lnkN)) v) : Rep G w (.vsl (lks L)) v := by
  have hcell : ∀ (i j : Nat) c, rowCell (lks L) i j = some c → ∃ c', rowCell (L.map lnkN) i j = some c' ∧ (c' = c ∨ (c' = .p (.slice none 0 0) ∧ c = .vsl [])) := by
    intro i j c hc
    unfold rowCell lks at hc
    rw [List.getElem?_map] at hc
    unfold rowCell
    rw [List.getElem?_map]
    cases hp : L[i]? with
    | none => rw [hp] at hc; cases hc
    | some p =>
      rw [hp] at hc
      exact lnkN_cell p j c hc
  generalize hxs : L.map lnkN = xs at h hcell
  have hlen : (lks L).length = xs.length := by rw [← hxs, lks_len, List.length_map]
  generalize hav : AV.vsl xs = av at h
  cases h with
  | vnil a cap =>
    injection hav with e
    subst e
    have : lks L = [] := List.eq_nil_of_length_eq_zero (by rw [hlen]; rfl)
    rw [this]; exact .vnil a cap
  | vsl _ β o s cap val hcap hs h1 hr =>
    injection hav with e
    subst e
    rw [← hlen]
    refine .vsl (lks L) β o s cap val (by rw [hlen]; exact hcap) (fun i x hx => ?_) (fun i j c hc => ?_) fun i j c hc => ?_
    · rw [lks, List.getElem?_map] at hx
      obtain ⟨p, hp, rfl⟩ := Option.map_eq_some_iff.1 hx
      rw [(lnkN_len p).2, ← (lnkN_len p).1]
      exact hs i _ (by rw [← hxs, List.getElem?_map, hp]; rfl)
    · obtain ⟨c', h2, _⟩ := hcell i j c hc
      exact h1 i j c' h2
    · obtain ⟨c', h2, h3⟩ := hcell i j c hc
      have h4 := hr i j c' h2
      rcases h3 with rfl | ⟨rfl, rfl⟩
      · exact h4
      · generalize val i j = u at h4
        cases h4
        exact .vnil _ _
  | _ => cases hav
/-- What one holds, said more softly. -/
theorem awl_soft {P : Program} {σ : ASt} {D : List Deferred} {Q : Exit → List AV → ASt → Prop} {fr : List AV} {ops : Array Oper} {l : List Oper} (i : Nat) {c c' : AV} (hi : fr[i]? = some c) (hc : ∀ G w v, Rep G w c v → Rep G w c' v) (h : AWL P D ops Q l (fr.set i c') σ) : AWL P D ops Q l fr σ := by
  intro G a w hs
  refine h G a w ⟨⟨by simpa using hs.tmps.1, fun j c1 v h1 hv => ?_⟩, hs.defers, hs.w⟩
  rw [List.getElem?_set] at h1
  split at h1
  · rename_i e
    subst e
    split at h1
    · obtain rfl := Option.some.inj h1
      exact hc G w v (hs.tmps.2 i c v hi hv)
    · cases h1
  · exact hs.tmps.2 j c1 v h1 hv
@[simp] theorem strip_gV (L : List Lnk) : strip true (gV L) = gV L := rfl
set_option maxHeartbeats 16000000 in
set_option maxRecDepth 100000 in
theorem alive12_ok : APure Try.prog 6 [] (vb true) := by
  have hn1 := gnew_ok Lc (by decide) (by decide)
  have hz1 : newR Lc = 0 := by decide
  rw [hz1] at hn1
  have hn2 := gnew_ok [(7, []), (7, [])] (by decide) (by decide)
  have hz2 : newR [(7, []), (7, [])] = 5 := by decide
  rw [hz2] at hn2
  simp only [if_true, if_neg (show ¬ (5 : Int) = 0 by decide)] at hn1 hn2
  have ho := gorder_ok gok_Lc
  have hc := gcyclic_ok gok_Lc
  have hh := ghang_ok gok_Lc [9, 1] (by decide)
  have hn := gnodes_ok gok_Lc
  rw [ord_Lc] at ho
  rw [cyc_Lc] at hc
  rw [hang_91] at hh
  rw [nodes_Lc] at hn
  have i1 := rints_ok [7, 8, 2] [7, 8, 2] (by decide) (by decide)
  have i2 := rints_ok [3, 5] [3, 5] (by decide) (by decide)
  have i3 := rints_ok [2, 7] [2, 7] (by decide) (by decide)
  have i4 := rints_ok [2, 3, 5, 7, 8] [2, 3, 5, 7, 8] (by decide) (by decide)
  simp only [decide_true, List.map_cons, List.map_nil] at ho hc hh hn i1 i2 i3 i4
  refine apure_in Try.func6 Try.ntmps6 rfl ?_
  repeat' first | refine aw_N [] trivial trivial ?_ | refine aw_cond rfl (fun h => ?_) (fun h => ?_)
  refine awl_soft 15 (c' := .vsl (lks Lc)) rfl (fun G w v h => rep_lnkN (L := Lc) G w v h) ?_
  simp -implicitDefEqProofs only [List.set]
  repeat' first | refine aw_N [] trivial (And.intro @hn1 trivial) ?_ | refine aw_cond rfl (fun h => ?_) (fun h => ?_)
  refine awl_soft 22 (c' := .vsl (lks [(7, []), (7, [])])) rfl (fun G w v h => rep_lnkN (L := [(7, []), (7, [])]) G w v h) ?_
  simp -implicitDefEqProofs only [List.set]
  repeat' first | refine aw_N [] trivial (And.intro @hn2 (And.intro @ho (And.intro @hc (And.intro @hh (And.intro @hn (And.intro @i1 (And.intro @i2 (And.intro @i3 (And.intro @i4 trivial))))))))) ?_ | refine aw_cond rfl (fun h => ?_) (fun h => ?_)
  all_goals first | rfl | (simp [tupOf]; done) | trace_state
end Go.AL
/-! Plain laws of a graph, for the statements. -/
namespace Go.AL
open Go.Proofs
set_option linter.unusedSimpArgs false
set_option linter.unusedVariables false
theorem newR_zero {L : List Lnk} (h : newR L = 0) (hl : L.length ≤ 1000) (hr : ∀ p ∈ L, p.2.length ≤ 1000) : GOk L := by
  unfold newR at h
  split at h
  · cases h
  · rename_i ha
    split at h
    · rename_i hn
      have ha : L.all okLk = true := by
        cases hc : L.all okLk
        · exact (ha hc).elim
        · rfl
      refine ⟨hl, hr, hn, fun p hp => ?_⟩
      have := List.all_eq_true.1 ha p hp
      unfold okLk at this
      rw [Bool.and_eq_true] at this
      exact fitsG_iff.1 this.1
    · cases h
theorem plc_neg {v : Int} {l : List Int} : plc v l < 0 ↔ v ∉ l := by
  have := idxI_iff v l 0
  unfold plc
  constructor
  · intro h hm
    have := this.2 hm; omega
  · intro h
    have h2 : ¬ 0 ≤ idxI v l 0 := fun h' => h (this.1 h')
    omega
theorem idxI_at {v : Int} : ∀ {l : List Int} (i : Nat), v ∈ l → ∃ j, idxI v l i = ((i + j : Nat) : Int) ∧ l[j]? = some v ∧ v ∉ l.take j
  | [], _, h => by cases h
  | x :: l, i, h => by
    rw [idxI]
    by_cases e : v = x
    · exact ⟨0, by simp [e], by simp [e], by simp⟩
    · rw [if_neg e]
      obtain ⟨j, h1, h2, h3⟩ := idxI_at (i + 1) ((List.mem_cons.1 h).resolve_left e)
      exact ⟨j + 1, by rw [h1]; omega, by simpa using h2, by simp [e, h3]⟩
theorem plc_at {v : Int} {l : List Int} (h : v ∈ l) : ∃ j : Nat, plc v l = (j : Int) ∧ l[j]? = some v ∧ v ∉ l.take j := by
  obtain ⟨j, h1, h2, h3⟩ := idxI_at 0 h
  exact ⟨j, by unfold plc; rw [h1]; simp, h2, h3⟩
/-! ### behind what it reads -/
theorem ordI_pre (L : List Lnk) : ∀ (k i : Nat) (y : Int), (ordI L k)[i]? = some y → wtL L ((ordI L k).take i) y = 0
  | 0, i, y, h => by simp [ordI] at h
  | k + 1, i, y, h => by
    rw [ordI] at h ⊢
    cases hr : (rdyL L (ordI L k)).head? with
    | none =>
      rw [hr] at h
      simp only [Option.toList_none, List.append_nil] at h ⊢
      exact ordI_pre L k i y h
    | some n =>
      rw [hr] at h
      simp only [Option.toList_some] at h ⊢
      by_cases hi : i < (ordI L k).length
      · rw [List.getElem?_append_left hi] at h
        rw [List.take_append_of_le_length (by omega)]
        exact ordI_pre L k i y h
      · rw [List.getElem?_append_right (by omega)] at h
        have h0 : i - (ordI L k).length = 0 := by
          have := (List.getElem?_eq_some_iff.1 h).1
          simp at this; omega
        have hi' : i = (ordI L k).length := by omega
        rw [h0] at h
        simp at h
        subst h
        rw [hi', List.take_append_of_le_length (Nat.le_refl _), List.take_length]
        exact (mem_rdyL.1 (List.mem_of_mem_head? hr)).2.2
theorem Hg.trans {L : List Lnk} {on : List Int} {x y : Int} (h : Hg L [x] y) (hx : Hg L on x) : Hg L on y := by
  induction h with
  | base p hp n hn h => obtain rfl := List.mem_singleton.1 h; exact .step p hp _ hn hx
  | step p hp n hn h ih => exact .step p hp n hn ih
theorem onCyc_iff {L : List Lnk} {y : Int} : onCyc L y = true ↔ Hg L [y] y := by
  unfold onCyc
  rw [decide_eq_true_eq, hangL_mem]
theorem red_reads {L : List Lnk} (hn : (L.map Prod.fst).Nodup) {p : Lnk} (hp : p ∈ L) {x : Int} : x ∈ redL L p.1 ↔ x ∈ p.2 := by
  rw [redL_of hn hp, csL_mem]
open Classical in
theorem all_told {L : List Lnk} (hn : (L.map Prod.fst).Nodup) {o : List Int} (hr : rdyL L o = []) : ∀ y ∈ plainL L, y ∈ o := by
  have key : ∀ (k : Nat) (y : Int), y ∈ plainL L → y ∉ o → ((plainL L).filter fun z => decide (Hg L [z] y)).length ≤ k → False := by
    intro k
    induction k with
    | zero =>
      intro y hy ho hk
      have hz : wtL L o y ≠ 0 := fun h => by
        have := mem_rdyL.2 ⟨hy, ho, h⟩; rw [hr] at this; cases this
      unfold wtL wtc at hz
      obtain ⟨x, hx⟩ := List.exists_mem_of_length_pos (Nat.pos_of_ne_zero hz)
      obtain ⟨h1, h2⟩ := List.mem_filter.1 hx
      simp only [Bool.and_eq_true, decide_eq_true_eq, Bool.not_eq_true', decide_eq_false_iff_not] at h2
      obtain ⟨p, hp, rfl⟩ := plainL_node hy
      have : Hg L [x] p.1 := .base p hp x ((red_reads hn hp).1 h1) (by simp)
      have hm : x ∈ (plainL L).filter fun z => decide (Hg L [z] p.1) := List.mem_filter.2 ⟨h2.1, decide_eq_true this⟩
      have := List.length_pos_of_mem hm
      omega
    | succ k ih =>
      intro y hy ho hk
      have hz : wtL L o y ≠ 0 := fun h => by
        have := mem_rdyL.2 ⟨hy, ho, h⟩; rw [hr] at this; cases this
      unfold wtL wtc at hz
      obtain ⟨x, hx⟩ := List.exists_mem_of_length_pos (Nat.pos_of_ne_zero hz)
      obtain ⟨h1, h2⟩ := List.mem_filter.1 hx
      simp only [Bool.and_eq_true, decide_eq_true_eq, Bool.not_eq_true', decide_eq_false_iff_not] at h2
      obtain ⟨p, hp, rfl⟩ := plainL_node hy
      have hxr := (red_reads hn hp).1 h1
      have hxy : Hg L [x] p.1 := .base p hp x hxr (by simp)
      have hxx : ¬ Hg L [x] x := fun h => by
        have := (mem_plainL.1 h2.1).2
        rw [onCyc_iff.2 h] at this; cases this
      refine ih x h2.1 h2.2 ?_
      have := sub_len (l := (plainL L).filter fun z => decide (Hg L [z] p.1)) (S := x :: (plainL L).filter fun z => decide (Hg L [z] x)) (by
        rw [List.nodup_cons]
        refine ⟨fun h => hxx (of_decide_eq_true (List.mem_filter.1 h).2), (lt_nodup (plainL_lt hn)).filter _⟩) (fun z hz => by
        rcases List.mem_cons.1 hz with rfl | hz
        · exact List.mem_filter.2 ⟨h2.1, decide_eq_true hxy⟩
        · obtain ⟨h3, h4⟩ := List.mem_filter.1 hz
          exact List.mem_filter.2 ⟨h3, decide_eq_true (.step p hp x hxr (of_decide_eq_true h4))⟩)
      simp only [List.length_cons] at this
      omega
  intro y hy
  by_cases ho : y ∈ o
  · exact ho
  · exact (key _ y hy ho (Nat.le_refl _)).elim
theorem ordL_mem {L : List Lnk} (hn : (L.map Prod.fst).Nodup) (y : Int) : y ∈ ordL L ↔ y ∈ plainL L := by
  obtain ⟨h1, h2⟩ := ordL_ok hn
  exact ⟨h1.sub y, all_told hn h2 y⟩
theorem ordL_len {L : List Lnk} (hn : (L.map Prod.fst).Nodup) : (ordL L).length + (cycL L).length = L.length := by
  obtain ⟨h1, h2⟩ := ordL_ok hn
  have a := h1.len
  have b := sub_len (lt_nodup (plainL_lt hn)) (all_told hn h2)
  have c : ∀ l : List Int, (l.filter fun n => !onCyc L n).length + (l.filter fun n => onCyc L n).length = l.length := by
    intro l
    induction l with
    | nil => rfl
    | cons x l ih =>
      cases hc : onCyc L x <;> simp [hc] <;> omega
  have d := c (nodesL L)
  have e := nodesL_len L
  have f : ((nodesL L).filter fun n => !onCyc L n) = plainL L := rfl
  have g : ((nodesL L).filter fun n => onCyc L n) = cycL L := rfl
  rw [f, g] at d
  omega
/-- What is read stands ahead. -/
theorem ord_ahead {L : List Lnk} (hn : (L.map Prod.fst).Nodup) {p : Lnk} (hp : p ∈ L) (ho : p.1 ∈ ordL L) {x : Int} (hx : x ∈ p.2) : plc x (ordL L) < plc p.1 (ordL L) := by
  obtain ⟨i, h1, h2, h3⟩ := plc_at ho
  by_cases hxo : x ∈ ordL L
  · have hpre := ordI_pre L L.length i p.1 h2
    have hxt : x ∈ (ordL L).take i := by
      by_cases h : x ∈ (ordL L).take i
      · exact h
      · exfalso
        unfold wtL wtc at hpre
        have := List.length_eq_zero_iff.1 hpre
        rw [List.filter_eq_nil_iff] at this
        have := this x ((red_reads hn hp).2 hx)
        simp only [Bool.and_eq_true, decide_eq_true_eq, Bool.not_eq_true', decide_eq_false_iff_not] at this
        exact this ⟨(ordL_mem hn x).1 hxo, h⟩
    obtain ⟨j, h4, h5, h6⟩ := plc_at hxo
    have hji : j < i := by
      rcases Nat.lt_or_ge j i with h | h
      · exact h
      · exact (h6 ((List.take_sublist_take_left h).subset hxt)).elim
    rw [h1, h4]; omega
  · have := plc_neg.2 hxo
    rw [h1]; omega
end Go.AL
/-! GraphTells. -/
namespace Go.AL
open Go.Proofs
set_option linter.unusedSimpArgs false
set_option linter.unusedVariables false
theorem lfits_of {L : List Lnk} (h : lfits L = true) : L.length ≤ 60 ∧ ∀ p ∈ L, p.2.length ≤ 60 := by
  unfold lfits at h
  rw [Bool.and_eq_true, decide_eq_true_eq, List.all_eq_true] at h
  exact ⟨h.1, fun p hp => of_decide_eq_true (h.2 p hp)⟩
set_option maxRecDepth 100000 in
theorem lnk_has {n : Nat} {x : AV} (h : hasF Try.prog n 41 x) : ∃ p : Lnk, x = lnk p ∧ True := by
  obtain ⟨m, cs, rfl, rfl, hl, hf⟩ := has_struct h Try.underlying41
  rw [show Try.prog.cellsOf 41 = 2 by kernel_rfl] at hl
  have c1 : Try.prog.cellsOf 3 = 1 := by kernel_rfl
  have c2 : Try.prog.cellsOf 23 = 1 := by kernel_rfl
  simp only [List.mem_cons, List.not_mem_nil, or_false, forall_eq_or_imp, forall_eq] at hf
  obtain ⟨⟨y0, h0, e0⟩, y1, h1, e1⟩ := hf
  obtain ⟨a, rfl, ha⟩ := has_i64 h0 Try.underlying3
  obtain ⟨m2, xs, rfl, rfl, hx, hy⟩ := has_slice h1 Try.underlying23
  obtain ⟨l, rfl, hl2⟩ := list_of (f := vi) (r := fun _ => True) (fun y hy => by
    obtain ⟨z, rfl, hz⟩ := has_i64 hy Try.underlying3
    exact ⟨z, rfl, trivial⟩) xs hy
  match cs, hl with
  | [x0, x1], _ =>
    simp only [c1, c2, List.drop_zero, List.take_succ_cons, List.take_zero, List.drop_succ_cons, List.cons.injEq, and_true, AV.cells] at e0 e1
    subst e0; subst e1
    exact ⟨(a, l), rfl, trivial⟩
theorem lnks_has {x : AV} (h : HasT Try.prog 22 x) : ∃ L : List Lnk, x = .vsl (lks L) := by
  obtain ⟨n, h⟩ := h
  obtain ⟨m, xs, rfl, rfl, hx, hy⟩ := has_slice h Try.underlying22
  obtain ⟨l, rfl, hl⟩ := list_of (f := lnk) (r := fun _ => True) (fun y hy => lnk_has hy) xs hy
  exact ⟨l, rfl⟩
end Go.AL
