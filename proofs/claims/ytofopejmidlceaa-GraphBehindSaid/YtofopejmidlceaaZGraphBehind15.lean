/- Parts of the proof of GraphBehind: the logic, contracts, plain laws. -/
import Derived.Test.YtofopejmidlceaaZGraphBehind14
/-! Contract: graph.New. -/
namespace Go.AL
open Go.Proofs
set_option linter.unusedSimpArgs false
set_option linter.unusedVariables false
theorem tmG : tmap Try.prog 44 = some (.int .i64, 23) := by kernel_rfl
theorem tmI : tmap Try.prog 61 = some (.int .i64, 3) := by kernel_rfl
theorem le_gSt {R : List (Int × List Int)} {E : List En} {bs : List (Nat × List AV)} {n : Nat} {σ : ASt} (h1 : ∀ p ∈ bs, σ.bx p.1 = some p.2) (h2 : σ.mp 0 = some (esK slV R)) (h3 : σ.mp 1 = some (esK hE E)) (h4 : ∀ i xs, slE E i = some xs → σ.sl i = some xs) (h5 : σ.next ≤ n) : (gSt R E bs n).Le σ where
  bx := fun i c e => h1 (i, c) (lookup_mem e)
  mp := fun i c e => by
    simp only [gSt_mp] at e
    split at e
    · rename_i hi; subst hi; rw [h2]; exact e
    · split at e
      · rename_i hi; subst hi; rw [h3]; exact e
      · cases e
  sl := fun i c e => h4 i c e
  next := h5
def gP : AV := .vel [.agg [.map 0, .map 1]] 0 0
def NwI1 (L : List Lnk) (q : Nat) (fr : List AV) (σ : ASt) : Prop := ∃ i M : Nat, i + q = L.length ∧ 2 ≤ M ∧ (L.take i).all okLk = true ∧ σ = gSt [] [] [] M ∧ fr = frm 91 [(0, .vsl (lks L)), (4, gP), (17, .vsl (lks L)), (18, vi (L.length : Nat)), (19, vi (i : Nat))]
def NwI2 (L : List Lnk) (q : Nat) (fr : List AV) (σ : ASt) : Prop := ∃ (i M : Nat) (E : List En), i + q = L.length ∧ 2 ≤ M ∧ okE E M ∧ (∀ e ∈ E, e.2.2.length ≤ i * 1000) ∧ er E = readM (L.take i) ∧ ((L.take i).map Prod.fst).Nodup ∧ σ = gSt (readsM (L.take i)) E [] M ∧ fr = frm 91 [(4, gP), (33, .vsl (lks L)), (34, vi (L.length : Nat)), (35, vi (i : Nat))]
def NwI3 (L : List Lnk) (i : Nat) (R : List (Int × List Int)) (a : Int) (rs cs : List Int) (b : Nat) (q : Nat) (fr : List AV) (σ : ASt) : Prop := ∃ (j M : Nat) (E : List En), j + q = cs.length ∧ b < M ∧ okE E M ∧ (∀ e ∈ E, e.2.2.length ≤ i * 1000 + j) ∧ er E = (cs.take j).foldl (fun M n => pushR M n a) (readM (L.take i)) ∧ σ = gSt R E [(b, [vi a, .vsl (rs.map vi)])] M ∧ fr = frm 91 [(4, gP), (8, .ptr b 0), (33, .vsl (lks L)), (34, vi (L.length : Nat)), (35, vi (i : Nat)), (67, .vsl (cs.map vi)), (68, vi (cs.length : Nat)), (69, vi (j : Nat))]
theorem sortI_len (l : List Int) : (sortI l).length = l.length := List.length_mergeSort _
theorem icompactL_ok {σ : ASt} {b : Nat} {l : List Int} (hb : σ.sl b = some ((sortI l).map vi)) (hl : l.length ≤ 1000000) : ACall Try.prog 23 [.hsl b 0 l.length] σ fun r τ => r = slV (csL l) ∧ τ = σ.dropSl b := by
  have := acall_compact icompact_ok (zs := sortI l) hb (by rw [sortI_len]; omega)
  rw [sortI_len] at this
  exact this
/-- What a lookup hands back. -/
def zgot : Option (List Int) → AV
  | none => .p (.slice none 0 0)
  | some l => slV l
theorem zgot_some (M : List (Int × List Int)) (a : Int) : ∀ j y, (ixK M a 0).map (fun j => (j, slV ((gotK M a).getD []))) = some (j, y) → zgot (gotK M a) = y := fun j y e => by
  obtain ⟨j', h, e⟩ := Option.map_eq_some_iff.1 e
  cases e
  have := ixK_spec a M 0
  rw [h] at this
  obtain ⟨_, v, hv, _⟩ := this
  rw [hv]; rfl
theorem zgot_none {P : Program} {el : TypeId} (hz : tzero P el = some (.p (.slice none 0 0))) (M : List (Int × List Int)) (a : Int) : (ixK M a 0).map (fun j => (j, slV ((gotK M a).getD []))) = none → tzero P el = some (zgot (gotK M a)) := fun e => by
  rw [ixK_none (Option.map_eq_none_iff.1 e)]; exact hz
def zgE : Option (Nat × List Int) → AV
  | none => .p (.slice none 0 0)
  | some p => hE p
theorem zgE_some (M : List En) (a : Int) : ∀ j y, (ixK M a 0).map (fun j => (j, hE ((gotK M a).getD (0, [])))) = some (j, y) → zgE (gotK M a) = y := fun j y e => by
  obtain ⟨j', h, e⟩ := Option.map_eq_some_iff.1 e
  cases e
  have := ixK_spec a M 0
  rw [h] at this
  obtain ⟨_, v, hv, _⟩ := this
  rw [hv]; rfl
theorem zgE_none {P : Program} {el : TypeId} (hz : tzero P el = some (.p (.slice none 0 0))) (M : List En) (a : Int) : (ixK M a 0).map (fun j => (j, hE ((gotK M a).getD (0, [])))) = none → tzero P el = some (zgE (gotK M a)) := fun e => by
  rw [ixK_none (Option.map_eq_none_iff.1 e)]; exact hz
theorem cloD_v (σ : ASt) (n : Nat) (xs : List AV) : cloD σ n (.vsl xs) = .vsl xs := by cases n <;> rfl
theorem cloD_i (σ : ASt) (n : Nat) (k : IntKind) (z : Int) : cloD σ n (.p (.int k z)) = .p (.int k z) := by cases n <;> rfl
theorem clo_gP {R : List (Int × List Int)} {E : List En} {M : Nat} (h : okE E M) : cloD (gSt R E [] M) 5 gP = .vel [.agg [mapV R, mapV (er E)]] 0 0 := by
  have hk0 : (esK slV R).all (fun p => p.1.isKey) = true := by simp [esK, AV.isKey]
  have hk1 : (esK hE E).all (fun p => p.1.isKey) = true := by simp [esK, AV.isKey]
  have h0 : cloD (gSt R E [] M) 4 (.map 0) = mapV R := by
    rw [cloD]
    simp only [gSt_mp, if_true]
    rw [if_pos hk0]
    unfold mapV
    congr 1
    · exact List.map_congr_left fun p hp => by
        obtain ⟨q, _, rfl⟩ := List.mem_map.1 hp
        exact cloD_i _ _ _ _
    · exact List.map_congr_left fun p hp => by
        obtain ⟨q, _, rfl⟩ := List.mem_map.1 hp
        exact cloD_v _ _ _
  have h1 : cloD (gSt R E [] M) 4 (.map 1) = mapV (er E) := by
    rw [cloD]
    simp only [gSt_mp, if_true]
    rw [if_neg (by decide)]
    simp only
    rw [if_pos hk1]
    unfold mapV esK er
    simp only [List.map_map]
    refine congr (congrArg AV.vmp (List.map_congr_left fun p hp => cloD_i _ _ _ _)) ?_
    · exact List.map_congr_left fun p hp => by
        show cloD (gSt R E [] M) 3 (hE p.2) = slV p.2.2
        have := slE_of h.1 hp
        simp [hE, cloD, this, slV, List.take_of_length_le]
  show AV.vel [.agg [cloD (gSt R E [] M) 4 (.map 0), cloD (gSt R E [] M) 4 (.map 1)]] 0 0 = _
  rw [h0, h1]
theorem newR_one {L : List Lnk} {p : Lnk} (hp : p ∈ L) (h : okLk p = false) : newR L = 1 := by
  have : L.all okLk = false := by
    rw [List.all_eq_false]
    exact ⟨p, hp, by simp [h]⟩
  rw [newR, if_pos this]
set_option maxHeartbeats 32000000 in
set_option maxRecDepth 100000 in
theorem gnew_ok (L : List Lnk) (hL : L.length ≤ 1000) (hr : ∀ p ∈ L, p.2.length ≤ 1000) : APure Try.prog 7 [.vsl (lks L)] (if newR L = 0 then .tup [gV L, vi 0] else .tup [.p (.pointer none), vi (newR L)]) := by
  have hvl := lks_len L
  refine apure_in Try.func7 Try.ntmps7 rfl ?_
  repeat' first | refine aw_W [6, 8] trivial trivial ?_ | refine aw_cond rfl (fun h => ?_) (fun h => ?_)
  refine awl_makeMap [] rfl rfl ?_
  simp -implicitDefEqProofs
  refine awl_makeMap [] rfl rfl ?_
  simp -implicitDefEqProofs
  repeat' first | refine aw_W [6, 8] @hvl trivial ?_ | refine aw_cond rfl (fun h => ?_) (fun h => ?_)
  refine aw_loopW [0, 4, 17, 18, 19] (fun q fr σ => NwI1 L q fr σ) L.length ?_ ?_
  · refine ⟨gSt [] [] [] 2, le_gSt (by simp) (by simp [esK]) (by simp [esK]) (fun i xs h => by cases h) (by simp), 0, 2, by omega, by omega, by simp, rfl, ?_⟩
    simp [gP]
  · rintro q fr σ ⟨i, M, hi, hM, hok, rfl, rfl⟩
    simp -implicitDefEqProofs
    by_cases hlt : i < L.length
    · have hlti : (i : Int) < L.length := by omega
      obtain ⟨⟨a, rs⟩, hp⟩ : ∃ p, L[i]? = some p := ⟨_, List.getElem?_eq_getElem hlt⟩
      have hg := lks_get hp
      have hla : i < (lks L).length := by omega
      have wi : IntKind.i64.wrap ((i : Int) + 1) = (i : Int) + 1 := wrap_id (by omega) (by omega)
      have hrs := hr _ (List.mem_of_getElem? hp)
      have hf := gfits_ok a
      have hc := gcont_ok rs (by simp at hrs; omega)
      cases hfa : fitsG a with
      | false =>
        rw [hfa] at hf
        repeat' first | refine aw_W [6, 8] (And.intro @hlti (And.intro @hvl (And.intro @hg (And.intro @hla @wi)))) (And.intro @hf (And.intro @hc trivial)) ?_ | refine aw_cond rfl (fun h => ?_) (fun h => ?_)
        have : newR L = 1 := newR_one (List.mem_of_getElem? hp) (by simp [okLk, hfa])
        simp [tupOf, this]
      | true =>
        cases hfr : rs.all fitsG with
        | false =>
          rw [hfa] at hf
          rw [hfr] at hc
          repeat' first | refine aw_W [6, 8] (And.intro @hlti (And.intro @hvl (And.intro @hg (And.intro @hla @wi)))) (And.intro @hf (And.intro @hc trivial)) ?_ | refine aw_cond rfl (fun h => ?_) (fun h => ?_)
          have : newR L = 1 := newR_one (List.mem_of_getElem? hp) (by simp [okLk, hfa, hfr])
          simp [tupOf, this]
        | true =>
          rw [hfa] at hf
          rw [hfr] at hc
          repeat' first | refine aw_W [6, 8] (And.intro @hlti (And.intro @hvl (And.intro @hg (And.intro @hla @wi)))) (And.intro @hf (And.intro @hc trivial)) ?_ | refine aw_cond rfl (fun h => ?_) (fun h => ?_)
          refine ⟨q - 1, by omega, gSt [] [] [] (M + 1), le_gSt (by simp) (by simp) (by simp) (fun i xs h => by cases h) (by simp), i + 1, M + 1, by omega, by omega, ?_, rfl, by simp⟩
          rw [List.take_add_one, hp, Option.toList_some, List.all_append, hok]
          simp [okLk, hfa, hfr]
    · have hlti : ¬ (i : Int) < L.length := by omega
      rw [List.take_of_length_le (by omega)] at hok
      clear hlt hi
      repeat' first | refine aw_W [6, 8] (And.intro @hlti @hvl) trivial ?_ | refine aw_cond rfl (fun h => ?_) (fun h => ?_)
      refine aw_loopW [4, 33, 34, 35] (fun q fr σ => NwI2 L q fr σ) L.length ?_ ?_
      · refine ⟨gSt [] [] [] M, le_gSt (by simp) (by simp [esK]) (by simp [esK]) (fun i xs h => by cases h) (by simp), 0, M, [], by omega, hM, ⟨by simp, by simp, by simp⟩, by simp, rfl, by simp, rfl, ?_⟩
        simp
      · clear hlti i hM M q
        rintro q fr σ ⟨i, M, E, hi, hM, hEk, hlen, her, hnd, rfl, rfl⟩
        simp -implicitDefEqProofs
        by_cases hlt : i < L.length
        · have hlti : (i : Int) < L.length := by omega
          obtain ⟨⟨a, rs⟩, hp⟩ : ∃ p, L[i]? = some p := ⟨_, List.getElem?_eq_getElem hlt⟩
          have hg := lks_get hp
          have hla : i < (lks L).length := by omega
          have wi : IntKind.i64.wrap ((i : Int) + 1) = (i : Int) + 1 := wrap_id (by omega) (by omega)
          have hrs := hr _ (List.mem_of_getElem? hp)
          have hgP : gP = .vel [.agg [.map 0, .map 1]] 0 0 := rfl
          have hix := ixK_some (readsM (L.take i)) a
          repeat' first | refine aw_W [6, 8] (And.intro @hlti (And.intro @hvl (And.intro @hg (And.intro @hla (And.intro @wi @hgP))))) trivial ?_ | refine aw_cond rfl (fun h => ?_) (fun h => ?_)
          have hrm : readsM (L.take (i + 1)) = readsM (L.take i) ++ [(a, csL rs)] := by
            unfold readsM
            rw [List.take_add_one, hp, Option.toList_some, List.map_append]; rfl
          have hkeys : (readsM (L.take i)).map Prod.fst = (L.take i).map Prod.fst := by simp only [readsM, List.map_map]; rfl
          refine yl_lookup rfl rfl tmG (b := 0) rfl (es := esK slV (readsM (L.take i))) (by simp) rfl (find_esK slV [] .i64 a _ 0) (x := zgot (gotK (readsM (L.take i)) a)) (zgot_some _ _) (zgot_none tz23 _ _) ?_
          simp -implicitDefEqProofs [hix]
          cases hq : gotK (readsM (L.take i)) a with
          | some v =>
            simp -implicitDefEqProofs only [Option.isSome_some]
            repeat' first | refine aw_W [6, 8] @hlti trivial ?_ | refine aw_cond rfl (fun h => ?_) (fun h => ?_)
            have hin : a ∈ (L.take i).map Prod.fst := by rw [← hkeys, ← gotK_mem, hq]; rfl
            have hnn : ¬ (L.map Prod.fst).Nodup := fun hn => by
              rw [← List.take_append_drop i L, List.map_append, List.nodup_append] at hn
              refine hn.2.2 a hin a (List.mem_map.2 ⟨(a, rs), ?_, rfl⟩) rfl
              rw [List.drop_eq_getElem_cons hlt]
              have : L[i] = (a, rs) := by rw [List.getElem?_eq_getElem hlt] at hp; exact Option.some.inj hp
              rw [this]; exact List.mem_cons_self
            have hnr : newR L = 5 := by rw [newR, hok, if_neg (by simp), if_neg hnn]
            simp [tupOf, hnr]
          | none =>
            simp -implicitDefEqProofs only [Option.isSome_none]
            have hni : a ∉ (L.take i).map Prod.fst := by rw [← hkeys, ← gotK_mem, hq]; simp
            repeat' first | refine aw_N [6, 8] @hlti trivial ?_ | refine aw_cond rfl (fun h => ?_) (fun h => ?_)
            have hcr : rs.length ≤ 1000000 := by simp at hrs; omega
            refine aw_zrun [6, 8] [25, 24, 23] draws (by decide +kernel) (by decide +kernel) ?_
            simp -implicitDefEqProofs
            repeat first | refine zcurL (by decide +kernel) ?_ | refine zcurH (by decide +kernel) ?_ | refine zcurL' (by decide +kernel) ?_ | refine zcurH' (by decide +kernel) ?_
            refine zl_acall (by simp) rfl rfl rfl (by kernel_rfl) rfl (ivalues_ok (rs.map vi) _) ?_
            simp -implicitDefEqProofs
            repeat first | refine zcurL (by decide +kernel) ?_ | refine zcurH (by decide +kernel) ?_ | refine zcurL' (by decide +kernel) ?_ | refine zcurH' (by decide +kernel) ?_
            refine zl_acall (by simp) rfl rfl rfl (by kernel_rfl) rfl (isortedV_ok (k := M + 1) (zs := rs) (by simp) hcr) ?_
            simp -implicitDefEqProofs
            repeat first | refine zcurL (by decide +kernel) ?_ | refine zcurH (by decide +kernel) ?_ | refine zcurL' (by decide +kernel) ?_ | refine zcurH' (by decide +kernel) ?_
            refine zl_acall (by simp) rfl rfl rfl (by kernel_rfl) rfl (icompactL_ok (b := M + 1 + 1) (l := rs) (by simp) hcr) ?_
            simp -implicitDefEqProofs
            repeat first | refine zcurL (by decide +kernel) ?_ | refine zcurH (by decide +kernel) ?_ | refine zcurL' (by decide +kernel) ?_ | refine zcurH' (by decide +kernel) ?_
            refine zl_put (by simp) (.inr rfl) rfl tmG (b := 0) rfl (es := esK slV (readsM (L.take i))) (by simp) rfl (xv := slV (csL rs)) rfl (put_esK slV .i64 _ a (csL rs)) ?_
            have hput : putK (readsM (L.take i)) a (csL rs) = readsM (L.take (i + 1)) := by
              rw [hrm, putK]
              have : ixK (readsM (L.take i)) a 0 = none := by simpa [hq] using hix
              rw [this]
            rw [hput]
            simp -implicitDefEqProofs
            refine aw_weak (τ := gSt (readsM (L.take (i + 1))) E [(M, [vi a, .vsl (rs.map vi)])] (M + 1 + 1 + 1)) (le_gSt (by simp) (by simp) (by simp) (fun k xs h => by
              obtain ⟨e, he, h1, h2⟩ := slE_mem h
              have := hEk.2.2 e he
              have h3 : ¬ k = M + 1 + 1 := by omega
              simp [h3, h]) (by simp)) ?_
            have hgot : gotK (readsM (L.take (i + 1))) a = some (csL rs) := by rw [← hput, gotK_put, if_pos rfl]
            clear hput hix hq
            obtain ⟨R1, hR1⟩ : ∃ R1, R1 = readsM (L.take (i + 1)) := ⟨_, rfl⟩
            rw [← hR1] at hgot ⊢
            obtain ⟨cs, hcs⟩ : ∃ cs, cs = csL rs := ⟨_, rfl⟩
            have hcl : cs.length ≤ 1000 := by
              have := compact_len (sortI rs)
              rw [sortI_len] at this
              simp at hrs
              rw [hcs]; unfold csL; omega
            have hcv : (cs.map vi).length = cs.length := List.length_map _
            rw [← hcs] at hgot
            repeat' first | refine aw_W [6, 8] @hgP trivial ?_ | refine aw_cond rfl (fun h => ?_) (fun h => ?_)
            refine yl_lookup rfl rfl tmG (b := 0) rfl (es := esK slV R1) (by simp) rfl (find_esK slV [] .i64 a _ 0) (x := zgot (gotK R1 a)) (zgot_some _ _) (zgot_none tz23 _ _) ?_
            rw [hgot]
            have hzs : zgot (some cs) = .vsl (cs.map vi) := rfl
            simp -implicitDefEqProofs [hzs]
            repeat' first | refine aw_W [6, 8] (And.intro @hgP @hcv) trivial ?_ | refine aw_cond rfl (fun h => ?_) (fun h => ?_)
            refine aw_loopW [4, 8, 33, 34, 35, 67, 68, 69] (fun q fr σ => NwI3 L i R1 a rs cs M q fr σ) cs.length ?_ ?_
            · refine ⟨gSt R1 E [(M, [vi a, .vsl (rs.map vi)])] (M + 1 + 1 + 1), le_gSt (by simp) (by simp) (by simp) (fun k xs h => by simpa using h) (by simp), 0, M + 1 + 1 + 1, E, by omega, by omega, ⟨hEk.1, hEk.2.1, fun e he => by have := hEk.2.2 e he; omega⟩, by simpa using hlen, by simpa using her, rfl, ?_⟩
              simp [gP]
            · rintro q3 fr σ ⟨j, N, E3, hj, hbN, hE3, hlen3, her3, rfl, rfl⟩
              simp -implicitDefEqProofs
              by_cases hltj : j < cs.length
              · have hltji : (j : Int) < cs.length := by omega
                obtain ⟨n, hn⟩ : ∃ n, cs[j] = n := ⟨_, rfl⟩
                have hng : cs[j]? = some n := by rw [List.getElem?_eq_getElem hltj, hn]
                have wj : IntKind.i64.wrap ((j : Int) + 1) = (j : Int) + 1 := wrap_id (by omega) (by omega)
                have hnx : (cs.take (j + 1)).foldl (fun M n => pushR M n a) (readM (L.take i)) = pushR (er E3) n a := by
                  rw [List.take_add_one, hng, Option.toList_some, List.foldl_append, ← her3]; rfl
                repeat' first | refine aw_N [6, 8] (And.intro @hltj (And.intro @hltji (And.intro @hn @hcv))) trivial ?_ | refine aw_cond rfl (fun h => ?_) (fun h => ?_)
                refine aw_zrun [6, 8] [] draws (by decide +kernel) (by decide +kernel) ?_
                simp -implicitDefEqProofs [hgP]
                repeat first | refine zcurL (by decide +kernel) ?_ | refine zcurH (by decide +kernel) ?_ | refine zcurL' (by decide +kernel) ?_ | refine zcurH' (by decide +kernel) ?_
                refine zl_lookup (by simp) rfl rfl tmG (b := 1) rfl (es := esK hE E3) (by simp) rfl (find_esK hE (0, []) .i64 n _ 0) (x := zgE (gotK E3 n)) (zgE_some _ _) (zgE_none tz23 _ _) rfl ?_
                cases hq : gotK E3 n with
                | none =>
                  have hz0 : zgE none = .p (.slice none 0 0) := rfl
                  simp -implicitDefEqProofs [hz0]
                  repeat first | refine zcurL (by decide +kernel) ?_ | refine zcurH (by decide +kernel) ?_ | refine zcurL' (by decide +kernel) ?_ | refine zcurH' (by decide +kernel) ?_
                  refine zl_appendN (by simp) rfl rfl (by simp) rfl rfl (by simp) te23 tet23 tz3 rfl (by simp) (by simp) (by simp) ?_
                  simp -implicitDefEqProofs
                  repeat first | refine zcurL (by decide +kernel) ?_ | refine zcurH (by decide +kernel) ?_ | refine zcurL' (by decide +kernel) ?_ | refine zcurH' (by decide +kernel) ?_
                  have hEn : okE E3 (N + 1) := ⟨hE3.1, hE3.2.1, fun e he => by have := hE3.2.2 e he; omega⟩
                  refine zl_put (by simp) (.inr rfl) rfl tmG (b := 1) rfl (es := esK hE E3) (by simp) rfl (xv := hE (N + 1, [a])) rfl (put_esK hE .i64 _ n (N + 1, [a])) ?_
                  simp -implicitDefEqProofs
                  repeat first | refine zcurL (by decide +kernel) ?_ | refine zcurH (by decide +kernel) ?_ | refine zcurL' (by decide +kernel) ?_ | refine zcurH' (by decide +kernel) ?_
                  repeat' first | refine aw_W [6, 8] @wj trivial ?_ | refine aw_cond rfl (fun h => ?_) (fun h => ?_)
                  refine ⟨q3 - 1, by omega, gSt R1 (putK E3 n (N + 1, [a])) [(M, [vi a, .vsl (rs.map vi)])] (N + 1 + 1), le_gSt (by simp) (by simp) (by simp) (fun i' xs h => ?_) (by simp), j + 1, N + 1 + 1, putK E3 n (N + 1, [a]), by omega, by omega, okE_put hEn n [a], fun e he => ?_, ?_, rfl, ?_⟩
                  · rcases slE_put hEn n [a] h with ⟨rfl, rfl⟩ | ⟨h1, h2, _⟩
                    · simp
                    · obtain ⟨e, he, h3, _⟩ := slE_mem h2
                      have := hE3.2.2 e he
                      have h4 : ¬ i' = N := by omega
                      have h5 : ¬ i' = N + 1 := by omega
                      simp [h4, h5, h2]
                  · rcases mem_putK he with rfl | he
                    · simp; omega
                    · have := hlen3 e he; omega
                  · rw [hnx, er_put]
                    unfold pushR
                    rw [gotK_er, hq]; rfl
                  · simp [gP]
                | some p =>
                  obtain ⟨k, l⟩ := p
                  have hz0 : zgE (some (k, l)) = .hsl k 0 l.length := rfl
                  simp -implicitDefEqProofs [hz0]
                  repeat first | refine zcurL (by decide +kernel) ?_ | refine zcurH (by decide +kernel) ?_ | refine zcurL' (by decide +kernel) ?_ | refine zcurH' (by decide +kernel) ?_
                  have hkm := gotK_get hq
                  have hks : slE E3 k = some (l.map vi) := slE_of hE3.1 hkm
                  have hkN : k < N := hE3.2.2 _ hkm
                  have hll := hlen3 _ hkm
                  simp only at hll
                  have hi1 : i < 1000 := by omega
                  refine zl_append (by simp) rfl rfl rfl (xs := l.map vi) (by simp [hks]) (by simp) rfl (by simp) te23 tet23 tz3 rfl (fun y hy => by obtain ⟨_, _, rfl⟩ := List.mem_map.1 hy; rfl) (by simp) ?_ ?_ ?_
                  · simp; omega
                  · simp; omega
                  simp -implicitDefEqProofs
                  repeat first | refine zcurL (by decide +kernel) ?_ | refine zcurH (by decide +kernel) ?_ | refine zcurL' (by decide +kernel) ?_ | refine zcurH' (by decide +kernel) ?_
                  refine zl_put (by simp) (.inr rfl) rfl tmG (b := 1) rfl (es := esK hE E3) (by simp) rfl (xv := hE (N, l ++ [a])) (by simp [hE]) (put_esK hE .i64 _ n (N, l ++ [a])) ?_
                  simp -implicitDefEqProofs
                  repeat first | refine zcurL (by decide +kernel) ?_ | refine zcurH (by decide +kernel) ?_ | refine zcurL' (by decide +kernel) ?_ | refine zcurH' (by decide +kernel) ?_
                  repeat' first | refine aw_W [6, 8] @wj trivial ?_ | refine aw_cond rfl (fun h => ?_) (fun h => ?_)
                  refine ⟨q3 - 1, by omega, gSt R1 (putK E3 n (N, l ++ [a])) [(M, [vi a, .vsl (rs.map vi)])] (N + 1), le_gSt (by simp) (by simp) (by simp) (fun i' xs h => ?_) (by simp), j + 1, N + 1, putK E3 n (N, l ++ [a]), by omega, by omega, okE_put hE3 n (l ++ [a]), fun e he => ?_, ?_, rfl, ?_⟩
                  · rcases slE_put hE3 n (l ++ [a]) h with ⟨rfl, rfl⟩ | ⟨h1, h2, h3⟩
                    · simp [List.take_of_length_le]
                    · have h4 : ¬ i' = N := by omega
                      have h5 : ¬ i' = k := h3 k l hq
                      simp [h4, h5, h2]
                  · rcases mem_putK he with rfl | he
                    · simp; omega
                    · have := hlen3 e he; omega
                  · rw [hnx, er_put]
                    unfold pushR
                    rw [gotK_er, hq]; rfl
                  · simp [gP]
              · have hltji : ¬ (j : Int) < cs.length := by omega
                repeat' first | refine aw_W [6, 8] (And.intro @hltji @wi) trivial ?_ | refine aw_cond rfl (fun h => ?_) (fun h => ?_)
                have hjc : j = cs.length := by omega
                refine ⟨q - 1, by omega, gSt R1 E3 [] N, le_gSt (by simp) (by simp) (by simp) (fun i' xs h => by simpa using h) (by simp), i + 1, N, E3, by omega, by omega, hE3, fun e he => ?_, ?_, ?_, ?_, by simp [gP]⟩
                · have := hlen3 e he; omega
                · rw [her3, hjc, List.take_of_length_le (Nat.le_refl _), hcs]
                  unfold readM
                  rw [List.take_add_one, hp, Option.toList_some, List.foldl_append]; rfl
                · rw [List.take_add_one, hp, Option.toList_some, List.map_append, List.nodup_append]
                  refine ⟨hnd, by simp, ?_⟩
                  intro x hx y hy
                  simp at hy
                  subst hy
                  exact fun e => hni (e ▸ hx)
                · rw [hR1]
        · have hlti : ¬ (i : Int) < L.length := by omega
          rw [List.take_of_length_le (by omega)] at her hnd ⊢
          have hcl := clo_gP (R := readsM L) hEk
          have hnr : newR L = 0 := by rw [newR, hok, if_neg (by simp), if_pos hnd]
          have hgV : AV.vel [.agg [mapV (readsM L), mapV (er E)]] 0 0 = gV L := by rw [her]; rfl
          rw [hgV] at hcl
          refine aw_bare 5 ?_
          simp -implicitDefEqProofs [hcl, cloD_v]
          repeat' first | refine aw_W [6, 8] (And.intro @hlti @hvl) trivial ?_ | refine aw_cond rfl (fun h => ?_) (fun h => ?_)
          simp [tupOf, hnr]
end Go.AL
/-! graph: the plain law of sets that rise; who reads whom. -/
namespace Go.AL
open Go.Proofs Go.Maps Go.WideElems
set_option linter.unusedSimpArgs false
set_option linter.unusedVariables false
theorem sortI_perm (l : List Int) : (sortI l).Perm l := List.mergeSort_perm _ _
theorem sortI_mem (l : List Int) (x : Int) : x ∈ sortI l ↔ x ∈ l := (sortI_perm l).mem_iff
theorem sortI_le (l : List Int) : (sortI l).Pairwise (· ≤ ·) := by
  have := List.pairwise_mergeSort (le := leI) (fun a b c h1 h2 => by simp [leI] at *; omega) (fun a b => by simp [leI]; omega) l
  exact this.imp fun h => by simpa [leI] using h
theorem sortI_lt {l : List Int} (h : l.Nodup) : (sortI l).Pairwise (· < ·) := by
  have h1 := sortI_le l
  have h2 : (sortI l).Nodup := (sortI_perm l).nodup_iff.2 h
  exact (List.Pairwise.and h1 h2).imp fun ⟨a, b⟩ => by omega
theorem lt_nodup {l : List Int} (h : l.Pairwise (· < ·)) : l.Nodup := h.imp fun h => by omega
/-- Two that rise, of the same members. -/
theorem rise_ext {l l' : List Int} (h : l.Pairwise (· < ·)) (h' : l'.Pairwise (· < ·)) (hm : ∀ x, x ∈ l ↔ x ∈ l') : l = l' :=
  List.Perm.eq_of_pairwise (le := (· < ·)) (fun a b _ _ h1 h2 => by omega) h h' ((List.perm_ext_iff_of_nodup (lt_nodup h) (lt_nodup h')).2 hm)
theorem compact_spec (zs : List Int) (hs : zs.Pairwise (· ≤ ·)) : ∀ m, m ≤ zs.length → (Lib.compactUpTo zs.toArray m).Pairwise (· < ·) ∧ (∀ x, x ∈ Lib.compactUpTo zs.toArray m ↔ x ∈ zs.take m) ∧ ∀ (h : 0 < m) (h2 : m - 1 < zs.length), ∀ x ∈ Lib.compactUpTo zs.toArray m, x ≤ zs[m - 1]
  | 0, _ => ⟨by simp [Lib.compactUpTo], by simp [Lib.compactUpTo], fun h => by omega⟩
  | m + 1, hm => by
    obtain ⟨h1, h2, h3⟩ := compact_spec zs hs m (by omega)
    have hlt : m < zs.length := by omega
    have hg : zs.toArray[m]! = zs[m] := by rw [getElem!_pos _ _ (by simpa using hlt)]; simp
    have htk : zs.take (m + 1) = zs.take m ++ [zs[m]] := by rw [List.take_add_one, List.getElem?_eq_getElem hlt]; rfl
    have hle : ∀ x ∈ Lib.compactUpTo zs.toArray m, x ≤ zs[m] := fun x hx => by
      rw [h2] at hx
      obtain ⟨k, hk, rfl⟩ := List.getElem_of_mem hx
      simp at hk
      rw [List.getElem_take]
      exact List.pairwise_iff_getElem.1 hs k m (by omega) hlt (by omega)
    rw [Lib.compactUpTo_succ, hg]
    cases hk : Lib.keeps zs.toArray m with
    | true =>
      simp only [if_true]
      refine ⟨?_, fun x => by rw [htk, List.mem_append, List.mem_append, h2], fun _ _ x hx => ?_⟩
      · rw [List.pairwise_append]
        refine ⟨h1, by simp, fun x hx y hy => ?_⟩
        obtain rfl := List.mem_singleton.1 hy
        unfold Lib.keeps at hk
        simp only [decide_eq_true_eq] at hk
        rcases hk with rfl | hk
        · rw [h2] at hx; simp at hx
        · by_cases hm0 : m = 0
          · subst hm0; rw [h2] at hx; simp at hx
          · have hm1 : m - 1 < zs.length := by omega
            have hg1 : zs.toArray[m - 1]! = zs[m - 1] := by rw [getElem!_pos _ _ (by simpa using hm1)]; simp
            rw [hg, hg1] at hk
            have h4 := h3 (by omega) hm1 x hx
            have h5 := List.pairwise_iff_getElem.1 hs (m - 1) m hm1 hlt (by omega)
            omega
      · simp only [Nat.add_sub_cancel]
        rcases List.mem_append.1 hx with hx | hx
        · exact hle x hx
        · obtain rfl := List.mem_singleton.1 hx; exact Int.le_refl _
    | false =>
      simp only [Bool.false_eq_true, if_false, List.append_nil]
      unfold Lib.keeps at hk
      simp only [decide_eq_false_iff_not, not_or, Classical.not_not] at hk
      have hm1 : m - 1 < zs.length := by omega
      have hg1 : zs.toArray[m - 1]! = zs[m - 1] := by rw [getElem!_pos _ _ (by simpa using hm1)]; simp
      rw [hg, hg1] at hk
      refine ⟨h1, fun x => ?_, fun _ _ x hx => hle x hx⟩
      rw [htk, h2]
      simp only [List.mem_append, List.mem_singleton]
      refine ⟨.inl, fun h => h.elim id fun e => ?_⟩
      subst e
      rw [hk.2]
      exact List.mem_iff_getElem.2 ⟨m - 1, by simp; omega, by simp⟩
theorem csL_lt (l : List Int) : (csL l).Pairwise (· < ·) := (compact_spec (sortI l) (sortI_le l) _ (Nat.le_refl _)).1
theorem csL_mem (l : List Int) (x : Int) : x ∈ csL l ↔ x ∈ l := by
  rw [← sortI_mem l]
  have := (compact_spec (sortI l) (sortI_le l) _ (Nat.le_refl _)).2.1 x
  rw [List.take_of_length_le (Nat.le_refl _)] at this
  exact this
theorem csL_len (l : List Int) : (csL l).length ≤ l.length := by
  have := compact_len (sortI l)
  rw [sortI_len] at this
  exact this
/-! ### numbers of a range -/
/-! ### who hangs on whom -/
inductive Hg (L : List Lnk) (on : List Int) : Int → Prop where
  | base (p : Lnk) (hp : p ∈ L) (n : Int) (hn : n ∈ p.2) (h : n ∈ on) : Hg L on p.1
  | step (p : Lnk) (hp : p ∈ L) (n : Int) (hn : n ∈ p.2) (h : Hg L on n) : Hg L on p.1
theorem Hg.node {L : List Lnk} {on : List Int} {x : Int} (h : Hg L on x) : x ∈ L.map Prod.fst := by
  cases h with
  | base p hp n hn h => exact List.mem_map.2 ⟨p, hp, rfl⟩
  | step p hp n hn h => exact List.mem_map.2 ⟨p, hp, rfl⟩
open Classical in
noncomputable def hangL (L : List Lnk) (on : List Int) : List Int := sortI ((L.map Prod.fst).filter fun x => decide (Hg L on x))
theorem hangL_mem (L : List Lnk) (on : List Int) (x : Int) : x ∈ hangL L on ↔ Hg L on x := by
  unfold hangL
  rw [sortI_mem]
  simp only [List.mem_filter, decide_eq_true_eq]
  exact ⟨fun h => h.2, fun h => ⟨h.node, h⟩⟩
theorem hangL_lt {L : List Lnk} (hn : (L.map Prod.fst).Nodup) (on : List Int) : (hangL L on).Pairwise (· < ·) := sortI_lt (hn.filter _)
theorem hg_of {L : List Lnk} {on S : List Int} (hc : ∀ p ∈ L, ∀ n ∈ p.2, n ∈ on ∨ n ∈ S → p.1 ∈ S) {x : Int} (h : Hg L on x) : x ∈ S := by
  induction h with
  | base p hp n hn h => exact hc p hp n hn (.inl h)
  | step p hp n hn h ih => exact hc p hp n hn (.inr ih)
/-- What is found, sound and whole. -/
theorem hangL_eq {L : List Lnk} (hn : (L.map Prod.fst).Nodup) {on S : List Int} (hs : ∀ x ∈ S, Hg L on x) (hc : ∀ p ∈ L, ∀ n ∈ p.2, n ∈ on ∨ n ∈ S → p.1 ∈ S) {l : List Int} (hl : l.Pairwise (· < ·)) (hm : ∀ x, x ∈ l ↔ x ∈ S) : l = hangL L on :=
  rise_ext hl (hangL_lt hn on) fun x => by
    rw [hm, hangL_mem]
    exact ⟨hs x, hg_of hc⟩
/-! ### those that read one -/
def rdL (L : List Lnk) (n : Int) : List Int := (L.filter fun p => decide (n ∈ p.2)).map Prod.fst
theorem mem_rdL {L : List Lnk} {n x : Int} : x ∈ rdL L n ↔ ∃ p ∈ L, n ∈ p.2 ∧ p.1 = x := by
  unfold rdL
  simp only [List.mem_map, List.mem_filter, decide_eq_true_eq]
  exact ⟨fun ⟨p, ⟨h1, h2⟩, h3⟩ => ⟨p, h1, h2, h3⟩, fun ⟨p, h1, h2, h3⟩ => ⟨p, ⟨h1, h2⟩, h3⟩⟩
theorem got_push (a n : Int) : ∀ (cs : List Int) (M : List (Int × List Int)), cs.Nodup → (gotK (cs.foldl (fun M n => pushR M n a) M) n).getD [] = (gotK M n).getD [] ++ if n ∈ cs then [a] else []
  | [], M, _ => by simp
  | c :: cs, M, h => by
    rw [List.foldl_cons, got_push a n cs _ (List.nodup_cons.1 h).2]
    unfold pushR
    rw [gotK_put]
    by_cases e : c = n
    · subst e
      have hn := (List.nodup_cons.1 h).1
      simp [hn]
    · have e' : ¬ n = c := fun h => e h.symm
      simp [e, e']
theorem got_readM (L : List Lnk) (n : Int) : (gotK (readM L) n).getD [] = rdL L n := by
  have key : ∀ (L : List Lnk) (M : List (Int × List Int)), (gotK (L.foldl linkR M) n).getD [] = (gotK M n).getD [] ++ rdL L n := by
    intro L
    induction L with
    | nil => intro M; simp [rdL]
    | cons p L ih =>
      intro M
      rw [List.foldl_cons, ih]
      unfold linkR
      rw [got_push p.1 n _ _ (lt_nodup (csL_lt p.2))]
      simp only [csL_mem]
      unfold rdL
      by_cases h : n ∈ p.2
      · simp [h]
      · simp [h]
  have := key L []
  rw [show gotK ([] : List (Int × List Int)) n = none from rfl] at this
  exact this
theorem got_readsM {L : List Lnk} (hn : (L.map Prod.fst).Nodup) {p : Lnk} (hp : p ∈ L) : gotK (readsM L) p.1 = some (csL p.2) := by
  induction L with
  | nil => cases hp
  | cons q L ih =>
    simp only [List.map_cons, List.nodup_cons] at hn
    rw [readsM, List.map_cons, gotK]
    rcases List.mem_cons.1 hp with rfl | hp
    · simp
    · have : ¬ q.1 = p.1 := fun e => hn.1 (List.mem_map.2 ⟨p, hp, e.symm⟩)
      rw [if_neg this]
      exact ih hn.2 hp
end Go.AL
/-! Passes by goto. -/
namespace Go.AL
set_option linter.unusedVariables false
set_option linter.unusedSimpArgs false
variable {P : Program} {σ : ASt} {D : List Deferred} {Q : Exit → List AV → ASt → Prop} {fr : List AV}
theorem jumpA_mono {l : Nat} {J J' : List AV → ASt → Prop} (h : ∀ fr σ, J fr σ → J' fr σ) (e : Exit) (fr : List AV) (σ : ASt) (hj : jumpA l J Q e fr σ) : jumpA l J' Q e fr σ := by
  cases e with
  | goto l' => exact ⟨hj.1, h _ _ hj.2⟩
  | _ => exact hj
/-- Behind a label, again and again, less each time. -/
theorem aw_scope_loop {c B : Code} (l : Nat) (ks : List Nat) (I : Nat → List AV → ASt → Prop) (hf : findLabel c l = some (.seq .skip B))
    (pass : ∀ n fr σ, I n fr σ → AW P D B (jumpA l (fun fr' σ' => ∃ m, m < n ∧ ∃ τ, ASt.Le τ σ' ∧ I m (keep ks 0 fr') τ) Q) fr σ)
    (first : (∀ n fr σ, (∃ τ, ASt.Le τ σ ∧ I n (keep ks 0 fr) τ) → AW P D B (jumpA l (fun fr' σ' => ∃ n, ∃ τ, ASt.Le τ σ' ∧ I n (keep ks 0 fr') τ) Q) fr σ) →
      AW P D c (jumpA l (fun fr' σ' => ∃ n, ∃ τ, ASt.Le τ σ' ∧ I n (keep ks 0 fr') τ) Q) fr σ) : AW P D (.scope c) Q fr σ := by
  have key : ∀ n fr σ, (∃ τ, ASt.Le τ σ ∧ I n (keep ks 0 fr) τ) → AW P D B (jumpA l (fun fr' σ' => ∃ m, m < n ∧ ∃ τ, ASt.Le τ σ' ∧ I m (keep ks 0 fr') τ) Q) fr σ :=
    fun n fr σ ⟨τ, hl, hI⟩ => aw_weak hl (aw_keep ks (pass n _ τ hI))
  refine aw_scope_jumps l (fun n fr σ => ∃ τ, ASt.Le τ σ ∧ I n (keep ks 0 fr) τ) hf (first fun n fr σ h => ?_) fun n fr σ h => aw_seq (aw_skip (key n fr σ h))
  exact AW.mono (jumpA_mono fun fr σ ⟨m, _, h⟩ => ⟨m, h⟩) (key n fr σ h)
theorem aw_nilV {c : Code} {i : Nat} (hi : fr[i]? = some (.p (.slice none 0 0))) (h : AW P D c Q (fr.set i (.vsl [])) σ) : AW P D c Q fr σ := by
  intro r iR G a w hs
  refine h r iR G a w ⟨⟨by simpa using hs.tmps.1, fun j c v hc hv => ?_⟩, hs.defers, hs.w⟩
  rw [List.getElem?_set] at hc
  split at hc
  · rename_i e
    subst e
    split at hc
    · obtain rfl := Option.some.inj hc
      have := hs.tmps.2 i _ v hi hv
      cases this
      exact .vnil _ _
    · cases hc
  · exact hs.tmps.2 j c v hc hv
end Go.AL
/-! Contracts: graph's Nodes, Hang. -/
namespace Go.AL
open Go.Proofs
set_option linter.unusedSimpArgs false
set_option linter.unusedVariables false
def nodesL (L : List Lnk) : List Int := sortI (L.map Prod.fst)
/-- Links of which a graph is made. -/
structure GOk (L : List Lnk) : Prop where
  len : L.length ≤ 1000
  rlen : ∀ p ∈ L, p.2.length ≤ 1000
  nd : (L.map Prod.fst).Nodup
  at_ : ∀ p ∈ L, 0 ≤ p.1 ∧ p.1 < 1024
theorem wf64 {z : Int} (h : 0 ≤ z ∧ z < 1024) : (Lit.int .i64 z).wf = true := by
  simp [Lit.wf, IntKind.min, IntKind.max, IntKind.signed, IntKind.bits]; omega
theorem mapV_keys (L : List Lnk) : mapV (readsM L) = .vmp ((L.map Prod.fst).map fun s => .p (.int .i64 s)) ((esK slV (readsM L)).map Prod.snd) := by
  unfold mapV
  rw [esK_key]
  simp only [readsM, List.map_map]; rfl
set_option maxHeartbeats 8000000 in
set_option maxRecDepth 100000 in
theorem gnodesA_ok {L : List Lnk} (hL : GOk L) (σ : ASt) : ACall Try.prog 11 [gV L] σ fun r τ => r = .hsl (σ.next + 1) 0 L.length ∧ τ = (σ.addBx [mapV (readsM L)]).addSl ((nodesL L).map vi) := by
  refine acall_of Try.func11 Try.ntmps11 rfl ?_
  simp only [List.length_cons, List.length_nil, List.cons_append, List.nil_append, List.replicate]
  have hg : gV L = .vel [.agg [mapV (readsM L), mapV (readM L)]] 0 0 := rfl
  rw [hg, mapV_keys]
  obtain ⟨kv, hkv⟩ : ∃ kv, kv = (L.map Prod.fst).map fun s => (.p (.int .i64 s) : AV) := ⟨_, rfl⟩
  obtain ⟨xv, hxv⟩ : ∃ xv, xv = (esK slV (readsM L)).map Prod.snd := ⟨_, rfl⟩
  rw [← hkv, ← hxv]
  repeat' first | refine aw_N [] trivial trivial ?_ | refine aw_cond rfl (fun h => ?_) (fun h => ?_)
  refine awl_cons rfl (opq_call rfl rfl rfl ((ikeysFA_ok _ _ _).mono fun r τ ⟨e1, e2⟩ => ?_))
  subst e1 e2
  refine awl_run' [] ?_
  simp -implicitDefEqProofs
  have hk := acall_sortedN ikeysA_ok Try.underlying3 (σ := σ.addBx [.vmp kv xv]) (k := σ.next) (c := .vmp kv xv) (ns := L.map Prod.fst) (by simp) (.inr ⟨xv, by rw [hkv]⟩) hL.nd (fun s hs => by
    obtain ⟨p, hp, rfl⟩ := List.mem_map.1 hs
    exact wf64 (hL.at_ p hp)) (by have := hL.len; simp; omega)
  rw [List.length_map] at hk
  refine awl_cons rfl (opq_call rfl rfl rfl (hk.mono fun r τ ⟨e1, e2⟩ => ?_))
  subst e1 e2
  refine awl_run' [] ?_
  simp -implicitDefEqProofs
  repeat' first | refine aw_N [] trivial trivial ?_ | refine aw_cond rfl (fun h => ?_) (fun h => ?_)
  exact ⟨rfl, rfl⟩
theorem nodesL_len (L : List Lnk) : (nodesL L).length = L.length := by rw [nodesL, sortI_len, List.length_map]
theorem gnodes_ok {L : List Lnk} (hL : GOk L) : APure Try.prog 11 [gV L] (.vsl ((nodesL L).map vi)) := by
  refine ⟨ACall.fin ((gnodesA_ok hL σ0).mono fun r τ ⟨e1, e2⟩ => ?_)⟩
  subst e1 e2
  refine Fin.close (Fin.of ?_)
  have := nodesL_len L
  simp [σ0, this, List.take_of_length_le]
section
variable {σ : ASt} {D : List Deferred} {Q : Exit → List AV → ASt → Prop} {fr : List AV} {ops : Array Oper} {o : Oper} {rest : List Oper}
theorem awl_lookupX (mu : List Nat) {t : TypeId} {m k : Operand} {ok : Bool} (ho : o.op = .lookup t m k ok) (hw : awanted ops o fr = some true) {d : TypeDesc} {el : TypeId} (ht : tmap Try.prog t = some (d, el)) {es : List (AV × AV)} (hm : aev fr m = .vmp (es.map Prod.fst) (es.map Prod.snd)) {kv : Value} (hk : aev fr k = .p kv)
    {r : Option (Nat × AV)} (hf : amfind d (.p kv) es 0 = some r) {x : AV} (h1 : ∀ j y, r = some (j, y) → x = y) (h2 : r = none → tzero Try.prog el = some x)
    (hk2 : Shut (ARun Try.prog D ops Q mu rest (aput fr o.dst (if ok = true then .tup [x, .p (.bool r.isSome)] else x)) σ)) : AWL Try.prog D ops Q (o :: rest) fr σ := by
  cases r with
  | none => exact awl_lookupB mu ho hw ht hm hk hf (h2 rfl) hk2
  | some q => obtain ⟨j, y⟩ := q; exact awl_lookupB mu ho hw ht hm hk hf (h1 j y rfl) hk2
theorem awl_lookG {m k : Operand} (mu : List Nat) (ho : o.op = .lookup 44 m k false) (hw : awanted ops o fr = some true) {M : List (Int × List Int)} {n : Int} (hm : aev fr m = mapV M) (hk : aev fr k = vi n)
    (hk2 : Shut (ARun Try.prog D ops Q mu rest (aput fr o.dst (zgot (gotK M n))) σ)) : AWL Try.prog D ops Q (o :: rest) fr σ := by
  exact awl_lookupX mu ho hw tmG (es := esK slV M) hm hk (find_esK slV [] .i64 n M 0) (x := zgot (gotK M n)) (zgot_some M n) (zgot_none (P := Try.prog) (el := 23) tz23 M n) hk2
theorem awl_lookI {m k : Operand} (mu : List Nat) (ho : o.op = .lookup 61 m k false) (hw : awanted ops o fr = some true) {b : Nat} {M : List (Int × Int)} {n : Int} (hm : aev fr m = .map b) (hb : σ.mp b = some (esK vi M)) (hk : aev fr k = vi n)
    (hk2 : Shut (ARun Try.prog D ops Q mu rest (aput fr o.dst (vi ((gotK M n).getD 0))) σ)) : AWL Try.prog D ops Q (o :: rest) fr σ := by
  refine awl_lookupW mu ho hw tmI hm hb hk (find_esK vi 0 .i64 n M 0) (x := vi ((gotK M n).getD 0)) (fun j y e => ?_) (fun e => ?_) hk2
  · obtain ⟨_, _, e⟩ := Option.map_eq_some_iff.1 e
    cases e; rfl
  · rw [ixK_none (Option.map_eq_none_iff.1 e)]; exact tz3
theorem awl_putI {m k x : Operand} (mu : List Nat) (ho : o.op = .mapUpdate 61 m k x) (hw : awanted ops o fr = some true) {b : Nat} {M : List (Int × Int)} {n v : Int} (hm : aev fr m = .map b) (hb : σ.mp b = some (esK vi M)) (hk : aev fr k = vi n) (hx : aev fr x = vi v)
    (hk2 : Shut (ARun Try.prog D ops Q mu rest (aput fr o.dst (.p undef)) { σ with mp := upd σ.mp b (some (esK vi (putK M n v))) })) : AWL Try.prog D ops Q (o :: rest) fr σ :=
  awl_mapPut mu (.inr ho) hw tmI hm hb hk (by rw [hx]; exact put_esK vi .i64 M n v) hk2
end
/-! ### Hang -/
def hgS (S : List Int) (k : Nat) (us : List Int) (m : Nat) : ASt := ⟨fun _ => none, fun i => if i = 0 then some (esK vi (S.map fun x => (x, (1 : Int)))) else none, fun i => if i = k then some (us.map vi) else none, m⟩
section
variable (S : List Int) (k : Nat) (us : List Int) (m i : Nat)
@[simp] theorem hgS_bx : (hgS S k us m).bx i = none := rfl
@[simp] theorem hgS_mp : (hgS S k us m).mp i = if i = 0 then some (esK vi (S.map fun x => (x, (1 : Int)))) else none := rfl
@[simp] theorem hgS_sl : (hgS S k us m).sl i = if i = k then some (us.map vi) else none := rfl
@[simp] theorem hgS_next : (hgS S k us m).next = m := rfl
end
theorem le_hgS {S : List Int} {k : Nat} {us : List Int} {m : Nat} {σ : ASt} (h1 : σ.mp 0 = some (esK vi (S.map fun x => (x, (1 : Int))))) (h2 : σ.sl k = some (us.map vi)) (h3 : σ.next ≤ m) : (hgS S k us m).Le σ where
  bx := fun i c e => by cases e
  mp := fun i c e => by
    simp only [hgS_mp] at e
    split at e
    · rename_i hi; subst hi; rw [h1]; exact e
    · cases e
  sl := fun i c e => by
    simp only [hgS_sl] at e
    split at e
    · rename_i hi; subst hi; rw [h2]; exact e
    · cases e
  next := h3
theorem got_ones (S : List Int) (x : Int) : gotK (S.map fun x => (x, (1 : Int))) x = if x ∈ S then some 1 else none := by
  induction S with
  | nil => rfl
  | cons a S ih =>
    simp only [List.map_cons, gotK, ih, List.mem_cons]
    by_cases e : a = x
    · subst e; simp
    · have : ¬ x = a := fun h => e h.symm
      simp [e, this]
theorem put_ones {S : List Int} {x : Int} (h : x ∉ S) : putK (S.map fun x => (x, (1 : Int))) x 1 = (S ++ [x]).map fun x => (x, (1 : Int)) := by
  unfold putK
  have : ixK (S.map fun x => (x, (1 : Int))) x 0 = none := by
    have h1 := ixK_some (S.map fun x => (x, (1 : Int))) x
    rw [got_ones, if_neg h] at h1
    simpa using h1
  rw [this]; simp
/-- Between two passes: seen, and to do. -/
structure HgJ (L : List Lnk) (on S todo : List Int) : Prop where
  nd : S.Nodup
  sound : ∀ x ∈ S, Hg L on x
  from_ : ∀ x ∈ todo, x ∈ on ∨ x ∈ S
  whole : ∀ p ∈ L, ∀ n ∈ p.2, n ∈ on ∨ n ∈ S → p.1 ∈ S ∨ n ∈ todo
def HgI (L : List Lnk) (on : List Int) (q : Nat) (fr : List AV) (σ : ASt) : Prop := ∃ (S us : List Int) (off k m : Nat), off ≤ us.length ∧ us.length - off + (L.length - S.length) = q ∧ q ≤ on.length + L.length ∧ us.length ≤ on.length + L.length ∧ k < m ∧ HgJ L on S (us.drop off) ∧ σ = hgS S k us m ∧ fr = frm 48 [(0, gV L), (5, .map 0), (6, .hsl k off (us.length - off))]
/-- Within one, behind j of those that read n. -/
structure HgJ3 (L : List Lnk) (on S todo : List Int) (n : Int) (j : Nat) : Prop where
  nd : S.Nodup
  sound : ∀ x ∈ S, Hg L on x
  from_ : ∀ x ∈ todo, x ∈ on ∨ x ∈ S
  src : n ∈ on ∨ n ∈ S
  whole : ∀ p ∈ L, ∀ n' ∈ p.2, n' ∈ on ∨ n' ∈ S → p.1 ∈ S ∨ n' ∈ todo ∨ (n' = n ∧ p.1 ∉ (rdL L n).take j)
def HgI3 (L : List Lnk) (on : List Int) (q : Nat) (n : Int) (q3 : Nat) (fr : List AV) (σ : ASt) : Prop := ∃ (S us : List Int) (off k m j : Nat), j + q3 = (rdL L n).length ∧ off ≤ us.length ∧ us.length - off + (L.length - S.length) < q ∧ us.length ≤ on.length + L.length ∧ k < m ∧ HgJ3 L on S (us.drop off) n j ∧ σ = hgS S k us m ∧ fr = frm 48 [(0, gV L), (5, .map 0), (6, .hsl k off (us.length - off)), (31, .vsl ((rdL L n).map vi)), (32, vi ((rdL L n).length : Nat)), (33, vi (j : Nat))]
theorem HgJ.pop {L : List Lnk} {on S : List Int} {us : List Int} {off : Nat} {n : Int} (h : HgJ L on S (us.drop off)) (hn : us[off]? = some n) : HgJ3 L on S (us.drop (off + 1)) n 0 := by
  have hlt : off < us.length := (List.getElem?_eq_some_iff.1 hn).1
  have hd : us.drop off = n :: us.drop (off + 1) := by
    rw [List.drop_eq_getElem_cons hlt]
    congr 1
    rw [List.getElem?_eq_getElem hlt] at hn
    exact Option.some.inj hn
  rw [hd] at h
  refine ⟨h.nd, h.sound, fun x hx => h.from_ x (List.mem_cons_of_mem _ hx), h.from_ n List.mem_cons_self, fun p hp n' hn' hs => ?_⟩
  rcases h.whole p hp n' hn' hs with h1 | h1
  · exact .inl h1
  · rcases List.mem_cons.1 h1 with rfl | h1
    · exact .inr (.inr ⟨rfl, by simp⟩)
    · exact .inr (.inl h1)
theorem HgJ3.seen {L : List Lnk} {on S todo : List Int} {n x : Int} {j : Nat} (h : HgJ3 L on S todo n j) (hx : (rdL L n)[j]? = some x) (hm : x ∈ S) : HgJ3 L on S todo n (j + 1) := by
  refine ⟨h.nd, h.sound, h.from_, h.src, fun p hp n' hn' hs => ?_⟩
  rcases h.whole p hp n' hn' hs with h1 | h1 | ⟨h1, h2⟩
  · exact .inl h1
  · exact .inr (.inl h1)
  · by_cases e : p.1 = x
    · exact .inl (e ▸ hm)
    · refine .inr (.inr ⟨h1, fun hc => ?_⟩)
      rw [List.take_add_one, hx, Option.toList_some, List.mem_append, List.mem_singleton] at hc
      exact hc.elim h2 e
theorem HgJ3.new {L : List Lnk} {on S todo : List Int} {n x : Int} {j : Nat} (h : HgJ3 L on S todo n j) (hx : (rdL L n)[j]? = some x) (hm : x ∉ S) : HgJ3 L on (S ++ [x]) (todo ++ [x]) n (j + 1) := by
  obtain ⟨p0, hp0, hn0, rfl⟩ := mem_rdL.1 (List.mem_of_getElem? hx)
  refine ⟨?_, fun y hy => ?_, fun y hy => ?_, ?_, fun p hp n' hn' hs => ?_⟩
  · rw [List.nodup_append]
    refine ⟨h.nd, by simp, fun a ha b hb => ?_⟩
    obtain rfl := List.mem_singleton.1 hb
    exact fun e => hm (e ▸ ha)
  · rcases List.mem_append.1 hy with hy | hy
    · exact h.sound y hy
    · obtain rfl := List.mem_singleton.1 hy
      rcases h.src with h1 | h1
      · exact .base p0 hp0 n hn0 h1
      · exact .step p0 hp0 n hn0 (h.sound n h1)
  · rcases List.mem_append.1 hy with hy | hy
    · exact (h.from_ y hy).imp id (List.mem_append_left _)
    · exact .inr (List.mem_append_right _ hy)
  · exact h.src.imp id (List.mem_append_left _)
  · by_cases e : n' = p0.1
    · exact .inr (.inl (by rw [e]; simp))
    · have hs' : n' ∈ on ∨ n' ∈ S := hs.imp id fun h1 => (List.mem_append.1 h1).elim id fun h2 => absurd (List.mem_singleton.1 h2) e
      rcases h.whole p hp n' hn' hs' with h1 | h1 | ⟨h1, h2⟩
      · exact .inl (List.mem_append_left _ h1)
      · exact .inr (.inl (List.mem_append_left _ h1))
      · by_cases e2 : p.1 = p0.1
        · exact .inl (by rw [e2]; simp)
        · refine .inr (.inr ⟨h1, fun hc => ?_⟩)
          rw [List.take_add_one, hx, Option.toList_some, List.mem_append, List.mem_singleton] at hc
          exact hc.elim h2 e2
theorem HgJ3.done {L : List Lnk} {on S todo : List Int} {n : Int} {j : Nat} (h : HgJ3 L on S todo n j) (hj : (rdL L n).length ≤ j) : HgJ L on S todo := by
  refine ⟨h.nd, h.sound, h.from_, fun p hp n' hn' hs => ?_⟩
  rcases h.whole p hp n' hn' hs with h1 | h1 | ⟨h1, h2⟩
  · exact .inl h1
  · exact .inr h1
  · rw [List.take_of_length_le hj] at h2
    subst h1
    exact absurd (mem_rdL.2 ⟨p, hp, hn', rfl⟩) h2
theorem keys_len {L : List Lnk} {S : List Int} (hn : S.Nodup) (hs : ∀ x ∈ S, x ∈ L.map Prod.fst) : S.length ≤ L.length := by
  have key : ∀ (S l : List Int), S.Nodup → (∀ x ∈ S, x ∈ l) → S.length ≤ l.length := by
    intro S
    induction S with
    | nil => intro l _ _; exact Nat.zero_le _
    | cons x S ih =>
      intro l hn hs
      have hx := hs x List.mem_cons_self
      obtain ⟨h1, h2⟩ := List.nodup_cons.1 hn
      have := ih (l.erase x) h2 fun y hy => (List.mem_erase_of_ne (fun e => h1 (by rw [← e]; exact hy))).2 (hs y (List.mem_cons_of_mem _ hy))
      rw [List.length_erase_of_mem hx] at this
      have hl : 0 < l.length := List.length_pos_of_mem hx
      simp; omega
  have := key S _ hn hs
  simpa using this
theorem rdL_len (L : List Lnk) (n : Int) : (rdL L n).length ≤ L.length := by
  unfold rdL
  rw [List.length_map]
  exact List.length_filter_le _ _
set_option maxHeartbeats 8000000 in
set_option maxRecDepth 100000 in
theorem ghang_ok {L : List Lnk} (hL : GOk L) (on : List Int) (hon : on.length ≤ 100000) : APure Try.prog 17 [gV L, .vsl (on.map vi)] (.vsl ((hangL L on).map vi)) := by
  have hg : gV L = .vel [.agg [mapV (readsM L), mapV (readM L)]] 0 0 := rfl
  refine apure_in Try.func17 Try.ntmps17 rfl ?_
  repeat' first | refine aw_N [] trivial trivial ?_ | refine aw_cond rfl (fun h => ?_) (fun h => ?_)
  refine aw_scope_loop 0 [0, 5, 6] (fun q fr σ => HgI L on q fr σ) rfl ?_ fun enter => ?_
  · rintro q fr σ ⟨S, us, off, k, m, hoff, hq, hqb, hul, hkm, hJ, rfl, rfl⟩
    simp -implicitDefEqProofs
    have hSl : S.length ≤ L.length := keys_len hJ.nd fun x hx => (hJ.sound x hx).node
    have hLl := hL.len
    by_cases h0 : us.length - off = 0
    · have hnil : us.drop off = [] := List.drop_eq_nil_of_le (by omega)
      rw [hnil] at hJ
      have hres : sortI S = hangL L on := hangL_eq hL.nd hJ.sound (fun p hp n hn hs => (hJ.whole p hp n hn hs).elim id fun h => by cases h) (sortI_lt hJ.nd) (sortI_mem S)
      have hkeys : (esK vi (S.map fun x => (x, (1 : Int)))).map Prod.fst = S.map fun s => .p (.int .i64 s) := by simp [esK]
      repeat' first | refine aw_N [] @h0 trivial ?_ | refine aw_cond rfl (fun h => ?_) (fun h => ?_)
      refine awl_cons rfl (opq_call rfl rfl rfl ((ikeysFBm_ok 0 _).mono fun r τ ⟨e1, e2⟩ => ?_))
      subst e1 e2
      refine awl_run' [] ?_
      simp -implicitDefEqProofs
      refine awl_cons rfl (opq_call rfl rfl rfl ((acall_sortedN ikeysB_ok Try.underlying3 (k := m) (c := .map 0) (ns := S) (by simp) (.inl ⟨0, esK vi (S.map fun x => (x, (1 : Int))), rfl, by simp, hkeys⟩) hJ.nd (fun s hs => by
        obtain ⟨p, hp, rfl⟩ := List.mem_map.1 (hJ.sound s hs).node
        exact wf64 (hL.at_ p hp)) (by omega)).mono fun r τ ⟨e1, e2⟩ => ?_))
      subst e1 e2
      refine awl_run' [] ?_
      simp -implicitDefEqProofs
      repeat' first | refine aw_M [] trivial trivial ?_ | refine aw_cond rfl (fun h => ?_) (fun h => ?_)
      have hsl := sortI_len S
      rw [hres] at hsl
      simp [tupOf, hsl, hres, List.take_of_length_le]
    · obtain ⟨n, hn⟩ : ∃ n, us[off]? = some n := ⟨_, List.getElem?_eq_getElem (by omega)⟩
      have h0i : ¬ ((us.length - off : Nat) : Int) = 0 := by omega
      have h0n : ¬ (us.length - off = 0) := h0
      have hlt : off < us.length := by omega
      have h1n : 1 ≤ us.length - off := by omega
      have h1i : (1 : Int) ≤ ((us.length - off : Nat) : Int) := by omega
      have hJ3 := hJ.pop hn
      have hgot := got_readM L n
      have hrl := rdL_len L n
      rw [hg]
      have h0p : 0 < us.length - off := by omega
      have hsb : us.length - off - 1 = us.length - (off + 1) := by omega
      have hnn : us[off] = n := by rw [List.getElem?_eq_getElem hlt] at hn; exact Option.some.inj hn
      repeat' first | refine aw_N [] (And.intro @h0 (And.intro @h0i (And.intro @h0p (And.intro @hn (And.intro @hnn (And.intro @hlt (And.intro @h1n (And.intro @h1i @hsb)))))))) trivial ?_ | refine aw_cond rfl (fun h => ?_) (fun h => ?_)
      refine awl_lookG [] rfl rfl (M := readM L) (n := n) rfl rfl ?_
      cases hq2 : gotK (readM L) n with
      | none =>
        rw [hq2] at hgot
        have hr0 : rdL L n = [] := hgot.symm
        have hz0 : zgot none = .p (.slice none 0 0) := rfl
        simp -implicitDefEqProofs [hz0]
        repeat' first | refine aw_N [] trivial trivial ?_ | refine aw_cond rfl (fun h => ?_) (fun h => ?_)
        refine aw_nilV (i := 31) rfl ?_
        simp -implicitDefEqProofs only [List.set]
        refine aw_loopW [0, 5, 6, 31, 32, 33] (fun q3 fr σ => HgI3 L on q n q3 fr σ) (rdL L n).length ?_ ?_
        · refine ⟨hgS S k us m, le_hgS (by simp) (by simp) (by simp), S, us, off + 1, k, m, 0, by omega, by omega, by omega, by omega, by omega, hJ3, rfl, ?_⟩
          simp [hg, hr0]
        · have hsrc := hJ3.src
          clear hsrc hJ3 h0p hsb hnn h1i h1n hlt h0i h0 hn hSl hJ hkm hul hq hoff h0n S us off k m
          rintro q3 fr σ ⟨S, us, off, k, m, j, hj3, hoff, hpot, hul, hkm, hJ, rfl, rfl⟩
          simp -implicitDefEqProofs
          have hSl : S.length ≤ L.length := keys_len hJ.nd fun x hx => (hJ.sound x hx).node
          have hrv : ((rdL L n).map vi).length = (rdL L n).length := List.length_map _
          by_cases hltj : j < (rdL L n).length
          · have hltji : (j : Int) < (rdL L n).length := by omega
            obtain ⟨x, hx⟩ : ∃ x, (rdL L n)[j] = x := ⟨_, rfl⟩
            have hxg : (rdL L n)[j]? = some x := by rw [List.getElem?_eq_getElem hltj, hx]
            have wj : IntKind.i64.wrap ((j : Int) + 1) = (j : Int) + 1 := wrap_id (by omega) (by omega)
            repeat' first | refine aw_N [] (And.intro @hltj (And.intro @hltji (And.intro @hx (And.intro @hxg @hrv)))) trivial ?_ | refine aw_cond rfl (fun h => ?_) (fun h => ?_)
            refine awl_lookI [] rfl rfl (b := 0) (M := S.map fun x => (x, (1 : Int))) (n := x) rfl (by simp) rfl ?_
            rw [got_ones]
            by_cases hxS : x ∈ S
            · simp -implicitDefEqProofs [hxS]
              repeat' first | refine aw_N [] @wj trivial ?_ | refine aw_cond rfl (fun h => ?_) (fun h => ?_)
              refine ⟨q3 - 1, by omega, hgS S k us m, le_hgS (by simp) (by simp) (by simp), S, us, off, k, m, j + 1, by omega, hoff, hpot, hul, hkm, hJ.seen hxg hxS, rfl, ?_⟩
              simp
            · have hS1 : (S ++ [x]).length ≤ L.length := keys_len (hJ.new hxg hxS).nd fun y hy => ((hJ.new hxg hxS).sound y hy).node
              simp at hS1
              simp -implicitDefEqProofs [hxS]
              repeat' first | refine aw_N [] trivial trivial ?_ | refine aw_cond rfl (fun h => ?_) (fun h => ?_)
              refine awl_putI [] rfl rfl (b := 0) (M := S.map fun x => (x, (1 : Int))) (n := x) (v := 1) rfl (by simp) rfl rfl ?_
              rw [put_ones hxS]
              simp -implicitDefEqProofs
              repeat' first | refine aw_N [] trivial trivial ?_ | refine aw_cond rfl (fun h => ?_) (fun h => ?_)
              refine awl_append [] rfl rfl rfl (xs := us.map vi) (by simp) (by simp; omega) rfl (by simp) te23 tet23 tz3 rfl (fun y hy => by obtain ⟨_, _, rfl⟩ := List.mem_map.1 hy; rfl) (by simp) (by simp; omega) (by simp; omega) ?_
              simp -implicitDefEqProofs
              repeat' first | refine aw_N [] @wj trivial ?_ | refine aw_cond rfl (fun h => ?_) (fun h => ?_)
              refine ⟨q3 - 1, by omega, hgS (S ++ [x]) m (us.drop off ++ [x]) (m + 1), le_hgS (by simp) (by simp [List.take_of_length_le]) (by simp), S ++ [x], us.drop off ++ [x], 0, m, m + 1, j + 1, by omega, by omega, by simp; omega, by simp; omega, by omega, hJ.new hxg hxS, rfl, ?_⟩
              simp
          · have hltji : ¬ (j : Int) < (rdL L n).length := by omega
            repeat' first | refine aw_N [] @hltji trivial ?_ | refine aw_cond rfl (fun h => ?_) (fun h => ?_)
            refine aw_goto ⟨rfl, _, hpot, hgS S k us m, le_hgS (by simp) (by simp) (by simp), S, us, off, k, m, hoff, rfl, by omega, hul, hkm, hJ.done (by omega), rfl, ?_⟩
            simp
      | some l =>
        rw [hq2] at hgot
        have hr0 : l = rdL L n := hgot
        subst hr0
        have hz0 : zgot (some (rdL L n)) = .vsl ((rdL L n).map vi) := rfl
        simp -implicitDefEqProofs [hz0]
        repeat' first | refine aw_N [] trivial trivial ?_ | refine aw_cond rfl (fun h => ?_) (fun h => ?_)
        refine aw_loopW [0, 5, 6, 31, 32, 33] (fun q3 fr σ => HgI3 L on q n q3 fr σ) (rdL L n).length ?_ ?_
        · refine ⟨hgS S k us m, le_hgS (by simp) (by simp) (by simp), S, us, off + 1, k, m, 0, by omega, by omega, by omega, by omega, by omega, hJ3, rfl, ?_⟩
          simp [hg, hz0]
        · have hsrc := hJ3.src
          clear hsrc hJ3 h0p hsb hnn h1i h1n hlt h0i h0 hn hSl hJ hkm hul hq hoff h0n S us off k m
          rintro q3 fr σ ⟨S, us, off, k, m, j, hj3, hoff, hpot, hul, hkm, hJ, rfl, rfl⟩
          simp -implicitDefEqProofs
          have hSl : S.length ≤ L.length := keys_len hJ.nd fun x hx => (hJ.sound x hx).node
          have hrv : ((rdL L n).map vi).length = (rdL L n).length := List.length_map _
          by_cases hltj : j < (rdL L n).length
          · have hltji : (j : Int) < (rdL L n).length := by omega
            obtain ⟨x, hx⟩ : ∃ x, (rdL L n)[j] = x := ⟨_, rfl⟩
            have hxg : (rdL L n)[j]? = some x := by rw [List.getElem?_eq_getElem hltj, hx]
            have wj : IntKind.i64.wrap ((j : Int) + 1) = (j : Int) + 1 := wrap_id (by omega) (by omega)
            repeat' first | refine aw_N [] (And.intro @hltj (And.intro @hltji (And.intro @hx (And.intro @hxg @hrv)))) trivial ?_ | refine aw_cond rfl (fun h => ?_) (fun h => ?_)
            refine awl_lookI [] rfl rfl (b := 0) (M := S.map fun x => (x, (1 : Int))) (n := x) rfl (by simp) rfl ?_
            rw [got_ones]
            by_cases hxS : x ∈ S
            · simp -implicitDefEqProofs [hxS]
              repeat' first | refine aw_N [] @wj trivial ?_ | refine aw_cond rfl (fun h => ?_) (fun h => ?_)
              refine ⟨q3 - 1, by omega, hgS S k us m, le_hgS (by simp) (by simp) (by simp), S, us, off, k, m, j + 1, by omega, hoff, hpot, hul, hkm, hJ.seen hxg hxS, rfl, ?_⟩
              simp
            · have hS1 : (S ++ [x]).length ≤ L.length := keys_len (hJ.new hxg hxS).nd fun y hy => ((hJ.new hxg hxS).sound y hy).node
              simp at hS1
              simp -implicitDefEqProofs [hxS]
              repeat' first | refine aw_N [] trivial trivial ?_ | refine aw_cond rfl (fun h => ?_) (fun h => ?_)
              refine awl_putI [] rfl rfl (b := 0) (M := S.map fun x => (x, (1 : Int))) (n := x) (v := 1) rfl (by simp) rfl rfl ?_
              rw [put_ones hxS]
              simp -implicitDefEqProofs
              repeat' first | refine aw_N [] trivial trivial ?_ | refine aw_cond rfl (fun h => ?_) (fun h => ?_)
              refine awl_append [] rfl rfl rfl (xs := us.map vi) (by simp) (by simp; omega) rfl (by simp) te23 tet23 tz3 rfl (fun y hy => by obtain ⟨_, _, rfl⟩ := List.mem_map.1 hy; rfl) (by simp) (by simp; omega) (by simp; omega) ?_
              simp -implicitDefEqProofs
              repeat' first | refine aw_N [] @wj trivial ?_ | refine aw_cond rfl (fun h => ?_) (fun h => ?_)
              refine ⟨q3 - 1, by omega, hgS (S ++ [x]) m (us.drop off ++ [x]) (m + 1), le_hgS (by simp) (by simp [List.take_of_length_le]) (by simp), S ++ [x], us.drop off ++ [x], 0, m, m + 1, j + 1, by omega, by omega, by simp; omega, by simp; omega, by omega, hJ.new hxg hxS, rfl, ?_⟩
              simp
          · have hltji : ¬ (j : Int) < (rdL L n).length := by omega
            repeat' first | refine aw_N [] @hltji trivial ?_ | refine aw_cond rfl (fun h => ?_) (fun h => ?_)
            refine aw_goto ⟨rfl, _, hpot, hgS S k us m, le_hgS (by simp) (by simp) (by simp), S, us, off, k, m, hoff, rfl, by omega, hul, hkm, hJ.done (by omega), rfl, ?_⟩
            simp
  · rw [hg]
    repeat' first | refine aw_N [] trivial trivial ?_ | refine aw_cond rfl (fun h => ?_) (fun h => ?_)
    refine awl_makeMap [] rfl rfl ?_
    simp -implicitDefEqProofs
    refine awl_cons rfl (opq_call rfl rfl rfl ((iclone_ok (σ := σ0.addMp []) on (by omega)).mono fun r τ h => ?_))
    obtain ⟨k, m, h1, h2, rfl, rfl⟩ := h
    refine awl_run' [] ?_
    simp -implicitDefEqProofs
    repeat' first | refine aw_N [] trivial trivial ?_ | refine aw_cond rfl (fun h => ?_) (fun h => ?_)
    refine aw_label ?_
    refine enter (on.length + L.length) _ _ ⟨hgS [] k on m, le_hgS (by simp [ASt.withSl, esK]) (by simp [ASt.withSl]) (by simp [ASt.withSl]), [], on, 0, k, m, by omega, by simp, by omega, by omega, h2, ⟨by simp, by simp, fun x hx => .inl (by simpa using hx), fun p hp n hn hs => ?_⟩, rfl, ?_⟩
    · rcases hs with h | h
      · exact .inr (by simpa using h)
      · cases h
    · simp [hg]
end Go.AL
