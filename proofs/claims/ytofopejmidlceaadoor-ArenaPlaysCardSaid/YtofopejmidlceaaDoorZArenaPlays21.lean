/- Parts of the proof of ArenaPlays: the logic, contracts, plain laws. -/
import Derived.Test.YtofopejmidlceaaDoorZArenaPlays20
/-! The document's arena: Reach. -/
namespace Go.AL
open Go.Proofs
set_option linter.unusedSimpArgs false
set_option linter.unusedVariables false
/-- What is referred to is live. -/
def Clo (M : Nods) : Prop := ∀ h x, gotK M h = some x → ∀ r ∈ x.refs, r ≤ 0 ∨ (gotK M r).isSome = true
theorem cnt_set' : ∀ (l : List Bool) (j : Nat), l[j]? = some false → (l.set j true).count false + 1 = l.count false
  | [], j, h => by cases h
  | b :: l, 0, h => by simp at h; subst h; simp
  | b :: l, j + 1, h => by
    have := cnt_set' l j (by simpa using h)
    rw [List.set_cons_succ, List.count_cons, List.count_cons]
    omega
/-- Marks that are reached. -/
structure RhJ (M : Nods) (on : List Int) (n : Nat) (inn : List Bool) : Prop where
  len : inn.length = n
  sound : ∀ h : Nat, inn[h]? = some true → Rch M on (h : Int)
  roots : ∀ r ∈ on, (gotK M r).isSome = true → inn[r.toNat]? = some true
def ClAt (M : Nods) (inn : List Bool) (h : Nat) : Prop := inn[h]? = some true → ∀ x, gotK M (h : Int) = some x → ∀ r ∈ x.refs, 0 < r → inn[r.toNat]? = some true
theorem set_true {l : List Bool} {j k : Nat} (h : l[k]? = some true) : (l.set j true)[k]? = some true := by
  rw [List.getElem?_set]
  split
  · rename_i e; subst e; rw [if_pos (List.getElem?_eq_some_iff.1 h).1]
  · exact h
theorem RhJ.set {M : Nods} {on : List Int} {n : Nat} {inn : List Bool} (hJ : RhJ M on n inn) {j : Nat} (hr : Rch M on (j : Int)) : RhJ M on n (inn.set j true) := by
  refine ⟨by simp [hJ.len], fun h hh => ?_, fun r h1 h2 => set_true (hJ.roots r h1 h2)⟩
  rw [List.getElem?_set] at hh
  split at hh
  · rename_i e; subst e; exact hr
  · exact hJ.sound h hh
def R1I (size : Int) (nds : List Nd) (is : List Bool) (M : Nods) (on : List Int) (k1 k2 ki T : Nat) (q : Nat) (fr : List AV) (σ : ASt) : Prop := ∃ (i : Nat) (inn : List Bool), i + q = on.length ∧ inn.length = is.length ∧ (∀ h : Nat, inn[h]? = some true → Rch M on (h : Int)) ∧ (∀ r ∈ on.take i, (gotK M r).isSome = true → inn[r.toNat]? = some true) ∧ σ = rcS size nds is k1 k2 [] [(ki, inn.map fun b => vb b)] T ∧ fr = frm 103 [(0, .ptr 0 0), (1, .vsl (on.map vi)), (5, .hsl ki 0 is.length), (6, vi (i : Nat))]
def R2I (size : Int) (nds : List Nd) (is : List Bool) (M : Nods) (on : List Int) (k1 k2 ki T : Nat) (q : Nat) (fr : List AV) (σ : ASt) : Prop := ∃ (inn : List Bool) (more : Bool), inn.count false + (if more = true then 1 else 0) = q ∧ RhJ M on is.length inn ∧ (more = false → ∀ h : Nat, ClAt M inn h) ∧ σ = rcS size nds is k1 k2 [] [(ki, inn.map fun b => vb b)] T ∧ fr = frm 103 [(0, .ptr 0 0), (5, .hsl ki 0 is.length), (8, vb more)]
def R3I (size : Int) (nds : List Nd) (is : List Bool) (M : Nods) (on : List Int) (k1 k2 ki T : Nat) (F : Nat) (q : Nat) (fr : List AV) (σ : ASt) : Prop := ∃ (h : Nat) (inn : List Bool) (more : Bool), 1 ≤ h ∧ h + q = is.length + 1 ∧ RhJ M on is.length inn ∧ inn.count false + (if more = true then 1 else 0) ≤ F ∧ (more = false → ∀ h' < h, ClAt M inn h') ∧ σ = rcS size nds is k1 k2 [] [(ki, inn.map fun b => vb b)] T ∧ fr = frm 103 [(0, .ptr 0 0), (5, .hsl ki 0 is.length), (8, vb more), (9, vi (h : Nat))]
def R4I (size : Int) (nds : List Nd) (is : List Bool) (M : Nods) (on : List Int) (k1 k2 ki T : Nat) (F : Nat) (h : Nat) (x : Nd) (q : Nat) (fr : List AV) (σ : ASt) : Prop := ∃ (k : Nat) (inn : List Bool) (more : Bool), k + q = x.refs.length ∧ RhJ M on is.length inn ∧ inn.count false + (if more = true then 1 else 0) ≤ F ∧ (more = false → ∀ h' < h, ClAt M inn h') ∧ (more = false → ∀ r ∈ x.refs.take k, 0 < r → inn[r.toNat]? = some true) ∧ inn[h]? = some true ∧ σ = rcS size nds is k1 k2 [] [(ki, inn.map fun b => vb b)] T ∧ fr = frm 103 [(0, .ptr 0 0), (5, .hsl ki 0 is.length), (8, vb more), (9, vi (h : Nat)), (10, vi (k : Nat))]
def R8I (size : Int) (nds : List Nd) (is inn : List Bool) (k1 k2 ki m : Nat) (q : Nat) (fr : List AV) (σ : ASt) : Prop := ∃ (i ko T : Nat) (us : List Int), 1 ≤ i ∧ i + q = is.length ∧ us ++ liveR (inn.drop i) i = liveR (inn.drop 1) 1 ∧ m ≤ ko ∧ ko < T ∧ us.length ≤ i ∧ σ = rcS size nds is k1 k2 [] [(ki, inn.map fun b => vb b), (ko, us.map vi)] T ∧ fr = frm 103 [(0, .ptr 0 0), (5, .hsl ki 0 is.length), (12, .hsl ko 0 us.length), (13, vi (i : Nat))]
set_option maxHeartbeats 8000000 in
set_option maxRecDepth 100000 in
theorem rreach_ok {M : Nods} {N : Nms} {c : Int} {nds : List Nd} {is : List Bool} (hA : AI M N c) (hR : Rel M nds is) (hC : Clo M) (size : Int) (hlb : is.length ≤ 100000) (hN : ∀ y ∈ nds, y.refs.length ≤ 1000000) (on : List Int) (hon : on.length ≤ 1000000) (k1 k2 m : Nat) (hn : RcN k1 k2 m [] []) :
    ACall Tryd.prog 23 [.ptr 0 0, .vsl (on.map vi)] (rcS size nds is k1 k2 [] [] m) fun r τ => r = .vsl ((rchL M on).map vi) ∧ ∃ m', m ≤ m' ∧ (rcS size nds is k1 k2 [] [] m').Le τ := by
  have hnk : ¬ k2 = k1 := fun e => hn.n e.symm
  have a1 := hn.l1
  have a2 := hn.l2
  have hv2 : (is.map fun b => (vb b : AV)).length = is.length := List.length_map _
  have hnv : (nds.map ndA).length = nds.length := List.length_map _
  have hov : (on.map vi).length = on.length := List.length_map _
  have hl := hR.len
  have h0 := hR.pos
  have mk1 : ¬ m = k1 := by omega
  have mk2 : ¬ m = k2 := by omega
  have k1m : ¬ k1 = m := by omega
  have k2m : ¬ k2 = m := by omega
  refine acall_of Tryd.func23 Tryd.ntmps23 rfl ?_
  simp only [List.length_cons, List.length_nil, List.cons_append, List.nil_append, List.replicate]
  repeat' first | refine aw_N [] trivial trivial ?_ | refine aw_cond rfl (fun h => ?_) (fun h => ?_)
  refine awl_makeS [] rfl rfl (n := is.length) rfl rfl te61 tet61 tz4 rfl (by omega) (by omega) (by omega) ?_
  simp -implicitDefEqProofs
  repeat' first | refine aw_N [] trivial trivial ?_ | refine aw_cond rfl (fun h => ?_) (fun h => ?_)
  refine aw_loopW [0, 1, 5, 6] (fun q fr σ => R1I size nds is M on k1 k2 m (m + 1) q fr σ) on.length ?_ ?_
  · refine ⟨rcS size nds is k1 k2 [] [(m, (List.replicate is.length false).map fun b => vb b)] (m + 1), le_rcS (by simp [ASt.addSl]) (by simp [ASt.addSl, upd, k1m]) (by simp [ASt.addSl, upd, hnk, k2m]) (by simp [ASt.addSl, upd]) (by simp) (by simp [ASt.addSl]), 0, List.replicate is.length false, by omega, by simp, fun h hh => ?_, by simp, rfl, by simp⟩
    rw [List.getElem?_replicate] at hh
    split at hh <;> cases hh
  · rintro q fr σ ⟨i, inn, hi, hil, hsd, hrt, rfl, rfl⟩
    simp -implicitDefEqProofs
    have hn' : RcN k1 k2 (m + 1) [] [(m, inn.map fun b => vb b)] := ⟨by omega, by omega, hn.n, by simp; omega, by simp, by simp, by simp⟩
    have hiv : (inn.map fun b => (vb b : AV)).length = inn.length := List.length_map _
    by_cases hlt : i < on.length
    · have hlti : (i : Int) < on.length := by omega
      obtain ⟨r, hr1⟩ : ∃ r, on[i] = r := ⟨_, rfl⟩
      have hrg : on[i]? = some r := by rw [List.getElem?_eq_getElem hlt, hr1]
      have wi : IntKind.i64.wrap ((i : Int) + 1) = (i : Int) + 1 := wrap_id (by omega) (by omega)
      have hh := rhas09_ok size nds is r
      rw [hR.has hA] at hh
      have htk : on.take (i + 1) = on.take i ++ [r] := by rw [List.take_add_one, hrg]; rfl
      repeat' first | refine aw_N [] (And.intro @hlt (And.intro @hlti (And.intro @hr1 (And.intro @hrg @hov)))) trivial ?_ | refine aw_cond rfl (fun h => ?_) (fun h => ?_)
      refine awl_lendD 2 [] rfl rfl rfl (by kernel_rfl) (args := [.ptr 0 0, vi r]) rfl (args' := [rcV size nds is, vi r]) (by
        simp only [List.map_cons, List.map_nil]
        rw [cloD_rc hn']
        simp [cloD]) hh (by simp) (by simp) ?_
      cases hg : gotK M r with
      | none =>
        simp -implicitDefEqProofs
        repeat' first | refine aw_N [] @wi trivial ?_ | refine aw_cond rfl (fun h => ?_) (fun h => ?_)
        refine ⟨q - 1, by omega, _, le_same _, i + 1, inn, by omega, hil, hsd, fun r' h1 h2 => ?_, rfl, by simp⟩
        rw [htk] at h1
        rcases List.mem_append.1 h1 with h1 | h1
        · exact hrt r' h1 h2
        · obtain rfl := List.mem_singleton.1 h1
          rw [hg] at h2; cases h2
      | some y =>
        have hr1' := (hA.pos r y hg).1
        obtain ⟨n, rfl⟩ : ∃ n : Nat, r = n := ⟨r.toNat, by omega⟩
        have hnl : n < is.length := by
          have := hR.at_ n (by omega)
          rw [hg] at this
          by_cases e : is[n]? = some true
          · exact (List.getElem?_eq_some_iff.1 e).1
          · rw [if_neg e] at this; cases this
        have hnl2 : n < inn.length := by omega
        have hnli : (n : Int) < is.length := by omega
        simp -implicitDefEqProofs
        repeat' (first
          | refine aw_seq ?_
          | (refine aw_run [] ?_; try simp -implicitDefEqProofs (maxSteps := 1000000) [hlt, hlti, hr1, hrg, hov, hnl, hnl2, hnli, hiv, mk1, mk2, wi])
          | ((first | refine awl_skip' [] rfl ?_ | refine aw_skip ?_ | refine aw_exit ?_); try simp -implicitDefEqProofs (maxSteps := 1000000) [hlt, hlti, hr1, hrg, hov, hnl, hnl2, hnli, hiv, mk1, mk2, wi])
          | (refine aw_cond rfl (fun h => ?_) (fun h => ?_) <;> try (with_reducible first | exact ff_tt h | exact tt_ff h))
          | refine aw_block ?_
          | refine aw_ret (ret_of (.inr rfl) (by simp [Tryd.results23]; rfl) (Fin.of ?_))
          | refine ret_of (.inl rfl) (by simp [Tryd.results23]; rfl) (Fin.of ?_))
        refine ⟨q - 1, by omega, rcS size nds is k1 k2 [] [(m, (inn.set n true).map fun b => vb b)] (m + 1), le_rcS (by simp) (by simp [upd, k1m]) (by simp [upd, hnk, k2m]) (by simp [upd, List.map_set]) (by simp) (by simp), i + 1, inn.set n true, by omega, by simp [hil], fun h hh => ?_, fun r' h1 h2 => ?_, rfl, by simp⟩
        · rw [List.getElem?_set] at hh
          split at hh
          · rename_i e; subst e; exact .root _ (List.mem_of_getElem? hrg) (by rw [hg]; rfl)
          · exact hsd h hh
        · rw [htk] at h1
          rcases List.mem_append.1 h1 with h1 | h1
          · exact set_true (hrt r' h1 h2)
          · obtain rfl := List.mem_singleton.1 h1
            rw [List.getElem?_set, if_pos (by omega), if_pos (by omega)]
    · have hlti : ¬ (i : Int) < on.length := by omega
      rw [List.take_of_length_le (by omega)] at hrt
      have hJ : RhJ M on is.length inn := ⟨hil, hsd, hrt⟩
      clear hsd hrt
      repeat' first | refine aw_N [] (And.intro @hlti @hov) trivial ?_ | refine aw_cond rfl (fun h => ?_) (fun h => ?_)
      refine aw_loopW [0, 5, 8] (fun q fr σ => R2I size nds is M on k1 k2 m (m + 1) q fr σ) (inn.count false + 1) ?_ ?_
      · exact ⟨_, le_same _, inn, true, by simp, hJ, by simp, rfl, by simp⟩
      · clear hJ hil hn' hiv hi hlt hlti inn
        rintro q fr σ ⟨inn, more, hq, hJ, hcl, rfl, rfl⟩
        have hil := hJ.len
        have hiv : (inn.map fun b => (vb b : AV)).length = inn.length := List.length_map _
        cases more with
        | true =>
          simp -implicitDefEqProofs
          repeat' first | refine aw_N [] trivial trivial ?_ | refine aw_cond rfl (fun h => ?_) (fun h => ?_)
          refine aw_loopW [0, 5, 8, 9] (fun q3 fr σ => R3I size nds is M on k1 k2 m (m + 1) (inn.count false) q3 fr σ) is.length ?_ ?_
          · exact ⟨_, le_same _, 1, inn, false, by omega, by omega, hJ, by simp, fun _ h' hh => by
              obtain rfl : h' = 0 := by omega
              intro _ x hx
              have := (hA.pos _ x hx).1
              omega, rfl, by simp⟩
          · obtain ⟨F, hF⟩ : ∃ F, F = inn.count false := ⟨_, rfl⟩
            rw [← hF] at hq ⊢
            clear hF hcl hJ hil hiv inn
            rintro q3 fr σ ⟨v, inn, more, hh1, hq3, hJ, hcnt, hcl, rfl, rfl⟩
            simp -implicitDefEqProofs
            have hil := hJ.len
            have hiv : (inn.map fun b => (vb b : AV)).length = inn.length := List.length_map _
            by_cases hlt : v < is.length
            · have hlti : (v : Int) < is.length := by omega
              have hhn : v < nds.length := by omega
              have hhni : (v : Int) < nds.length := by omega
              have hhi : v < inn.length := by omega
              obtain ⟨x, hx1⟩ : ∃ x, nds[v] = x := ⟨_, rfl⟩
              have hxg : nds[v]? = some x := by rw [List.getElem?_eq_getElem hhn, hx1]
              have hnd : ndA x = .agg [vi x.k, .vsl (x.refs.map vi), .vsl (x.nums.map vi), vs x.text] := rfl
              have hxl := hN x (List.mem_of_getElem? hxg)
              have hrv : (x.refs.map vi).length = x.refs.length := List.length_map _
              have wh : IntKind.i64.wrap ((v : Int) + 1) = (v : Int) + 1 := wrap_id (by omega) (by omega)
              obtain ⟨b, hb1⟩ : ∃ b, inn[v] = b := ⟨_, rfl⟩
              have hbg : inn[v]? = some b := by rw [List.getElem?_eq_getElem hhi, hb1]
              repeat' first | refine aw_N [] (And.intro @hlt @hlti) trivial ?_ | refine aw_cond rfl (fun h => ?_) (fun h => ?_)
              cases b with
              | false =>
                refine aw_loopW [0, 5, 8, 9, 10] (fun q4 fr σ => σ = rcS size nds is k1 k2 [] [(m, inn.map fun b => vb b)] (m + 1) ∧ fr = frm 103 [(0, .ptr 0 0), (5, .hsl m 0 is.length), (8, vb more), (9, vi (v : Nat)), (10, vi 0)]) 0 ?_ ?_
                · exact ⟨_, le_same _, rfl, by simp⟩
                · rintro q4 fr σ ⟨rfl, rfl⟩
                  simp -implicitDefEqProofs
                  repeat' (first
                    | refine aw_seq ?_
                    | (refine aw_run [] ?_; try simp -implicitDefEqProofs (maxSteps := 1000000) [hlt, hlti, hhn, hhni, hhi, hx1, hxg, hnd, hrv, hb1, hbg, hiv, hnv, mk1, mk2, hnk, wh])
                    | ((first | refine awl_skip' [] rfl ?_ | refine aw_skip ?_ | refine aw_exit ?_); try simp -implicitDefEqProofs (maxSteps := 1000000) [hlt, hlti, hhn, hhni, hhi, hx1, hxg, hnd, hrv, hb1, hbg, hiv, hnv, mk1, mk2, hnk, wh])
                    | (refine aw_cond rfl (fun h => ?_) (fun h => ?_) <;> try (with_reducible first | exact ff_tt h | exact tt_ff h))
                    | refine aw_block ?_
                    | refine aw_ret (ret_of (.inr rfl) (by simp [Tryd.results23]; rfl) (Fin.of ?_))
                    | refine ret_of (.inl rfl) (by simp [Tryd.results23]; rfl) (Fin.of ?_))
                  refine ⟨q3 - 1, by omega, _, le_same _, v + 1, inn, more, by omega, by omega, hJ, hcnt, fun hm h' hh' => ?_, rfl, by simp⟩
                  by_cases e : h' = v
                  · subst e; intro hin; rw [hbg] at hin; cases hin
                  · exact hcl hm h' (by omega)
              | true =>
                have hMx : gotK M (v : Int) = some x := by
                  have hlv := (hJ.sound v hbg).live
                  have := hR.at_ v hh1
                  by_cases e : is[v]? = some true
                  · rw [if_pos e] at this; rw [this, hxg]
                  · rw [if_neg e] at this; rw [this] at hlv; cases hlv
                refine aw_loopW [0, 5, 8, 9, 10] (fun q4 fr σ => R4I size nds is M on k1 k2 m (m + 1) F v x q4 fr σ) x.refs.length ?_ ?_
                · exact ⟨_, le_same _, 0, inn, more, by omega, hJ, hcnt, hcl, by simp, hbg, rfl, by simp⟩
                · clear hbg hb1 hcl hcnt hJ hil hiv hhi inn more
                  rintro q4 fr σ ⟨k, inn, more, hq4, hJ, hcnt, hcl, hk, hbg, rfl, rfl⟩
                  simp -implicitDefEqProofs
                  have hil := hJ.len
                  have hiv : (inn.map fun b => (vb b : AV)).length = inn.length := List.length_map _
                  have hhi : v < inn.length := by omega
                  have hb1 : inn[v] = true := by rw [List.getElem?_eq_getElem hhi] at hbg; exact Option.some.inj hbg
                  by_cases hltk : k < x.refs.length
                  · have hltki : (k : Int) < x.refs.length := by omega
                    obtain ⟨r, hr1⟩ : ∃ r, x.refs[k] = r := ⟨_, rfl⟩
                    have hrg : x.refs[k]? = some r := by rw [List.getElem?_eq_getElem hltk, hr1]
                    have hrm := List.mem_of_getElem? hrg
                    have wk : IntKind.i64.wrap ((k : Int) + 1) = (k : Int) + 1 := wrap_id (by omega) (by omega)
                    have htk : x.refs.take (k + 1) = x.refs.take k ++ [r] := by rw [List.take_add_one, hrg]; rfl
                    by_cases h0 : 0 < r
                    · have hlv : (gotK M r).isSome = true := (hC v x hMx r hrm).resolve_left (by omega)
                      obtain ⟨n, rfl⟩ : ∃ n : Nat, r = n := ⟨r.toNat, by omega⟩
                      have hnl : n < is.length := by
                        have := hR.at_ n (by omega)
                        by_cases e : is[n]? = some true
                        · exact (List.getElem?_eq_some_iff.1 e).1
                        · rw [if_neg e] at this; rw [this] at hlv; cases hlv
                      have hnl2 : n < inn.length := by omega
                      have hnli : (n : Int) < is.length := by omega
                      have h0n : 0 < n := by omega
                      obtain ⟨b, hc1⟩ : ∃ b, inn[n] = b := ⟨_, rfl⟩
                      have hcg : inn[n]? = some b := by rw [List.getElem?_eq_getElem hnl2, hc1]
                      cases b with
                      | true =>
                        repeat' (first
                          | refine aw_seq ?_
                          | (refine aw_run [] ?_; try simp -implicitDefEqProofs (maxSteps := 1000000) [hlt, hlti, hhn, hhni, hhi, hx1, hxg, hnd, hrv, hb1, hbg, hiv, hnv, mk1, mk2, hnk, hltk, hltki, hr1, hrg, h0, h0n, hnl, hnl2, hnli, hc1, hcg, wk])
                          | ((first | refine awl_skip' [] rfl ?_ | refine aw_skip ?_ | refine aw_exit ?_); try simp -implicitDefEqProofs (maxSteps := 1000000) [hlt, hlti, hhn, hhni, hhi, hx1, hxg, hnd, hrv, hb1, hbg, hiv, hnv, mk1, mk2, hnk, hltk, hltki, hr1, hrg, h0, h0n, hnl, hnl2, hnli, hc1, hcg, wk])
                          | (refine aw_cond rfl (fun h => ?_) (fun h => ?_) <;> try (with_reducible first | exact ff_tt h | exact tt_ff h))
                          | refine aw_block ?_
                          | refine aw_ret (ret_of (.inr rfl) (by simp [Tryd.results23]; rfl) (Fin.of ?_))
                          | refine ret_of (.inl rfl) (by simp [Tryd.results23]; rfl) (Fin.of ?_))
                        refine ⟨q4 - 1, by omega, _, le_same _, k + 1, inn, more, by omega, hJ, hcnt, hcl, fun hm r hr hr0 => ?_, hbg, rfl, by simp⟩
                        rw [htk] at hr
                        rcases List.mem_append.1 hr with hr | hr
                        · exact hk hm r hr hr0
                        · obtain rfl := List.mem_singleton.1 hr
                          simpa using hcg
                      | false =>
                        repeat' (first
                          | refine aw_seq ?_
                          | (refine aw_run [] ?_; try simp -implicitDefEqProofs (maxSteps := 1000000) [hlt, hlti, hhn, hhni, hhi, hx1, hxg, hnd, hrv, hb1, hbg, hiv, hnv, mk1, mk2, hnk, hltk, hltki, hr1, hrg, h0, h0n, hnl, hnl2, hnli, hc1, hcg, wk])
                          | ((first | refine awl_skip' [] rfl ?_ | refine aw_skip ?_ | refine aw_exit ?_); try simp -implicitDefEqProofs (maxSteps := 1000000) [hlt, hlti, hhn, hhni, hhi, hx1, hxg, hnd, hrv, hb1, hbg, hiv, hnv, mk1, mk2, hnk, hltk, hltki, hr1, hrg, h0, h0n, hnl, hnl2, hnli, hc1, hcg, wk])
                          | (refine aw_cond rfl (fun h => ?_) (fun h => ?_) <;> try (with_reducible first | exact ff_tt h | exact tt_ff h))
                          | refine aw_block ?_
                          | refine aw_ret (ret_of (.inr rfl) (by simp [Tryd.results23]; rfl) (Fin.of ?_))
                          | refine ret_of (.inl rfl) (by simp [Tryd.results23]; rfl) (Fin.of ?_))
                        have hcs := cnt_set' inn n hcg
                        have hrc : Rch M on (n : Int) := .step v x n (hJ.sound v hbg) hMx hrm hlv
                        refine ⟨q4 - 1, by omega, rcS size nds is k1 k2 [] [(m, (inn.set n true).map fun b => vb b)] (m + 1), le_rcS (by simp) (by simp [upd, k1m]) (by simp [upd, hnk, k2m]) (by simp [upd, List.map_set]) (by simp) (by simp), k + 1, inn.set n true, true, by omega, hJ.set hrc, by simp; omega, by simp, by simp, set_true hbg, rfl, by simp⟩
                    · by_cases hr00 : 0 ≤ r
                      · obtain rfl : r = 0 := by omega
                        have h0i : 0 < inn.length := by omega
                        have h0is : 0 < is.length := by omega
                        obtain ⟨b, hc1⟩ : ∃ b, inn[0] = b := ⟨_, rfl⟩
                        have hcg : inn[0]? = some b := by rw [List.getElem?_eq_getElem h0i, hc1]
                        repeat' (first
                          | refine aw_seq ?_
                          | (refine aw_run [] ?_; try simp -implicitDefEqProofs (maxSteps := 1000000) [hlt, hlti, hhn, hhni, hhi, hx1, hxg, hnd, hrv, hb1, hbg, hiv, hnv, mk1, mk2, hnk, hltk, hltki, hr1, hrg, h0i, h0is, hc1, hcg, wk])
                          | ((first | refine awl_skip' [] rfl ?_ | refine aw_skip ?_ | refine aw_exit ?_); try simp -implicitDefEqProofs (maxSteps := 1000000) [hlt, hlti, hhn, hhni, hhi, hx1, hxg, hnd, hrv, hb1, hbg, hiv, hnv, mk1, mk2, hnk, hltk, hltki, hr1, hrg, h0i, h0is, hc1, hcg, wk])
                          | (refine aw_cond rfl (fun h => ?_) (fun h => ?_) <;> try (with_reducible first | exact ff_tt h | exact tt_ff h))
                          | refine aw_block ?_
                          | refine aw_ret (ret_of (.inr rfl) (by simp [Tryd.results23]; rfl) (Fin.of ?_))
                          | refine ret_of (.inl rfl) (by simp [Tryd.results23]; rfl) (Fin.of ?_))
                        refine ⟨q4 - 1, by omega, _, le_same _, k + 1, inn, more, by omega, hJ, hcnt, hcl, fun hm r hr hr0 => ?_, hbg, rfl, by simp⟩
                        rw [htk] at hr
                        rcases List.mem_append.1 hr with hr | hr
                        · exact hk hm r hr hr0
                        · obtain rfl := List.mem_singleton.1 hr
                          omega
                      · repeat' (first
                          | refine aw_seq ?_
                          | (refine aw_run [] ?_; try simp -implicitDefEqProofs (maxSteps := 1000000) [hlt, hlti, hhn, hhni, hhi, hx1, hxg, hnd, hrv, hb1, hbg, hiv, hnv, mk1, mk2, hnk, hltk, hltki, hr1, hrg, h0, hr00, wk])
                          | ((first | refine awl_skip' [] rfl ?_ | refine aw_skip ?_ | refine aw_exit ?_); try simp -implicitDefEqProofs (maxSteps := 1000000) [hlt, hlti, hhn, hhni, hhi, hx1, hxg, hnd, hrv, hb1, hbg, hiv, hnv, mk1, mk2, hnk, hltk, hltki, hr1, hrg, h0, hr00, wk])
                          | (refine aw_cond rfl (fun h => ?_) (fun h => ?_) <;> try (with_reducible first | exact ff_tt h | exact tt_ff h))
                          | refine aw_block ?_
                          | refine aw_ret (ret_of (.inr rfl) (by simp [Tryd.results23]; rfl) (Fin.of ?_))
                          | refine ret_of (.inl rfl) (by simp [Tryd.results23]; rfl) (Fin.of ?_))
                        refine ⟨q4 - 1, by omega, _, le_same _, k + 1, inn, more, by omega, hJ, hcnt, hcl, fun hm r hr hr0 => ?_, hbg, rfl, by simp⟩
                        rw [htk] at hr
                        rcases List.mem_append.1 hr with hr | hr
                        · exact hk hm r hr hr0
                        · obtain rfl := List.mem_singleton.1 hr
                          omega
                  · have hltki : ¬ (k : Int) < x.refs.length := by omega
                    repeat' (first
                      | refine aw_seq ?_
                      | (refine aw_run [] ?_; try simp -implicitDefEqProofs (maxSteps := 1000000) [hlt, hlti, hhn, hhni, hhi, hx1, hxg, hnd, hrv, hb1, hbg, hiv, hnv, mk1, mk2, hnk, hltki, wh])
                      | ((first | refine awl_skip' [] rfl ?_ | refine aw_skip ?_ | refine aw_exit ?_); try simp -implicitDefEqProofs (maxSteps := 1000000) [hlt, hlti, hhn, hhni, hhi, hx1, hxg, hnd, hrv, hb1, hbg, hiv, hnv, mk1, mk2, hnk, hltki, wh])
                      | (refine aw_cond rfl (fun h => ?_) (fun h => ?_) <;> try (with_reducible first | exact ff_tt h | exact tt_ff h))
                      | refine aw_block ?_
                      | refine aw_ret (ret_of (.inr rfl) (by simp [Tryd.results23]; rfl) (Fin.of ?_))
                      | refine ret_of (.inl rfl) (by simp [Tryd.results23]; rfl) (Fin.of ?_))
                    rw [List.take_of_length_le (by omega)] at hk
                    refine ⟨q3 - 1, by omega, _, le_same _, v + 1, inn, more, by omega, by omega, hJ, hcnt, fun hm h' hh' => ?_, rfl, by simp⟩
                    by_cases e : h' = v
                    · subst e
                      intro _ y hy r hr hr0
                      rw [hMx] at hy
                      cases hy
                      exact hk hm r hr hr0
                    · exact hcl hm h' (by omega)
            · have hlti : ¬ (v : Int) < is.length := by omega
              repeat' first | refine aw_N [] @hlti trivial ?_ | refine aw_cond rfl (fun h => ?_) (fun h => ?_)
              refine ⟨inn.count false + (if more = true then 1 else 0), by simp at hq; omega, _, le_same _, inn, more, rfl, hJ, fun hm h' => ?_, rfl, by simp⟩
              by_cases hh' : h' < v
              · exact hcl hm h' hh'
              · intro hin
                have := (List.getElem?_eq_some_iff.1 hin).1
                omega
        | false =>
          simp -implicitDefEqProofs
          have hres : liveR (inn.drop 1) 1 = rchL M on := by
            refine rise_ext (liveR_lt _ _) (rchL_lt hA.ndM on) fun y => ?_
            rw [liveR_mem, mem_rchL]
            constructor
            · rintro ⟨j, h1, rfl⟩
              rw [List.getElem?_drop] at h1
              exact hJ.sound _ h1
            · intro hy
              have key : inn[y.toNat]? = some true := by
                induction hy with
                | root r hr hlv => exact hJ.roots r hr hlv
                | step h x r hh hx hr hlv ih =>
                  have h1 := (hA.pos h x hx).1
                  obtain ⟨y, hy⟩ : ∃ y, gotK M r = some y := by
                    cases e : gotK M r with
                    | none => rw [e] at hlv; cases hlv
                    | some y => exact ⟨y, rfl⟩
                  have h2 := (hA.pos r y hy).1
                  exact hcl rfl h.toNat ih x (by rw [show ((h.toNat : Nat) : Int) = h by omega]; exact hx) r hr (by omega)
              have h1 : 1 ≤ y := by
                have hlv := hy.live
                cases e : gotK M y with
                | none => rw [e] at hlv; cases hlv
                | some z => exact (hA.pos y z e).1
              refine ⟨y.toNat - 1, ?_, by omega⟩
              rw [List.getElem?_drop, show 1 + (y.toNat - 1) = y.toNat by omega]
              exact key
          repeat' first | refine aw_N [] trivial trivial ?_ | refine aw_cond rfl (fun h => ?_) (fun h => ?_)
          refine aw_nilH (i := 12) rfl ?_
          simp -implicitDefEqProofs only [List.set]
          have m1 : ¬ m + 1 = m := by omega
          refine aw_loopW [0, 5, 12, 13] (fun q fr σ => R8I size nds is inn k1 k2 m (m + 1) q fr σ) (is.length - 1) ?_ ?_
          · exact ⟨rcS size nds is k1 k2 [] [(m, inn.map fun b => vb b), (m + 1, [])] (m + 2), le_rcS (by simp [ASt.addSl]) (by simp [ASt.addSl, upd, k1m, show ¬ k1 = m + 1 by omega]) (by simp [ASt.addSl, upd, hnk, k2m, show ¬ k2 = m + 1 by omega]) (by simp [ASt.addSl, upd, mk1, mk2]) (by simp) (by simp [ASt.addSl]), 1, m + 1, m + 2, [], by omega, by omega, by simp, by omega, by omega, by simp, by simp, by simp⟩
          · rintro q fr σ ⟨i, ko, T, us, hi1, hi, hu, hk, hkT, hul, rfl, rfl⟩
            simp -implicitDefEqProofs
            have e1 : ¬ ko = k1 := by omega
            have e2 : ¬ ko = k2 := by omega
            have e3 : ¬ ko = m := by omega
            by_cases hlt : i < is.length
            · have hlti : (i : Int) < is.length := by omega
              have hlt2 : i < inn.length := by omega
              obtain ⟨b, hb⟩ : ∃ b, inn[i] = b := ⟨_, rfl⟩
              have hbg : inn[i]? = some b := by rw [List.getElem?_eq_getElem hlt2, hb]
              have wi : IntKind.i64.wrap ((i : Int) + 1) = (i : Int) + 1 := wrap_id (by omega) (by omega)
              rw [List.drop_eq_getElem_cons hlt2, hb, liveR] at hu
              cases b with
              | true =>
                rw [if_pos rfl] at hu
                repeat' (first
                  | refine aw_seq ?_
                  | (refine aw_run [] ?_; try simp -implicitDefEqProofs (maxSteps := 1000000) [hlt, hlti, hlt2, hb, hbg, hiv, hnk, mk1, mk2])
                  | ((first | refine awl_skip' [] rfl ?_ | refine aw_skip ?_ | refine aw_exit ?_); try simp -implicitDefEqProofs (maxSteps := 1000000) [hlt, hlti, hlt2, hb, hbg, hiv, hnk, mk1, mk2])
                  | (refine aw_cond rfl (fun h => ?_) (fun h => ?_) <;> try (with_reducible first | exact ff_tt h | exact tt_ff h))
                  | refine aw_block ?_
                  | refine aw_ret (ret_of (.inr rfl) (by simp [Tryd.results23]; rfl) (Fin.of ?_))
                  | refine ret_of (.inl rfl) (by simp [Tryd.results23]; rfl) (Fin.of ?_))
                refine awl_append [] rfl rfl rfl (b := ko) (xs := us.map vi) (by simp [e1, e2, e3]) (by simp) rfl (by simp) te33 tet33 tz3 rfl (fun y hy => by obtain ⟨_, _, rfl⟩ := List.mem_map.1 hy; rfl) (by simp) (by simp; omega) (by simp; omega) ?_
                simp -implicitDefEqProofs
                repeat' first | refine aw_N [] @wi trivial ?_ | refine aw_cond rfl (fun h => ?_) (fun h => ?_)
                exact ⟨q - 1, by omega, rcS size nds is k1 k2 [] [(m, inn.map fun b => vb b), (T, (us ++ [(i : Int)]).map vi)] (T + 1), le_rcS (by simp [ASt.addSl, ASt.dropSl]) (by simp [ASt.addSl, ASt.dropSl, upd, show ¬ k1 = T by omega, Ne.symm e1]) (by simp [ASt.addSl, ASt.dropSl, upd, hnk, show ¬ k2 = T by omega, Ne.symm e2]) (by simp [ASt.addSl, ASt.dropSl, upd, mk1, mk2, show ¬ m = T by omega, Ne.symm e3, List.take_of_length_le]) (by simp) (by simp [ASt.addSl]), i + 1, T, T + 1, us ++ [(i : Int)], by omega, by omega, by simpa using hu, by omega, by omega, by simp; omega, rfl, by simp⟩
              | false =>
                rw [if_neg (by simp)] at hu
                repeat' (first
                  | refine aw_seq ?_
                  | (refine aw_run [] ?_; try simp -implicitDefEqProofs (maxSteps := 1000000) [hlt, hlti, hlt2, hb, hbg, hiv, hnk, mk1, mk2, wi])
                  | ((first | refine awl_skip' [] rfl ?_ | refine aw_skip ?_ | refine aw_exit ?_); try simp -implicitDefEqProofs (maxSteps := 1000000) [hlt, hlti, hlt2, hb, hbg, hiv, hnk, mk1, mk2, wi])
                  | (refine aw_cond rfl (fun h => ?_) (fun h => ?_) <;> try (with_reducible first | exact ff_tt h | exact tt_ff h))
                  | refine aw_block ?_
                  | refine aw_ret (ret_of (.inr rfl) (by simp [Tryd.results23]; rfl) (Fin.of ?_))
                  | refine ret_of (.inl rfl) (by simp [Tryd.results23]; rfl) (Fin.of ?_))
                exact ⟨q - 1, by omega, _, le_same _, i + 1, ko, T, us, by omega, by omega, hu, hk, hkT, by omega, rfl, by simp⟩
            · have hlti : ¬ (i : Int) < is.length := by omega
              rw [List.drop_eq_nil_of_le (by omega), liveR, List.append_nil, hres] at hu
              subst hu
              refine aw_freeze (b := ko) (xs := (rchL M on).map vi) (by simp [e1, e2, e3]) ?_
              simp -implicitDefEqProofs [frz, frz1, frz0, List.take_of_length_le, Ne.symm e3]
              repeat' first | refine aw_N [] @hlti trivial ?_ | refine aw_cond rfl (fun h => ?_) (fun h => ?_)
              exact ⟨by simp [tupOf], T, by omega, le_rcS (by simp) (by simp [upd, Ne.symm e1]) (by simp [upd, hnk, Ne.symm e2]) (by simp) (by simp) (by simp)⟩
end Go.AL
/-! The document's arena: Sweep. -/
namespace Go.AL
open Go.Proofs
set_option linter.unusedSimpArgs false
set_option linter.unusedVariables false
def RswI (size : Int) (nds : List Nd) (is : List Bool) (M : Nods) (on : List Int) (k1 k2 m : Nat) (B : Bool) (q : Nat) (fr : List AV) (σ : ASt) : Prop := ∃ i : Nat, i + q = on.length ∧ (on.drop i).any (badS M) = B ∧ σ = rcS size nds is k1 k2 [] [] m ∧ fr = frm 65 [(0, .ptr 0 0), (1, .vsl (on.map vi)), (4, vi 0), (5, vi 0), (6, vi (i : Nat))]
def RswJ (size : Int) (nds : List Nd) (is : List Bool) (L W : List Int) (k1 k2 ki T : Nat) (q : Nat) (fr : List AV) (σ : ASt) : Prop := ∃ (i : Nat) (inn : List Bool), i + q = L.length ∧ inn.length = is.length ∧ (∀ h : Nat, inn[h]? = some true ↔ (h : Int) ∈ L.take i) ∧ σ = rcS size nds is k1 k2 [] [(ki, inn.map fun b => vb b)] T ∧ fr = frm 65 [(0, .ptr 0 0), (4, vi 0), (5, vi 0), (8, .vsl (L.map vi)), (9, .vsl (W.map vi)), (10, .hsl ki 0 is.length), (11, vi (i : Nat))]
set_option maxHeartbeats 8000000 in
set_option maxRecDepth 100000 in
theorem rsweepE_ok {M : Nods} {N : Nms} {c : Int} {nds : List Nd} {is : List Bool} (hA : AI M N c) (hR : Rel M nds is) (hC : Clo M) (size : Int) (hlb : is.length ≤ 100000) (hN : ∀ y ∈ nds, y.refs.length ≤ 1000000) (on : List Int) (hon : on.length ≤ 1000000) (k1 k2 m : Nat) (hn : RcN k1 k2 m [] []) (B : Bool) (hb : on.any (badS M) = B) (hB : B = true) :
    ACall Tryd.prog 22 [.ptr 0 0, .vsl (on.map vi)] (rcS size nds is k1 k2 [] [] m) fun r τ => r = .tup [vi 0, vi 4] ∧ ∃ m', m ≤ m' ∧ (rcS size nds is k1 k2 [] [] m').Le τ := by
  have hnk : ¬ k2 = k1 := fun e => hn.n e.symm
  have a1 := hn.l1
  have a2 := hn.l2
  have hov : (on.map vi).length = on.length := List.length_map _
  have hl := hR.len
  have h0 := hR.pos
  refine acall_of Tryd.func22 Tryd.ntmps22 rfl ?_
  simp only [List.length_cons, List.length_nil, List.cons_append, List.nil_append, List.replicate]
  repeat' first | refine aw_N [] trivial trivial ?_ | refine aw_cond rfl (fun h => ?_) (fun h => ?_)
  refine aw_loopW [0, 1, 4, 5, 6] (fun q fr σ => RswI size nds is M on k1 k2 m B q fr σ) on.length ?_ ?_
  · exact ⟨_, le_same _, 0, by omega, hb, rfl, by simp⟩
  · rintro q fr σ ⟨i, hi, hbi, rfl, rfl⟩
    simp -implicitDefEqProofs
    by_cases hlt : i < on.length
    · have hlti : (i : Int) < on.length := by omega
      obtain ⟨r, hr1⟩ : ∃ r, on[i] = r := ⟨_, rfl⟩
      have hrg : on[i]? = some r := by rw [List.getElem?_eq_getElem hlt, hr1]
      have wi : IntKind.i64.wrap ((i : Int) + 1) = (i : Int) + 1 := wrap_id (by omega) (by omega)
      have hh := rhas09_ok size nds is r
      rw [hR.has hA] at hh
      rw [List.drop_eq_getElem_cons hlt, hr1, List.any_cons] at hbi
      repeat' first | refine aw_N [] (And.intro @hlt (And.intro @hlti (And.intro @hr1 (And.intro @hrg @hov)))) trivial ?_ | refine aw_cond rfl (fun h => ?_) (fun h => ?_)
      refine awl_lendD 2 [] rfl rfl rfl (by kernel_rfl) (args := [.ptr 0 0, vi r]) rfl (args' := [rcV size nds is, vi r]) (by
        simp only [List.map_cons, List.map_nil]
        rw [cloD_rc hn]
        simp [cloD]) hh (by simp) (by simp) ?_
      have hbs : badS M r = (!decide (r = 0) && !(gotK M r).isSome) := rfl
      rw [hbs] at hbi
      cases hg : (gotK M r).isSome with
      | true =>
        rw [hg] at hbi
        simp at hbi
        simp -implicitDefEqProofs
        by_cases hr0 : r = 0
        · repeat' first | refine aw_N [] (And.intro @hlt (And.intro @hlti (And.intro @hr1 (And.intro @hrg (And.intro @hov (And.intro @hr0 @wi)))))) trivial ?_ | refine aw_cond rfl (fun h => ?_) (fun h => ?_)
          exact ⟨q - 1, by omega, _, le_same _, i + 1, by omega, by simpa using hbi, rfl, by simp⟩
        · repeat' first | refine aw_N [] (And.intro @hlt (And.intro @hlti (And.intro @hr1 (And.intro @hrg (And.intro @hov (And.intro @hr0 @wi)))))) trivial ?_ | refine aw_cond rfl (fun h => ?_) (fun h => ?_)
          exact ⟨q - 1, by omega, _, le_same _, i + 1, by omega, by simpa using hbi, rfl, by simp⟩
      | false =>
        rw [hg] at hbi
        simp -implicitDefEqProofs
        by_cases hr0 : r = 0
        · simp [hr0] at hbi
          repeat' first | refine aw_N [] (And.intro @hlt (And.intro @hlti (And.intro @hr1 (And.intro @hrg (And.intro @hov (And.intro @hr0 @wi)))))) trivial ?_ | refine aw_cond rfl (fun h => ?_) (fun h => ?_)
          exact ⟨q - 1, by omega, _, le_same _, i + 1, by omega, by simpa using hbi, rfl, by simp⟩
        · simp [hr0] at hbi
          repeat' first | refine aw_N [] (And.intro @hlt (And.intro @hlti (And.intro @hr1 (And.intro @hrg (And.intro @hov @hr0))))) trivial ?_ | refine aw_cond rfl (fun h => ?_) (fun h => ?_)
          exact ⟨by simp [tupOf], m, by omega, le_same _⟩
    · have hlti : ¬ (i : Int) < on.length := by omega
      rw [List.drop_eq_nil_of_le (by omega), List.any_nil] at hbi
      rw [← hbi] at hB
      cases hB
set_option maxHeartbeats 8000000 in
set_option maxRecDepth 100000 in
theorem rsweep_ok {M : Nods} {N : Nms} {c : Int} {nds : List Nd} {is : List Bool} (hA : AI M N c) (hR : Rel M nds is) (hC : Clo M) (size : Int) (hlb : is.length ≤ 100000) (hN : ∀ y ∈ nds, y.refs.length ≤ 1000000) (on : List Int) (hon : on.length ≤ 1000000) (k1 k2 m : Nat) (hn : RcN k1 k2 m [] []) (B : Bool) (hb : on.any (badS M) = B) (hB : B = false) :
    ACall Tryd.prog 22 [.ptr 0 0, .vsl (on.map vi)] (rcS size nds is k1 k2 [] [] m) fun r τ => r = .tup [vi (((livL M).length : Int) - ((rchL M on).length : Int)), vi 0] ∧ ∃ is' k2' m', is'.length = is.length ∧ (∀ h : Nat, is'[h]? = some true ↔ (h : Int) ∈ rchL M on) ∧ RcN k1 k2' m' [] [] ∧ (rcS size nds is' k1 k2' [] [] m').Le τ := by
  have hnk : ¬ k2 = k1 := fun e => hn.n e.symm
  have a1 := hn.l1
  have a2 := hn.l2
  have hov : (on.map vi).length = on.length := List.length_map _
  have hl := hR.len
  have h0 := hR.pos
  refine acall_of Tryd.func22 Tryd.ntmps22 rfl ?_
  simp only [List.length_cons, List.length_nil, List.cons_append, List.nil_append, List.replicate]
  repeat' first | refine aw_N [] trivial trivial ?_ | refine aw_cond rfl (fun h => ?_) (fun h => ?_)
  refine aw_loopW [0, 1, 4, 5, 6] (fun q fr σ => RswI size nds is M on k1 k2 m B q fr σ) on.length ?_ ?_
  · exact ⟨_, le_same _, 0, by omega, hb, rfl, by simp⟩
  · rintro q fr σ ⟨i, hi, hbi, rfl, rfl⟩
    simp -implicitDefEqProofs
    by_cases hlt : i < on.length
    · have hlti : (i : Int) < on.length := by omega
      obtain ⟨r, hr1⟩ : ∃ r, on[i] = r := ⟨_, rfl⟩
      have hrg : on[i]? = some r := by rw [List.getElem?_eq_getElem hlt, hr1]
      have wi : IntKind.i64.wrap ((i : Int) + 1) = (i : Int) + 1 := wrap_id (by omega) (by omega)
      have hh := rhas09_ok size nds is r
      rw [hR.has hA] at hh
      rw [List.drop_eq_getElem_cons hlt, hr1, List.any_cons] at hbi
      repeat' first | refine aw_N [] (And.intro @hlt (And.intro @hlti (And.intro @hr1 (And.intro @hrg @hov)))) trivial ?_ | refine aw_cond rfl (fun h => ?_) (fun h => ?_)
      refine awl_lendD 2 [] rfl rfl rfl (by kernel_rfl) (args := [.ptr 0 0, vi r]) rfl (args' := [rcV size nds is, vi r]) (by
        simp only [List.map_cons, List.map_nil]
        rw [cloD_rc hn]
        simp [cloD]) hh (by simp) (by simp) ?_
      have hbs : badS M r = (!decide (r = 0) && !(gotK M r).isSome) := rfl
      rw [hbs] at hbi
      cases hg : (gotK M r).isSome with
      | true =>
        rw [hg] at hbi
        simp at hbi
        simp -implicitDefEqProofs
        by_cases hr0 : r = 0
        · repeat' first | refine aw_N [] (And.intro @hlt (And.intro @hlti (And.intro @hr1 (And.intro @hrg (And.intro @hov (And.intro @hr0 @wi)))))) trivial ?_ | refine aw_cond rfl (fun h => ?_) (fun h => ?_)
          exact ⟨q - 1, by omega, _, le_same _, i + 1, by omega, by simpa using hbi, rfl, by simp⟩
        · repeat' first | refine aw_N [] (And.intro @hlt (And.intro @hlti (And.intro @hr1 (And.intro @hrg (And.intro @hov (And.intro @hr0 @wi)))))) trivial ?_ | refine aw_cond rfl (fun h => ?_) (fun h => ?_)
          exact ⟨q - 1, by omega, _, le_same _, i + 1, by omega, by simpa using hbi, rfl, by simp⟩
      | false =>
        rw [hg] at hbi
        simp -implicitDefEqProofs
        by_cases hr0 : r = 0
        · simp [hr0] at hbi
          repeat' first | refine aw_N [] (And.intro @hlt (And.intro @hlti (And.intro @hr1 (And.intro @hrg (And.intro @hov (And.intro @hr0 @wi)))))) trivial ?_ | refine aw_cond rfl (fun h => ?_) (fun h => ?_)
          exact ⟨q - 1, by omega, _, le_same _, i + 1, by omega, by simpa using hbi, rfl, by simp⟩
        · simp [hr0] at hbi
          rw [hB] at hbi
          cases hbi
    · have hlti : ¬ (i : Int) < on.length := by omega
      rw [List.drop_eq_nil_of_le (by omega), List.any_nil] at hbi
      have hnm : ∀ m', m ≤ m' → RcN k1 k2 m' [] [] := fun m' h => ⟨by omega, by omega, hn.n, by simp, by simp, by simp, by simp⟩
      repeat' first | refine aw_N [] (And.intro @hlti @hov) trivial ?_ | refine aw_cond rfl (fun h => ?_) (fun h => ?_)
      refine awl_cons rfl (opq_call rfl rfl rfl ((rreach_ok hA hR hC size hlb hN on hon k1 k2 m hn).mono fun r τ hq => ?_))
      obtain ⟨rfl, m1, hm1, hle⟩ := hq
      refine AWL.less hle ?_
      refine awl_run' [] ?_
      simp -implicitDefEqProofs
      repeat' first | refine aw_N [] trivial trivial ?_ | refine aw_cond rfl (fun h => ?_) (fun h => ?_)
      refine awl_cons rfl (opq_call rfl rfl rfl ((rlive_ok size nds is hl h0 (by omega) k1 k2 m1 (hnm m1 hm1)).mono fun r τ hq => ?_))
      obtain ⟨rfl, m2, hm2, hle⟩ := hq
      rw [hR.live hA]
      refine AWL.less hle ?_
      refine awl_run' [] ?_
      simp -implicitDefEqProofs
      repeat' first | refine aw_N [] trivial trivial ?_ | refine aw_cond rfl (fun h => ?_) (fun h => ?_)
      refine awl_makeS [] rfl rfl (n := is.length) rfl rfl te61 tet61 tz4 rfl (by omega) (by omega) (by omega) ?_
      simp -implicitDefEqProofs
      repeat' first | refine aw_N [] trivial trivial ?_ | refine aw_cond rfl (fun h => ?_) (fun h => ?_)
      have k1m : ¬ k1 = m2 := by omega
      have k2m : ¬ k2 = m2 := by omega
      have mk1 : ¬ m2 = k1 := by omega
      have mk2 : ¬ m2 = k2 := by omega
      have hLlt := rchL_lt hA.ndM on
      have hLl : (rchL M on).length ≤ (livL M).length := sub_len _ _ (lt_nodup hLlt) fun x hx => mem_livL.2 (mem_rchL.1 hx).live
      have hWl : (livL M).length ≤ 100000 := by rw [livL_len]; exact hA.klen
      have hLv : ((rchL M on).map vi).length = (rchL M on).length := List.length_map _
      have hWv : ((livL M).map vi).length = (livL M).length := List.length_map _
      refine aw_loopW [0, 4, 5, 8, 9, 10, 11] (fun q fr σ => RswJ size nds is (rchL M on) (livL M) k1 k2 m2 (m2 + 1) q fr σ) (rchL M on).length ?_ ?_
      · refine ⟨rcS size nds is k1 k2 [] [(m2, (List.replicate is.length false).map fun b => vb b)] (m2 + 1), le_rcS (by simp [ASt.addSl]) (by simp [ASt.addSl, upd, k1m]) (by simp [ASt.addSl, upd, hnk, k2m]) (by simp [ASt.addSl, upd]) (by simp) (by simp [ASt.addSl]), 0, List.replicate is.length false, by omega, by simp, fun h => ?_, rfl, by simp⟩
        rw [List.getElem?_replicate]
        split <;> simp
      · clear hbi hi hlt hlti
        rintro q fr σ ⟨i, inn, hi, hil, hin, rfl, rfl⟩
        simp -implicitDefEqProofs
        have hiv : (inn.map fun b => (vb b : AV)).length = inn.length := List.length_map _
        by_cases hlt : i < (rchL M on).length
        · have hlti : (i : Int) < (rchL M on).length := by omega
          obtain ⟨r, hr1⟩ : ∃ r, (rchL M on)[i] = r := ⟨_, rfl⟩
          have hrg : (rchL M on)[i]? = some r := by rw [List.getElem?_eq_getElem hlt, hr1]
          have wi : IntKind.i64.wrap ((i : Int) + 1) = (i : Int) + 1 := wrap_id (by omega) (by omega)
          have htk : (rchL M on).take (i + 1) = (rchL M on).take i ++ [r] := by rw [List.take_add_one, hrg]; rfl
          have hlv := (mem_rchL.1 (List.mem_of_getElem? hrg)).live
          obtain ⟨y, hy⟩ : ∃ y, gotK M r = some y := by
            cases e : gotK M r with
            | none => rw [e] at hlv; cases hlv
            | some y => exact ⟨y, rfl⟩
          have hr1' := (hA.pos r y hy).1
          obtain ⟨n, rfl⟩ : ∃ n : Nat, r = n := ⟨r.toNat, by omega⟩
          have hnl : n < is.length := by
            have := hR.at_ n (by omega)
            by_cases e : is[n]? = some true
            · exact (List.getElem?_eq_some_iff.1 e).1
            · rw [if_neg e, hy] at this; cases this
          have hnl2 : n < inn.length := by omega
          have hnli : (n : Int) < is.length := by omega
          repeat' (first
            | refine aw_seq ?_
            | (refine aw_run [] ?_; try simp -implicitDefEqProofs (maxSteps := 1000000) [hlt, hlti, hr1, hrg, hLv, hnl, hnl2, hnli, hiv, mk1, mk2, wi])
            | ((first | refine awl_skip' [] rfl ?_ | refine aw_skip ?_ | refine aw_exit ?_); try simp -implicitDefEqProofs (maxSteps := 1000000) [hlt, hlti, hr1, hrg, hLv, hnl, hnl2, hnli, hiv, mk1, mk2, wi])
            | (refine aw_cond rfl (fun h => ?_) (fun h => ?_) <;> try (with_reducible first | exact ff_tt h | exact tt_ff h))
            | refine aw_block ?_
            | refine aw_ret (ret_of (.inr rfl) (by simp [Tryd.results22]; rfl) (Fin.of ?_))
            | refine ret_of (.inl rfl) (by simp [Tryd.results22]; rfl) (Fin.of ?_))
          refine ⟨q - 1, by omega, rcS size nds is k1 k2 [] [(m2, (inn.set n true).map fun b => vb b)] (m2 + 1), le_rcS (by simp) (by simp [upd, k1m]) (by simp [upd, hnk, k2m]) (by simp [upd, List.map_set]) (by simp) (by simp), i + 1, inn.set n true, by omega, by simp [hil], fun h => ?_, rfl, by simp⟩
          rw [htk, List.mem_append, List.getElem?_set, ← hin]
          split
          · rename_i e; subst e; simp
          · rename_i e
            constructor
            · exact .inl
            · rintro (h1 | h1)
              · exact h1
              · have := List.mem_singleton.1 h1; omega
        · have hlti : ¬ (i : Int) < (rchL M on).length := by omega
          rw [List.take_of_length_le (by omega)] at hin
          have ws : IntKind.i64.wrap (((livL M).length : Int) - ((rchL M on).length : Int)) = ((livL M).length : Int) - ((rchL M on).length : Int) := wrap_id (by omega) (by omega)
          repeat' first | refine aw_N [] (And.intro @hlti (And.intro @hLv (And.intro @hWv @ws))) trivial ?_ | refine aw_cond rfl (fun h => ?_) (fun h => ?_)
          exact ⟨by simp [tupOf], inn, hil, hin, m2, m2 + 1, ⟨by omega, by omega, by omega, by simp, by simp, by simp, by simp⟩, le_rcS (by simp [hil]) (by simp) (by simp [mk1, mk2]) (by simp) (by simp) (by simp)⟩
end Go.AL
/-! The plain law: the program's arena and the document's, side by side. -/
namespace Go.AL
set_option linter.unusedSimpArgs false
set_option linter.unusedVariables false
theorem findR_at (x : Nd) : ∀ (nds : List Nd) (is : List Bool) (i h : Nat), 1 ≤ i → findR x nds is i = (h : Int) → 1 ≤ h → i ≤ h ∧ is[h - i]? = some true ∧ nds[h - i]? = some x
  | [], is, i, h, _, e, h1 => by simp [findR] at e; omega
  | y :: nds, [], i, h, _, e, h1 => by simp [findR] at e; omega
  | y :: nds, b :: is, i, h, hi, e, h1 => by
    rw [findR] at e
    split at e
    · rename_i hb
      have : i = h := by omega
      subst this
      simp [hb.1, hb.2]
    · obtain ⟨q1, q2, q3⟩ := findR_at x nds is (i + 1) h (by omega) e h1
      refine ⟨by omega, ?_, ?_⟩
      · rw [show h - i = (h - (i + 1)) + 1 by omega, List.getElem?_cons_succ]; exact q2
      · rw [show h - i = (h - (i + 1)) + 1 by omega, List.getElem?_cons_succ]; exact q3
theorem findR_no (x : Nd) : ∀ (nds : List Nd) (is : List Bool) (i : Nat), 1 ≤ i → findR x nds is i = 0 → ∀ j : Nat, is[j]? = some true → nds[j]? = some x → False
  | [], is, i, _, e, j, h1, h2 => by simp at h2
  | y :: nds, [], i, _, e, j, h1, h2 => by simp at h1
  | y :: nds, b :: is, i, hi, e, j, h1, h2 => by
    rw [findR] at e
    split at e
    · omega
    · rename_i hb
      cases j with
      | zero => simp at h1 h2; exact hb ⟨h1, h2⟩
      | succ j => exact findR_no x nds is (i + 1) (by omega) e j (by simpa using h1) (by simpa using h2)
theorem freeR_pre : ∀ (l : List Bool) (i h : Nat), freeR l i = some h → ∀ k, i ≤ k → k < h → l[k - i]? = some true
  | [], i, h, e, k, _, _ => by cases e
  | b :: l, i, h, e, k, h1, h2 => by
    rw [freeR] at e
    split at e
    · rename_i hb
      by_cases hk : k = i
      · subst hk; simp [hb]
      · rw [show k - i = (k - (i + 1)) + 1 by omega, List.getElem?_cons_succ]
        exact freeR_pre l (i + 1) h e k (by omega) h2
    · cases e; omega
theorem freeR_none : ∀ (l : List Bool) (i : Nat), freeR l i = none → ∀ j < l.length, l[j]? = some true
  | [], i, e, j, h => by simp at h
  | b :: l, i, e, j, h => by
    rw [freeR] at e
    split at e
    · rename_i hb
      cases j with
      | zero => simp [hb]
      | succ j => simpa using freeR_none l (i + 1) e j (by simpa using h)
    · cases e
theorem Rel.gotten {M : Nods} {nds : List Nd} {is : List Bool} (hR : Rel M nds is) {h : Nat} {x : Nd} (h1 : 1 ≤ h) (hg : gotK M h = some x) : is[h]? = some true ∧ nds[h]? = some x := by
  rw [hR.at_ h h1] at hg
  by_cases e : is[h]? = some true
  · rw [if_pos e] at hg; exact ⟨e, hg⟩
  · rw [if_neg e] at hg; cases hg
theorem find_eq {M : Nods} {N : Nms} {c : Int} {nds : List Nd} {is : List Bool} (hA : AI M N c) (hR : Rel M nds is) (y : Nd) : findR y (nds.drop 1) (is.drop 1) 1 = (gotT N (nmB y)).getD 0 := by
  have hl := hR.len
  cases hg : gotT N (nmB y) with
  | some h =>
    obtain ⟨x, e1, e2⟩ := hA.bwd _ _ hg
    obtain rfl := nmB_inj e2
    have h1 := (hA.pos h x e1).1
    obtain ⟨n, rfl⟩ : ∃ n : Nat, h = n := ⟨h.toNat, by omega⟩
    obtain ⟨q1, q2⟩ := hR.gotten (by omega) e1
    rcases findR_nn x (nds.drop 1) (is.drop 1) 1 with hf | ⟨k, k1, k2, hf⟩
    · refine (findR_no x _ _ 1 (by omega) hf (n - 1) ?_ ?_).elim
      · rw [List.getElem?_drop, show 1 + (n - 1) = n by omega]; exact q1
      · rw [List.getElem?_drop, show 1 + (n - 1) = n by omega]; exact q2
    · obtain ⟨_, p2, p3⟩ := findR_at x _ _ 1 k (by omega) hf k1
      rw [List.getElem?_drop, show 1 + (k - 1) = k by omega] at p2 p3
      have hk : gotK M (k : Int) = some x := by rw [hR.at_ k k1, if_pos p2]; exact p3
      have := hA.fwd _ _ hk
      rw [hg] at this
      rw [hf, Option.getD_some]; exact (Option.some.inj this).symm
  | none =>
    rcases findR_nn y (nds.drop 1) (is.drop 1) 1 with hf | ⟨k, k1, k2, hf⟩
    · exact hf
    · obtain ⟨_, p2, p3⟩ := findR_at y _ _ 1 k (by omega) hf k1
      rw [List.getElem?_drop, show 1 + (k - 1) = k by omega] at p2 p3
      have hk : gotK M (k : Int) = some y := by rw [hR.at_ k k1, if_pos p2]; exact p3
      have := hA.fwd _ _ hk
      rw [hg] at this; cases this
theorem free_some {M : Nods} {N : Nms} {c : Int} {nds : List Nd} {is : List Bool} (hA : AI M N c) (hR : Rel M nds is) {h : Nat} (hf : freeR (is.drop 1) 1 = some h) : hN M c = (h : Int) := by
  obtain ⟨q1, q2, q3⟩ := freeR_lt _ _ _ hf
  have q4 := freeR_pre _ _ _ hf
  obtain ⟨n1, n2, n3, n4⟩ := hA.next
  rw [List.getElem?_drop, show 1 + (h - 1) = h by omega] at q3
  have hh : gotK M (h : Int) = none := by rw [hR.at_ h q1, if_neg (by rw [q3]; simp)]
  by_cases h1 : hN M c < h
  · obtain ⟨n, hn⟩ : ∃ n : Nat, hN M c = n := ⟨(hN M c).toNat, by omega⟩
    have := q4 n (by omega) (by omega)
    rw [List.getElem?_drop, show 1 + (n - 1) = n by omega] at this
    obtain ⟨x, _, hx⟩ := hR.got (by omega) this
    rw [hn, hx] at n3; cases n3
  · by_cases h2 : (h : Int) < hN M c
    · have := n4 h (by omega) h2
      rw [hh] at this; cases this
    · omega
theorem free_none {M : Nods} {N : Nms} {c : Int} {nds : List Nd} {is : List Bool} (hA : AI M N c) (hR : Rel M nds is) (hf : freeR (is.drop 1) 1 = none) : hN M c = (is.length : Int) := by
  have q4 := freeR_none _ _ hf
  have hp := hR.pos
  obtain ⟨n1, n2, n3, n4⟩ := hA.next
  have hh : gotK M (is.length : Int) = none := by rw [hR.at_ is.length hp, if_neg (by simp)]
  by_cases h1 : hN M c < is.length
  · obtain ⟨n, hn⟩ : ∃ n : Nat, hN M c = n := ⟨(hN M c).toNat, by omega⟩
    have := q4 (n - 1) (by simp; omega)
    rw [List.getElem?_drop, show 1 + (n - 1) = n by omega] at this
    obtain ⟨x, _, hx⟩ := hR.got (by omega) this
    rw [hn, hx] at n3; cases n3
  · by_cases h2 : (is.length : Int) < hN M c
    · have := n4 is.length (by omega) h2
      rw [hh] at this; cases this
    · omega
/-- A batch in both, over M0. -/
structure LkA (size : Nat) (M0 : Nods) (s : PS) (t : RS) : Prop where
  pi : PI M0.length s
  rel : Rel s.M t.nds t.is
  out : t.out = s.hs
  lb : t.is.length ≤ size + 1
  keep : ∀ n, n ∉ s.gs → gotK s.M n = gotK M0 n
  new : ∀ n ∈ s.gs, gotK M0 n = none
  clo : Clo s.M
theorem LkA.one {size : Nat} {M0 : Nods} {s : PS} {t : RS} {x : Nd} (h : LkA size M0 s t) (hx : NdOk (resN s.hs x)) (hl : M0.length + s.hs.length < 100000) (hr : ∀ r ∈ x.refs, r ≤ 0 ∨ (gotK M0 r).isSome = true) (hr2 : ∀ r ∈ x.refs, -1 - r < s.hs.length) :
    match t.one size x with
    | some t' => LkA size M0 (s.put x) t'
    | none => size < (s.put x).M.length := by
  have hA := h.pi.ai
  have hf := find_eq hA h.rel (resN s.hs x)
  have hPI := (h.pi.put hx hl).1
  have hNx := hA.next
  have hln := h.rel.len
  have hps := h.rel.pos
  have live0 : ∀ n, (gotK M0 n).isSome = true → (gotK s.M n).isSome = true := fun n hn => by
    by_cases e : n ∈ s.gs
    · rw [h.new n e] at hn; cases hn
    · rw [h.keep n e]; exact hn
  have hrl : ∀ r ∈ (resN s.hs x).refs, r ≤ 0 ∨ (gotK s.M r).isSome = true := fun r hr0 => by
    obtain ⟨r0, hm, rfl⟩ := List.mem_map.1 hr0
    unfold resR
    split
    · rename_i hneg
      have := hr2 r0 hm
      have hlt : (-1 - r0).toNat < s.hs.length := by omega
      refine .inr (h.pi.hs _ ?_)
      rw [List.getD_eq_getElem?_getD, List.getElem?_eq_getElem hlt]
      exact List.getElem_mem hlt
    · exact (hr r0 hm).imp id (live0 r0)
  unfold RS.one
  rw [h.out, hf]
  cases hg : gotT s.N (nmB (resN s.hs x)) with
  | some k =>
    obtain ⟨y, e1, _⟩ := hA.bwd _ _ hg
    have hk := (hA.pos k y e1).1
    rw [Option.getD_some, if_neg (by omega)]
    have hp : s.put x = { s with hs := s.hs ++ [k] } := by unfold PS.put; rw [hg]
    rw [hp] at hPI ⊢
    exact ⟨hPI, h.rel, by simp, h.lb, h.keep, h.new, h.clo⟩
  | none =>
    rw [Option.getD_none, if_pos rfl]
    have hp : s.put x = ⟨putK s.M (hN s.M s.c) (resN s.hs x), putT s.N (nmB (resN s.hs x)) (hN s.M s.c), hN s.M s.c, s.hs ++ [hN s.M s.c], s.gs ++ [hN s.M s.c]⟩ := by unfold PS.put; rw [hg]
    rw [hp] at hPI ⊢
    obtain ⟨n1, n2, n3, n4⟩ := hNx
    have keep' : ∀ n, n ∉ s.gs ++ [hN s.M s.c] → gotK (putK s.M (hN s.M s.c) (resN s.hs x)) n = gotK M0 n := fun n hn => by
      simp only [List.mem_append, List.mem_singleton, not_or] at hn
      rw [gotK_put, if_neg (fun e => hn.2 e.symm)]
      exact h.keep n hn.1
    have new' : ∀ n ∈ s.gs ++ [hN s.M s.c], gotK M0 n = none := fun n hn => by
      rcases List.mem_append.1 hn with hn | hn
      · exact h.new n hn
      · obtain rfl := List.mem_singleton.1 hn
        by_cases e : hN s.M s.c ∈ s.gs
        · exact h.new _ e
        · rw [← h.keep _ e]; exact n3
    have liveP : ∀ n, (gotK s.M n).isSome = true → (gotK (putK s.M (hN s.M s.c) (resN s.hs x)) n).isSome = true := fun n hn => by
      rw [gotK_put]
      split
      · rfl
      · exact hn
    have clo' : Clo (putK s.M (hN s.M s.c) (resN s.hs x)) := fun k y hk r hr0 => by
      rw [gotK_put] at hk
      split at hk
      · cases hk
        exact (hrl r hr0).imp id (liveP r)
      · exact (h.clo k y hk r hr0).imp id (liveP r)
    cases hfr : freeR (t.is.drop 1) 1 with
    | some k =>
      have hk := free_some hA h.rel hfr
      obtain ⟨q1, q2, q3⟩ := freeR_lt _ _ _ hfr
      simp at q2
      rw [hk] at hPI keep' new' liveP clo' ⊢
      refine ⟨hPI, ⟨by simp [hln], by simp; exact hps, fun n hn => ?_⟩, rfl, by simp; exact h.lb, keep', new', clo'⟩
      rw [gotK_put, List.getElem?_set, List.getElem?_set]
      by_cases e : k = n
      · subst e
        simp [show k < t.is.length by omega, show k < t.nds.length by omega]
      · have e' : ¬ (k : Int) = (n : Int) := by omega
        rw [if_neg e', if_neg e, if_neg e, h.rel.at_ n hn]
    | none =>
      have hk := free_none hA h.rel hfr
      rw [hk] at hPI keep' new' liveP clo' n4 ⊢
      by_cases hsz : (size : Int) < (t.is.length : Int)
      · simp only [if_pos hsz]
        rw [putK_new (by rw [← hk]; exact n3)]
        have := run_le (M := s.M) (c := 1) (n := t.is.length - 1) fun i hi => n4 _ (by omega) (by omega)
        simp only [List.length_append, List.length_singleton]
        omega
      · simp only [if_neg hsz]
        refine ⟨hPI, ⟨by simp [hln], by simp, fun n hn => ?_⟩, rfl, by simp; omega, keep', new', clo'⟩
        rw [gotK_put]
        by_cases e : (t.is.length : Int) = (n : Int)
        · have e2 : n = t.is.length := by omega
          subst e2
          rw [if_pos rfl, ← hln]
          simp [hln]
        · rw [if_neg e, h.rel.at_ n hn, List.getElem?_append, List.getElem?_append]
          have e2 : n ≠ t.is.length := fun e3 => e (by rw [e3])
          by_cases e3 : n < t.is.length
          · have e4 : n < t.nds.length := by omega
            simp only [if_pos e3, if_pos e4]
          · have e4 : ¬ n < t.nds.length := by omega
            have e5 : t.is[n]? = none := List.getElem?_eq_none (by omega)
            have e6 : [true][n - t.is.length]? = none := List.getElem?_eq_none (by simp; omega)
            simp only [if_neg e3, if_neg e4, e5, e6]
            simp
end Go.AL
