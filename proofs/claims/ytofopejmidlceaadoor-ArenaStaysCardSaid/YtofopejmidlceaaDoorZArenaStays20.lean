/- Parts of the proof of ArenaStays: the logic, contracts, plain laws. -/
import Derived.Test.YtofopejmidlceaaDoorZArenaStays19
/-! gridironlaw09.ArenaStays. -/
namespace Go.AL
open Go.Proofs
set_option linter.unusedSimpArgs false
set_option linter.unusedVariables false
theorem acL {f : FuncId} {args : List AV} {room : Int} {es fs : List (AV × AV)} {c : Int} {r : AV} {bs ss : List (Nat × List AV)} {m : Nat} (h : AC Tryd.prog f args room es fs c r es fs c) (ha : ∀ a ∈ args, Cl a) (hr : Cl r) (hes : clM es) (hfs : clM fs) (h1 : ∀ p ∈ bs, 2 < p.1) (h2 : ∀ p ∈ ss, 2 < p.1) :
    ACall Tryd.prog f (.ptr 2 0 :: args) (laS room es fs c bs ss m) fun r' τ => r' = r ∧ τ = laS room es fs c bs ss m :=
  (h.call ha hr hes hfs hes hfs (at_laS h1 h2)).mono fun r' τ ⟨e1, e2⟩ => ⟨e1, by rw [e2, laS_ar]⟩
def u8v (z : Int) : AV := .p (.int .u8 z)
def StI (room : Nat) (l : List Ac) (keep : List Int) (q : Nat) (fr : List AV) (σ : ASt) : Prop := ∃ (i : Nat) (M : Nods) (N : Nms) (c : Int) (m : Nat), i + q = l.length ∧ PaI room M N c ∧ 2 < m ∧ σ = laS room (esK ndA M) (esT vi N) c [] [] m ∧
  fr = frm 290 [(0, u8v room), (1, .vsl (l.map acA)), (2, .vsl (keep.map u8v)), (6, vb false), (8, .ptr 2 0), (10, vi (i : Nat))]
def StJ (room : Nat) (l : List Ac) (keep : List Int) (M : Nods) (N : Nms) (c : Int) (i : Nat) (hs : List Int) (q : Nat) (fr : List AV) (σ : ASt) : Prop := ∃ (k m : Nat), k + q = hs.length ∧ 2 < m ∧ σ = laS room (esK ndA M) (esT vi N) c [] [] m ∧
  fr = frm 290 [(0, u8v room), (1, .vsl (l.map acA)), (2, .vsl (keep.map u8v)), (6, vb false), (8, .ptr 2 0), (10, vi (i : Nat)), (11, .vsl (hs.map vi)), (13, vi (k : Nat))]
noncomputable def nAt (M : Nods) (h : Int) : Nd := (gotK M h).getD ndZ
def StK (room : Nat) (keep : List Int) (M : Nods) (N : Nms) (c : Int) (W : List Nd) (q : Nat) (fr : List AV) (σ : ASt) : Prop := ∃ (i kw m : Nat) (V : List Nd), i + q = (livL M).length ∧ 2 < kw ∧ kw < m ∧ V = W.take i ∧ σ = laS room (esK ndA M) (esT vi N) c [] [(kw, V.map ndA)] m ∧
  fr = frm 290 [(0, u8v room), (2, .vsl (keep.map u8v)), (6, vb false), (8, .ptr 2 0), (16, .vsl ((livL M).map vi)), (17, .hsl kw 0 i), (18, vi (i : Nat))]
def StL (room : Nat) (keep : List Int) (M : Nods) (N : Nms) (c : Int) (V : List Nd) (i kw B : Nat) (x : Nd) (q : Nat) (fr : List AV) (σ : ASt) : Prop := ∃ (k : Nat), k + q = i ∧ σ = laS room (esK ndA M) (esT vi N) c [(B, [vi x.k, .vsl (x.refs.map vi), .vsl (x.nums.map vi), vs x.text])] [(kw, V.map ndA)] (B + 1) ∧
  fr = frm 290 [(0, u8v room), (2, .vsl (keep.map u8v)), (6, vb false), (8, .ptr 2 0), (16, .vsl ((livL M).map vi)), (17, .hsl kw 0 i), (18, vi (i : Nat)), (19, .ptr B 0), (21, vi (k : Nat))]
def StM (room : Nat) (keep : List Int) (M : Nods) (N : Nms) (c : Int) (V : List Nd) (kw m : Nat) (q : Nat) (fr : List AV) (σ : ASt) : Prop := ∃ (i kr T : Nat) (rs : List Int), i + q = keep.length ∧ m ≤ kr ∧ kr < T ∧ kw < m ∧ (∀ r ∈ rs, r ∈ livL M) ∧ rs.length ≤ i ∧ σ = laS room (esK ndA M) (esT vi N) c [] [(kw, V.map ndA), (kr, rs.map vi)] T ∧
  fr = frm 290 [(0, u8v room), (2, .vsl (keep.map u8v)), (6, vb false), (8, .ptr 2 0), (16, .vsl ((livL M).map vi)), (17, .hsl kw 0 (livL M).length), (23, .hsl kr 0 rs.length), (24, vi (i : Nat))]
def StE (room : Nat) (M : Nods) (N : Nms) (c : Int) (V : List Nd) (kw m : Nat) (fr : List AV) (σ : ASt) : Prop := ∃ (kr T : Nat) (rs : List Int), m ≤ kr ∧ kr < T ∧ kw < m ∧ (∀ r ∈ rs, r ∈ livL M) ∧ rs.length ≤ 200 ∧ σ = laS room (esK ndA M) (esT vi N) c [] [(kw, V.map ndA), (kr, rs.map vi)] T ∧
  fr = frm 290 [(0, u8v room), (6, vb false), (8, .ptr 2 0), (16, .vsl ((livL M).map vi)), (17, .hsl kw 0 (livL M).length), (23, .hsl kr 0 rs.length)]
def StF (room : Nat) (L : List Int) (V : List Nd) (M : Nods) (N : Nms) (c : Int) (q : Nat) (fr : List AV) (σ : ASt) : Prop := ∃ (i m : Nat), i + q = L.length ∧ 2 < m ∧ σ = laS room (esK ndA M) (esT vi N) c [] [] m ∧
  fr = frm 290 [(6, vb false), (8, .ptr 2 0), (16, .vsl (L.map vi)), (17, .vsl (V.map ndA)), (31, vi (i : Nat))]
theorem aw_midB {P : Program} {σ : ASt} {D : List Deferred} {Q Q2 : Exit → List AV → ASt → Prop} {fr : List AV} {c c2 : Code} {id : Nat} (ks : List Nat) (I : List AV → ASt → Prop) (hI : ∀ fr σ, I fr σ → AW P D c2 Q2 fr σ) (h : AW P D c (inBlockA id (thenA (fun fr σ => ∃ τ, ASt.Le τ σ ∧ I (keep ks 0 fr) τ) Q)) fr σ) : AW P D c (inBlockA id (thenA (AW P D c2 Q2) Q)) fr σ := by
  refine AW.mono (fun e fr σ h => ?_) h
  have done : (∃ τ, ASt.Le τ σ ∧ I (keep ks 0 fr) τ) → AW P D c2 Q2 fr σ := fun ⟨τ, hl, h⟩ => aw_weak hl (aw_keep ks (hI _ _ h))
  cases e with
  | normal => exact done h
  | exit id' =>
    simp only [inBlockA] at h ⊢
    split
    · rename_i e; rw [if_pos e] at h; exact done h
    · rename_i e; rw [if_neg e] at h; exact h
  | _ => exact h
set_option maxHeartbeats 16000000 in
set_option maxRecDepth 100000 in
theorem stays9_ok (R : Nat) (hR : R < 256) (l : List Ac) (hll : l.length ≤ 9223372036854775807) (hin : ∀ a ∈ l, AcIn a) (keep : List Int) (hkl : keep.length ≤ 9223372036854775807) (hkp : ∀ z ∈ keep, 0 ≤ z ∧ z < 256) : APure Tryd.prog 4 [u8v R, .vsl (l.map acA), .vsl (keep.map u8v)] (vb true) := by
  have hf := fits9_ok l hll hin
  have hlv : (l.map acA).length = l.length := List.length_map _
  have hkv : (keep.map u8v).length = keep.length := List.length_map _
  have hu8 : u8v R = .p (.int .u8 R) := rfl
  have wr : IntKind.i64.wrap (R : Int) = R := wrap_id (by omega) (by omega)
  rw [hu8]
  refine apure_in Tryd.func4 Tryd.ntmps4 rfl ?_
  repeat' (first
    | refine aw_seq ?_
    | ((first | refine aw_run [14, 19, 32] ?_ | refine aw_ymix [14, 19, 32] draws (by decide +kernel) ?_); try simp -implicitDefEqProofs (maxSteps := 1000000) [wr])
    | ((first | refine aw_zrun [14, 19, 32] [] draws (by decide +kernel) (by decide +kernel) ?_ | refine zl_skip (by simp) rfl ?_ | refine zl_pure_guard (by simp) rfl rfl rfl (by first | assumption | kernel_rfl) rfl (fun hc => by first | exact hf) (by simp) (by simp) (by simp) ?_ | refine zl_pure (by simp) rfl rfl rfl (by first | assumption | kernel_rfl) rfl (by first | exact hf) (by simp) (by simp) ?_); try simp -implicitDefEqProofs (maxSteps := 1000000) [wr]; repeat first | refine zcurL (by decide +kernel) ?_ | refine zcurH (by decide +kernel) ?_ | refine zcurL' (by decide +kernel) ?_ | refine zcurH' (by decide +kernel) ?_)
    | ((first | refine aw_yrun draws (by kernel_rfl) ?_ | refine awl_skip' [14, 19, 32] rfl ?_ | refine yl_skip rfl ?_ | refine awl_pure_guard [14, 19, 32] rfl rfl rfl (by first | assumption | kernel_rfl) rfl (fun hc => by first | exact hf) (by simp) (by simp) (by simp) ?_ | refine yl_pureG rfl rfl rfl (by first | assumption | kernel_rfl) rfl (fun hc => by first | exact hf) (by simp) (by simp) (by simp) ?_ | refine awl_pure' [14, 19, 32] rfl rfl rfl (by first | assumption | kernel_rfl) rfl (by first | exact hf) (by simp) (by simp) ?_ | refine yl_pure rfl rfl rfl (by first | assumption | kernel_rfl) rfl (by first | exact hf) (by simp) (by simp) ?_ | refine aw_skip ?_ | refine aw_exit ?_); try simp -implicitDefEqProofs (maxSteps := 1000000) [wr])
    | (refine aw_cond rfl (fun h => ?_) (fun h => ?_) <;> try (with_reducible first | exact ff_tt h | exact tt_ff h))
    | refine aw_block ?_
    | refine aw_ret (ret_of (.inr rfl) (by simp [Tryd.results4]; rfl) (Fin.of ?_))
    | refine ret_of (.inl rfl) (by simp [Tryd.results4]; rfl) (Fin.of ?_))
  refine awl_cons rfl (opq_call rfl rfl rfl ((anew_ok R (by omega) _).mono fun r τ ⟨e1, e2⟩ => ?_))
  subst e1 e2
  refine AWL.less (τ := laS R (esK ndA []) (esT vi []) 1 [] [] 3) (le_laS (by simp [ASt.addMp, ASt.addBx, σ0]) (by simp [ASt.addMp, ASt.addBx, σ0, esK, upd]) (by simp [ASt.addMp, ASt.addBx, σ0, esT, upd]) (by simp) (by simp) (by simp [ASt.addMp, ASt.addBx, σ0])) ?_
  refine awl_run' [14, 19, 32] ?_
  simp -implicitDefEqProofs
  cases hfit : fits9 l with
  | false =>
    repeat' first | refine aw_W [14, 19, 32] @hkv (And.intro @alive9_ok trivial) ?_ | refine aw_cond rfl (fun h => ?_) (fun h => ?_)
    all_goals first | rfl | (simp [tupOf]; done) | trace_state
  | true =>
    have hok : ∀ a ∈ l, AcOk a := fitA_ok l 0 0 (by simp [fits9] at hfit; exact hfit.2) hin
    have hl200 : l.length ≤ 200 := by simp [fits9] at hfit; exact hfit.1
    by_cases hk2 : 200 < keep.length
    · have hk2i : (200 : Int) < (keep.length : Int) := by omega
      repeat' first | refine aw_W [14, 19, 32] (And.intro @hkv (And.intro @hk2 @hk2i)) (And.intro @alive9_ok trivial) ?_ | refine aw_cond rfl (fun h => ?_) (fun h => ?_)
      all_goals first | rfl | (simp [tupOf]; done) | trace_state
    · have hk2i : ¬ (200 : Int) < (keep.length : Int) := by omega
      repeat' first | refine aw_W [14, 19, 32] (And.intro @hkv (And.intro @hk2 @hk2i)) trivial ?_ | refine aw_cond rfl (fun h => ?_) (fun h => ?_)
      refine aw_loopW [0, 1, 2, 6, 8, 10] (fun q fr σ => StI R l keep q fr σ) l.length ?_ ?_
      · exact ⟨_, le_same _, 0, [], [], 1, 3, by omega, PaI.start R, by omega, rfl, by simp [u8v]⟩
      · rintro q fr σ ⟨i, M, N, c, m, hi, hP, hm, rfl, rfl⟩
        simp -implicitDefEqProofs
        by_cases hlt : i < l.length
        · have hlti : (i : Int) < l.length := by omega
          obtain ⟨a, ha1⟩ : ∃ a, l[i] = a := ⟨_, rfl⟩
          have hag : l[i]? = some a := by rw [List.getElem?_eq_getElem hlt, ha1]
          have hao := hok a (List.mem_of_getElem? hag)
          have hak := hao.k
          have hal := hao.ll
          have har := hao.rl
          have hx : ∀ x ∈ a.l, NdOk x := fun x hx => (hao.nd x hx).1
          have hnd : acA a = .agg [.p (.int .u8 a.k), .vsl (a.l.map ndA), .vsl (a.roots.map vi)] := rfl
          have wi : IntKind.i64.wrap ((i : Int) + 1) = (i : Int) + 1 := wrap_id (by omega) (by omega)
          obtain ⟨kk, hkk⟩ : ∃ kk, a.k.tmod 8 = kk := ⟨_, rfl⟩
          by_cases h5 : kk = 5
          · repeat' first | refine aw_W [14, 19, 32] (And.intro @hlt (And.intro @hlti (And.intro @ha1 (And.intro @hag (And.intro @hlv (And.intro @hnd (And.intro @hkk @h5))))))) trivial ?_ | refine aw_cond rfl (fun h => ?_) (fun h => ?_)
            cases hb : a.roots.any (badS M) with
            | true =>
              refine awl_ar [14, 19, 32] rfl rfl rfl (by kernel_rfl) (asweepE_ok M N R c hP.ai a.roots (by omega) hb) rfl (cl_one (cl_vis _)) (cl_tup2 (.p _) (.p _)) (cl_esN _) (cl_esT _) (cl_esN _) (cl_esT _) (at_laS (by simp) (by simp)) ?_
              simp -implicitDefEqProofs
              repeat' first | refine aw_W [14, 19, 32] @wi trivial ?_ | refine aw_cond rfl (fun h => ?_) (fun h => ?_)
              exact ⟨q - 1, by omega, _, le_same _, i + 1, M, N, c, m, by omega, hP, hm, rfl, by simp [u8v]⟩
            | false =>
              obtain ⟨D, hD⟩ : ∃ D, (livL M).filter (fun x => !decide (x ∈ rchL M a.roots)) = D := ⟨_, rfl⟩
              obtain ⟨d, hd⟩ : ∃ d, (⟨M, N, c⟩ : AS).drops D = d := ⟨_, rfl⟩
              refine awl_ar [14, 19, 32] rfl rfl rfl (by kernel_rfl) (asweep_ok M N R c hP.ai a.roots (by omega) hb D hD d hd) rfl (cl_one (cl_vis _)) (cl_tup2 (.p _) (.p _)) (cl_esN _) (cl_esT _) (cl_esN _) (cl_esT _) (at_laS (by simp) (by simp)) ?_
              simp -implicitDefEqProofs
              repeat' first | refine aw_W [14, 19, 32] @wi trivial ?_ | refine aw_cond rfl (fun h => ?_) (fun h => ?_)
              exact ⟨q - 1, by omega, _, le_same _, i + 1, d.M, d.N, d.c, m, by omega, hP.sweep hD hd, hm, rfl, by simp [u8v]⟩
          · repeat' first | refine aw_W [14, 19, 32] (And.intro @hlt (And.intro @hlti (And.intro @ha1 (And.intro @hag (And.intro @hlv (And.intro @hnd (And.intro @hkk @h5))))))) trivial ?_ | refine aw_cond rfl (fun h => ?_) (fun h => ?_)
            cases hb : badL M a.l 0 with
            | true =>
              refine awl_ar [14, 19, 32] rfl rfl rfl (by kernel_rfl) (aputBad_ok M N R c a.l (hP.lok (by omega) (by omega) hx) hb) rfl (cl_one (.vsl _ (cl_nds _))) (cl_tup2 (.p _) (.p _)) (cl_esN _) (cl_esT _) (cl_esN _) (cl_esT _) (at_laS (by simp) (by simp)) ?_
              simp -implicitDefEqProofs
              repeat' first | refine aw_W [14, 19, 32] (And.intro @hlt (And.intro @hlti (And.intro @ha1 (And.intro @hag (And.intro @hlv @hnd))))) trivial ?_ | refine aw_cond rfl (fun h => ?_) (fun h => ?_)
              refine aw_soft 11 (c' := .vsl (([] : List Int).map vi)) rfl (fun G w v h => rep_nil h) ?_
              simp -implicitDefEqProofs only [List.set]
              have hP2 := hP
              have hkt : ∀ (k : Nat) (h : Int), ([] : List Int)[k]? = some h → ∃ x y, a.l[k]? = some x ∧ gotK M h = some y ∧ y.k = x.k ∧ y.text = x.text := fun k h e => by simp at e
              have hsl : ([] : List Int).length ≤ 1000 := by simp
              refine aw_loopW [0, 1, 2, 6, 8, 10, 11, 13] (fun q fr σ => StJ R l keep M N c i ([] : List Int) q fr σ) (([] : List Int)).length ?_ ?_
              · exact ⟨_, le_same _, 0, m, by omega, hm, rfl, by simp [u8v]⟩
              · rintro q2 fr σ ⟨k, m, hk, hm, rfl, rfl⟩
                obtain ⟨hss, hhs⟩ : ∃ hss, hss = ([] : List Int) := ⟨_, rfl⟩
                rw [← hhs] at hk hkt hsl ⊢
                simp -implicitDefEqProofs
                have hvv : (hss.map vi).length = hss.length := List.length_map _
                have m2 : ¬ m = 2 := by omega
                have m2' : ¬ 2 = m := by omega
                by_cases hltk : k < hss.length
                · have hltki : (k : Int) < hss.length := by omega
                  obtain ⟨g, hg1⟩ : ∃ g, hss[k] = g := ⟨_, rfl⟩
                  have hgg : hss[k]? = some g := by rw [List.getElem?_eq_getElem hltk, hg1]
                  have wk : IntKind.i64.wrap ((k : Int) + 1) = (k : Int) + 1 := wrap_id (by omega) (by omega)
                  obtain ⟨x, y, hxk, hy, hy1, hy2⟩ := hkt k g hgg
                  have hkl : k < a.l.length := (List.getElem?_eq_some_iff.1 hxk).1
                  have hkli : (k : Int) < a.l.length := by omega
                  have hx1 : a.l[k] = x := by rw [List.getElem?_eq_getElem hkl] at hxk; exact Option.some.inj hxk
                  have hyo := (hP2.ai.pos _ y hy).2.2
                  have c1 := aget_ok M (esT vi N) (cl_esT N) R c g y hy hyo
                  have hyd : ndA y = .agg [vi y.k, .vsl (y.refs.map vi), .vsl (y.nums.map vi), vs y.text] := rfl
                  have hxd : ndA x = .agg [vi x.k, .vsl (x.refs.map vi), .vsl (x.nums.map vi), vs x.text] := rfl
                  have hcy := cl_ndA y
                  rw [hyd, hy1, hy2] at c1 hcy
                  have hv2 : (a.l.map ndA).length = a.l.length := List.length_map _
                  repeat' first | refine aw_W [14, 19, 32] (And.intro @hltk (And.intro @hltki (And.intro @hg1 (And.intro @hgg @hvv)))) trivial ?_ | refine aw_cond rfl (fun h => ?_) (fun h => ?_)
                  refine awl_cons rfl (opq_call rfl rfl rfl ((acL c1 (cl_one (.p _)) (cl_tup2 hcy (.p _)) (cl_esN _) (cl_esT _) (by simp) (by simp)).mono fun r τ ⟨e1, e2⟩ => ?_))
                  subst e1 e2
                  refine awl_run' [14, 19, 32] ?_
                  simp -implicitDefEqProofs
                  repeat' first | refine aw_W [14, 19, 32] (And.intro @hlt (And.intro @hlti (And.intro @ha1 (And.intro @hag (And.intro @hlv (And.intro @hnd (And.intro @hkl (And.intro @hkli (And.intro @hx1 (And.intro @hxk (And.intro @hxd (And.intro @hv2 (And.intro @m2 (And.intro @m2' @wk)))))))))))))) trivial ?_ | refine aw_cond rfl (fun h => ?_) (fun h => ?_)
                  exact ⟨q2 - 1, by omega, laS R (esK ndA M) (esT vi N) c [] [] (m + 1), le_laS (by simp [upd, m2']) (by simp) (by simp) (by simp) (by simp) (by simp), k + 1, m + 1, by omega, by omega, rfl, by simp [u8v, hhs]⟩
                · have hltki : ¬ (k : Int) < hss.length := by omega
                  repeat' first | refine aw_W [14, 19, 32] (And.intro @hltki (And.intro @hvv @wi)) trivial ?_ | refine aw_cond rfl (fun h => ?_) (fun h => ?_)
                  exact ⟨q - 1, by omega, _, le_same _, i + 1, M, N, c, m, by omega, hP2, hm, rfl, by simp [u8v]⟩
            | false =>
              have hL := hP.lok (by omega) (l := a.l) (by omega) hx
              obtain ⟨s, hs⟩ : ∃ s, (ps0 M N c).puts a.l = s := ⟨_, rfl⟩
              by_cases hsm : s.M.length ≤ R
              · obtain ⟨hP2, hsl0, hkt0⟩ := hP.put (by omega) (by omega) hx hb hs hsm
                have hsli : (s.hs.length : Int) = a.l.length := by omega
                have hv1 : (s.hs.map vi).length = s.hs.length := List.length_map _
                have hv2 : (a.l.map ndA).length = a.l.length := List.length_map _
                refine awl_ar [14, 19, 32] rfl rfl rfl (by kernel_rfl) (aputOk_ok M N R c a.l hL hb s hs (by omega)) rfl (cl_one (.vsl _ (cl_nds _))) (cl_tup2 (cl_vis _) (.p _)) (cl_esN _) (cl_esT _) (cl_esN _) (cl_esT _) (at_laS (by simp) (by simp)) ?_
                simp -implicitDefEqProofs
                repeat' first | refine aw_W [14, 19, 32] (And.intro @hlt (And.intro @hlti (And.intro @ha1 (And.intro @hag (And.intro @hlv (And.intro @hnd (And.intro @hsl0 (And.intro @hsli (And.intro @hv1 @hv2))))))))) trivial ?_ | refine aw_cond rfl (fun h => ?_) (fun h => ?_)
                have hkt : ∀ (k : Nat) (h : Int), s.hs[k]? = some h → ∃ x y, a.l[k]? = some x ∧ gotK s.M h = some y ∧ y.k = x.k ∧ y.text = x.text := fun k h e => by
                  have hk := (List.getElem?_eq_some_iff.1 e).1
                  obtain ⟨x, hxk⟩ : ∃ x, a.l[k]? = some x := ⟨_, List.getElem?_eq_getElem (by omega)⟩
                  obtain ⟨h', y, q1, q2, q3⟩ := hkt0 k x hxk
                  rw [e] at q1
                  cases q1
                  exact ⟨x, y, hxk, q2, q3⟩
                have hsl : s.hs.length ≤ 1000 := by omega
                refine aw_loopW [0, 1, 2, 6, 8, 10, 11, 13] (fun q fr σ => StJ R l keep s.M s.N s.c i s.hs q fr σ) (s.hs).length ?_ ?_
                · exact ⟨_, le_same _, 0, m, by omega, hm, rfl, by simp [u8v]⟩
                · rintro q2 fr σ ⟨k, m, hk, hm, rfl, rfl⟩
                  obtain ⟨hss, hhs⟩ : ∃ hss, hss = s.hs := ⟨_, rfl⟩
                  rw [← hhs] at hk hkt hsl ⊢
                  simp -implicitDefEqProofs
                  have hvv : (hss.map vi).length = hss.length := List.length_map _
                  have m2 : ¬ m = 2 := by omega
                  have m2' : ¬ 2 = m := by omega
                  by_cases hltk : k < hss.length
                  · have hltki : (k : Int) < hss.length := by omega
                    obtain ⟨g, hg1⟩ : ∃ g, hss[k] = g := ⟨_, rfl⟩
                    have hgg : hss[k]? = some g := by rw [List.getElem?_eq_getElem hltk, hg1]
                    have wk : IntKind.i64.wrap ((k : Int) + 1) = (k : Int) + 1 := wrap_id (by omega) (by omega)
                    obtain ⟨x, y, hxk, hy, hy1, hy2⟩ := hkt k g hgg
                    have hkl : k < a.l.length := (List.getElem?_eq_some_iff.1 hxk).1
                    have hkli : (k : Int) < a.l.length := by omega
                    have hx1 : a.l[k] = x := by rw [List.getElem?_eq_getElem hkl] at hxk; exact Option.some.inj hxk
                    have hyo := (hP2.ai.pos _ y hy).2.2
                    have c1 := aget_ok s.M (esT vi s.N) (cl_esT s.N) R s.c g y hy hyo
                    have hyd : ndA y = .agg [vi y.k, .vsl (y.refs.map vi), .vsl (y.nums.map vi), vs y.text] := rfl
                    have hxd : ndA x = .agg [vi x.k, .vsl (x.refs.map vi), .vsl (x.nums.map vi), vs x.text] := rfl
                    have hcy := cl_ndA y
                    rw [hyd, hy1, hy2] at c1 hcy
                    have hv2 : (a.l.map ndA).length = a.l.length := List.length_map _
                    repeat' first | refine aw_W [14, 19, 32] (And.intro @hltk (And.intro @hltki (And.intro @hg1 (And.intro @hgg @hvv)))) trivial ?_ | refine aw_cond rfl (fun h => ?_) (fun h => ?_)
                    refine awl_cons rfl (opq_call rfl rfl rfl ((acL c1 (cl_one (.p _)) (cl_tup2 hcy (.p _)) (cl_esN _) (cl_esT _) (by simp) (by simp)).mono fun r τ ⟨e1, e2⟩ => ?_))
                    subst e1 e2
                    refine awl_run' [14, 19, 32] ?_
                    simp -implicitDefEqProofs
                    repeat' first | refine aw_W [14, 19, 32] (And.intro @hlt (And.intro @hlti (And.intro @ha1 (And.intro @hag (And.intro @hlv (And.intro @hnd (And.intro @hkl (And.intro @hkli (And.intro @hx1 (And.intro @hxk (And.intro @hxd (And.intro @hv2 (And.intro @m2 (And.intro @m2' @wk)))))))))))))) trivial ?_ | refine aw_cond rfl (fun h => ?_) (fun h => ?_)
                    exact ⟨q2 - 1, by omega, laS R (esK ndA s.M) (esT vi s.N) s.c [] [] (m + 1), le_laS (by simp [upd, m2']) (by simp) (by simp) (by simp) (by simp) (by simp), k + 1, m + 1, by omega, by omega, rfl, by simp [u8v, hhs]⟩
                  · have hltki : ¬ (k : Int) < hss.length := by omega
                    repeat' first | refine aw_W [14, 19, 32] (And.intro @hltki (And.intro @hvv @wi)) trivial ?_ | refine aw_cond rfl (fun h => ?_) (fun h => ?_)
                    exact ⟨q - 1, by omega, _, le_same _, i + 1, s.M, s.N, s.c, m, by omega, hP2, hm, rfl, by simp [u8v]⟩
              · obtain ⟨d, hd⟩ : ∃ d, (⟨s.M, s.N, s.c⟩ : AS).drops s.gs = d := ⟨_, rfl⟩
                refine awl_ar [14, 19, 32] rfl rfl rfl (by kernel_rfl) (aputFull_ok M N R c a.l hL hb s hs (by omega) d hd) rfl (cl_one (.vsl _ (cl_nds _))) (cl_tup2 (.p _) (.p _)) (cl_esN _) (cl_esT _) (cl_esN _) (cl_esT _) (at_laS (by simp) (by simp)) ?_
                simp -implicitDefEqProofs
                repeat' first | refine aw_W [14, 19, 32] (And.intro @hlt (And.intro @hlti (And.intro @ha1 (And.intro @hag (And.intro @hlv @hnd))))) trivial ?_ | refine aw_cond rfl (fun h => ?_) (fun h => ?_)
                refine aw_soft 11 (c' := .vsl (([] : List Int).map vi)) rfl (fun G w v h => rep_nil h) ?_
                simp -implicitDefEqProofs only [List.set]
                have hP2 := hP.full (by omega) (by omega) hx hs hd
                have hkt : ∀ (k : Nat) (h : Int), ([] : List Int)[k]? = some h → ∃ x y, a.l[k]? = some x ∧ gotK d.M h = some y ∧ y.k = x.k ∧ y.text = x.text := fun k h e => by simp at e
                have hsl : ([] : List Int).length ≤ 1000 := by simp
                refine aw_loopW [0, 1, 2, 6, 8, 10, 11, 13] (fun q fr σ => StJ R l keep d.M d.N d.c i ([] : List Int) q fr σ) (([] : List Int)).length ?_ ?_
                · exact ⟨_, le_same _, 0, m, by omega, hm, rfl, by simp [u8v]⟩
                · rintro q2 fr σ ⟨k, m, hk, hm, rfl, rfl⟩
                  obtain ⟨hss, hhs⟩ : ∃ hss, hss = ([] : List Int) := ⟨_, rfl⟩
                  rw [← hhs] at hk hkt hsl ⊢
                  simp -implicitDefEqProofs
                  have hvv : (hss.map vi).length = hss.length := List.length_map _
                  have m2 : ¬ m = 2 := by omega
                  have m2' : ¬ 2 = m := by omega
                  by_cases hltk : k < hss.length
                  · have hltki : (k : Int) < hss.length := by omega
                    obtain ⟨g, hg1⟩ : ∃ g, hss[k] = g := ⟨_, rfl⟩
                    have hgg : hss[k]? = some g := by rw [List.getElem?_eq_getElem hltk, hg1]
                    have wk : IntKind.i64.wrap ((k : Int) + 1) = (k : Int) + 1 := wrap_id (by omega) (by omega)
                    obtain ⟨x, y, hxk, hy, hy1, hy2⟩ := hkt k g hgg
                    have hkl : k < a.l.length := (List.getElem?_eq_some_iff.1 hxk).1
                    have hkli : (k : Int) < a.l.length := by omega
                    have hx1 : a.l[k] = x := by rw [List.getElem?_eq_getElem hkl] at hxk; exact Option.some.inj hxk
                    have hyo := (hP2.ai.pos _ y hy).2.2
                    have c1 := aget_ok d.M (esT vi d.N) (cl_esT d.N) R d.c g y hy hyo
                    have hyd : ndA y = .agg [vi y.k, .vsl (y.refs.map vi), .vsl (y.nums.map vi), vs y.text] := rfl
                    have hxd : ndA x = .agg [vi x.k, .vsl (x.refs.map vi), .vsl (x.nums.map vi), vs x.text] := rfl
                    have hcy := cl_ndA y
                    rw [hyd, hy1, hy2] at c1 hcy
                    have hv2 : (a.l.map ndA).length = a.l.length := List.length_map _
                    repeat' first | refine aw_W [14, 19, 32] (And.intro @hltk (And.intro @hltki (And.intro @hg1 (And.intro @hgg @hvv)))) trivial ?_ | refine aw_cond rfl (fun h => ?_) (fun h => ?_)
                    refine awl_cons rfl (opq_call rfl rfl rfl ((acL c1 (cl_one (.p _)) (cl_tup2 hcy (.p _)) (cl_esN _) (cl_esT _) (by simp) (by simp)).mono fun r τ ⟨e1, e2⟩ => ?_))
                    subst e1 e2
                    refine awl_run' [14, 19, 32] ?_
                    simp -implicitDefEqProofs
                    repeat' first | refine aw_W [14, 19, 32] (And.intro @hlt (And.intro @hlti (And.intro @ha1 (And.intro @hag (And.intro @hlv (And.intro @hnd (And.intro @hkl (And.intro @hkli (And.intro @hx1 (And.intro @hxk (And.intro @hxd (And.intro @hv2 (And.intro @m2 (And.intro @m2' @wk)))))))))))))) trivial ?_ | refine aw_cond rfl (fun h => ?_) (fun h => ?_)
                    exact ⟨q2 - 1, by omega, laS R (esK ndA d.M) (esT vi d.N) d.c [] [] (m + 1), le_laS (by simp [upd, m2']) (by simp) (by simp) (by simp) (by simp) (by simp), k + 1, m + 1, by omega, by omega, rfl, by simp [u8v, hhs]⟩
                  · have hltki : ¬ (k : Int) < hss.length := by omega
                    repeat' first | refine aw_W [14, 19, 32] (And.intro @hltki (And.intro @hvv @wi)) trivial ?_ | refine aw_cond rfl (fun h => ?_) (fun h => ?_)
                    exact ⟨q - 1, by omega, _, le_same _, i + 1, d.M, d.N, d.c, m, by omega, hP2, hm, rfl, by simp [u8v]⟩
        · have hlti : ¬ (i : Int) < l.length := by omega
          repeat' first | refine aw_W [14, 19, 32] (And.intro @hlti @hlv) trivial ?_ | refine aw_cond rfl (fun h => ?_) (fun h => ?_)
          have hA := hP.ai
          have hLl := livL_len M
          have hLk := hA.klen
          obtain ⟨W, hW⟩ : ∃ W, W = (livL M).map (nAt M) := ⟨_, rfl⟩
          have hWl : W.length = (livL M).length := by rw [hW, List.length_map]
          have hlv2 : ((livL M).map vi).length = (livL M).length := List.length_map _
          have hWat : ∀ (i : Nat) (g : Int), (livL M)[i]? = some g → ∃ x, W[i]? = some x ∧ gotK M g = some x ∧ NdOk x := fun i g e => by
            have := mem_livL.1 (List.mem_of_getElem? e)
            cases hg : gotK M g with
            | none => rw [hg] at this; cases this
            | some x =>
              refine ⟨x, ?_, rfl, (hA.pos _ x hg).2.2⟩
              rw [hW, List.getElem?_map, e, Option.map_some, nAt, hg]; rfl
          refine awl_cons rfl (opq_call rfl rfl rfl ((acL (aliveL_ok M N R c hA) (by simp) (cl_vis _) (cl_esN _) (cl_esT _) (by simp) (by simp)).mono fun r τ ⟨e1, e2⟩ => ?_))
          subst e1 e2
          refine awl_run' [14, 19, 32] ?_
          simp -implicitDefEqProofs
          repeat' first | refine aw_W [14, 19, 32] trivial trivial ?_ | refine aw_cond rfl (fun h => ?_) (fun h => ?_)
          refine aw_nilH (i := 17) rfl ?_
          simp -implicitDefEqProofs only [List.set]
          refine aw_loopW [0, 2, 6, 8, 16, 17, 18] (fun q fr σ => StK R keep M N c W q fr σ) (livL M).length ?_ ?_
          · exact ⟨laS R (esK ndA M) (esT vi N) c [] [(m, [])] (m + 1), le_laS (by simp [ASt.addSl]) (by simp [ASt.addSl]) (by simp [ASt.addSl]) (by simp [ASt.addSl]) (by simp) (by simp [ASt.addSl]), 0, m, m + 1, [], by omega, by omega, by omega, by simp, by simp, by simp [u8v]⟩
          · clear hm hi hlt hlti
            rintro q fr σ ⟨i, kw, m, V, hi, hkw, hm, hV, rfl, rfl⟩
            simp -implicitDefEqProofs
            have kw0 : ¬ kw = 2 := by omega
            by_cases hlt : i < (livL M).length
            · have hlti : (i : Int) < (livL M).length := by omega
              obtain ⟨g, hg1⟩ : ∃ g, (livL M)[i] = g := ⟨_, rfl⟩
              have hgg : (livL M)[i]? = some g := by rw [List.getElem?_eq_getElem hlt, hg1]
              have wi : IntKind.i64.wrap ((i : Int) + 1) = (i : Int) + 1 := wrap_id (by omega) (by omega)
              obtain ⟨x, hxW, hgx, hxo⟩ := hWat i g hgg
              have hxd : ndA x = .agg [vi x.k, .vsl (x.refs.map vi), .vsl (x.nums.map vi), vs x.text] := rfl
              have c1 := aget_ok M (esT vi N) (cl_esT N) R c g x hgx hxo
              have hcx := cl_ndA x
              rw [hxd] at c1 hcx
              have m2 : ¬ m = 2 := by omega
              have m2' : ¬ 2 = m := by omega
              have kwm : ¬ kw = m := by omega
              have hVl : V.length = i := by rw [hV]; simp; omega
              have htl : (V.map ndA).length = i := by rw [List.length_map, hVl]
              repeat' first | refine aw_W [14, 19, 32] (And.intro @hlt (And.intro @hlti (And.intro @hg1 (And.intro @hgg @hlv2)))) trivial ?_ | refine aw_cond rfl (fun h => ?_) (fun h => ?_)
              refine awl_cons rfl (opq_call rfl rfl rfl ((acL c1 (cl_one (.p _)) (cl_tup2 hcx (.p _)) (cl_esN _) (cl_esT _) (by simp) (by simp; omega)).mono fun r τ ⟨e1, e2⟩ => ?_))
              subst e1 e2
              refine awl_run' [14, 19, 32] ?_
              simp -implicitDefEqProofs
              repeat' first | refine aw_W [14, 19, 32] (And.intro @m2 @m2') trivial ?_ | refine aw_cond rfl (fun h => ?_) (fun h => ?_)
              refine aw_loopW [0, 2, 6, 8, 16, 17, 18, 19, 21] (fun q fr σ => StL R keep M N c V i kw m x q fr σ) i ?_ ?_
              · exact ⟨laS R (esK ndA M) (esT vi N) c [(m, [vi x.k, .vsl (x.refs.map vi), .vsl (x.nums.map vi), vs x.text])] [(kw, V.map ndA)] (m + 1), le_laS (by simp [upd, m2']) (by simp) (by simp) (by simp) (by simp [upd]) (by simp), 0, by omega, rfl, by simp [u8v]⟩
              · rintro q2 fr σ ⟨k, hk, rfl, rfl⟩
                simp -implicitDefEqProofs
                by_cases hltk : k < i
                · have hltki : (k : Int) < i := by omega
                  have wk : IntKind.i64.wrap ((k : Int) + 1) = (k : Int) + 1 := wrap_id (by omega) (by omega)
                  obtain ⟨g', hg'⟩ : ∃ g', (livL M)[k]? = some g' := ⟨_, List.getElem?_eq_getElem (by omega)⟩
                  obtain ⟨z, hzW, hgz, hzo⟩ := hWat k g' hg'
                  have hne : ¬ x = z := fun e => by
                    subst e
                    have h1 := hA.fwd _ _ hgx
                    have h2 := hA.fwd _ _ hgz
                    rw [h1] at h2
                    have h3 := List.pairwise_iff_getElem.1 (livL_lt hA.ndM) k i (by omega) hlt hltk
                    rw [List.getElem?_eq_getElem (by omega)] at hg'
                    rw [Option.some.inj hg', hg1, ← Option.some.inj h2] at h3
                    omega
                  have hs := same09_ok x z (by have := hxo.rl; omega) (by have := hzo.rl; omega) (by have := hxo.nl; omega) (by have := hzo.nl; omega)
                  have hzd0 : ndA z = .agg [vi z.k, .vsl (z.refs.map vi), .vsl (z.nums.map vi), vs z.text] := rfl
                  rw [decide_eq_false hne, hxd, hzd0] at hs
                  have hVk : V[k]? = some z := by rw [hV, List.getElem?_take, if_pos hltk]; exact hzW
                  have hz1 : (V.drop k).take 1 = [z] := by
                    have hkl := (List.getElem?_eq_some_iff.1 hVk).1
                    rw [List.drop_eq_getElem_cons hkl]
                    rw [List.getElem?_eq_getElem hkl] at hVk
                    rw [Option.some.inj hVk]; rfl
                  have hno := nodesO_ok (σ := laS R (esK ndA M) (esT vi N) c [(m, [vi x.k, .vsl (x.refs.map vi), .vsl (x.nums.map vi), vs x.text])] [(kw, V.map ndA)] (m + 1)) (kw := kw) (X := V) (by simp) (by simp [kw0, kwm]) (by simp [show ¬ kw = 0 by omega, show ¬ kw = 1 by omega]) k 1 (by omega) (by omega)
                  rw [hz1] at hno
                  have hzd : ndA z = .agg [vi z.k, .vsl (z.refs.map vi), .vsl (z.nums.map vi), vs z.text] := rfl
                  have hk2 : k + 1 ≤ i := by omega
                  have hk2i : (k : Int) + 1 ≤ i := by omega
                  have hki0 : (0 : Int) ≤ (k : Int) + 1 := by omega
                  have hsub : k + 1 - k = 1 := by omega
                  have hV0l : 0 < V.length := by omega
                  obtain ⟨w0, hw0⟩ : ∃ w0, V[0] = w0 := ⟨_, rfl⟩
                  have hw0g : V[0]? = some w0 := by rw [List.getElem?_eq_getElem hV0l, hw0]
                  have hw0d : ndA w0 = .agg [vi w0.k, .vsl (w0.refs.map vi), .vsl (w0.nums.map vi), vs w0.text] := rfl
                  by_cases hk0 : k = 0
                  · subst hk0
                    have hk0 := hV0l
                    have w01 : IntKind.i64.wrap 1 = 1 := by decide
                    have h1i : 1 ≤ i := by omega
                    rw [show (0 : Nat) + 1 - 0 = 1 from rfl] at hsub
                    repeat' first | refine aw_W [14, 19, 32] (And.intro @hltk (And.intro @hltki (And.intro @w01 (And.intro @h1i (And.intro @m2 (And.intro @hV0l (And.intro @hw0 (And.intro @hw0g (And.intro @hw0d (And.intro @htl @hVl)))))))))) trivial ?_ | refine aw_cond rfl (fun h => ?_) (fun h => ?_)
                    refine yl_acall rfl rfl rfl (by kernel_rfl) rfl hno ?_
                    simp -implicitDefEqProofs [hzd]
                    repeat' first | refine aw_W [14, 19, 32] (And.intro @hzd @w01) (And.intro @hs trivial) ?_ | refine aw_cond rfl (fun h => ?_) (fun h => ?_)
                    exact ⟨q2 - 1, by omega, _, le_same _, 0 + 1, by omega, rfl, by simp [u8v]⟩
                  · repeat' first | refine aw_W [14, 19, 32] (And.intro @hltk (And.intro @hltki (And.intro @wk (And.intro @hk2 (And.intro @hk2i (And.intro @hki0 (And.intro @hsub (And.intro @m2 (And.intro @hV0l (And.intro @hw0 (And.intro @hw0g (And.intro @hw0d (And.intro @htl (And.intro @hVl @hk0)))))))))))))) trivial ?_ | refine aw_cond rfl (fun h => ?_) (fun h => ?_)
                    refine yl_acall rfl rfl rfl (by kernel_rfl) rfl hno ?_
                    simp -implicitDefEqProofs [hzd]
                    repeat' first | refine aw_W [14, 19, 32] (And.intro @hzd @wk) (And.intro @hs trivial) ?_ | refine aw_cond rfl (fun h => ?_) (fun h => ?_)
                    exact ⟨q2 - 1, by omega, _, le_same _, k + 1, by omega, rfl, by simp [u8v]⟩
                · have hltki : ¬ (k : Int) < i := by omega
                  repeat' first | refine aw_W [14, 19, 32] (And.intro @hltki @m2) trivial ?_ | refine aw_cond rfl (fun h => ?_) (fun h => ?_)
                  refine awl_append [14, 19, 32] rfl rfl rfl (b := kw) (xs := V.map ndA) (by simp) (by rw [htl]; omega) rfl (by simp) te32 tet32 tz40 rfl (fun y hy => by obtain ⟨_, _, rfl⟩ := List.mem_map.1 hy; rfl) (by simp [AV.cells]) (by simp; omega) (by simp; omega) ?_
                  simp -implicitDefEqProofs
                  repeat' first | refine aw_W [14, 19, 32] @wi trivial ?_ | refine aw_cond rfl (fun h => ?_) (fun h => ?_)
                  have hV2 : W.take (i + 1) = V ++ [x] := by rw [List.take_add_one, hxW, hV]; rfl
                  exact ⟨q - 1, by omega, laS R (esK ndA M) (esT vi N) c [] [(m + 1, (V ++ [x]).map ndA)] (m + 2), le_laS (by simp) (by simp) (by simp) (by simp [ASt.addSl, ASt.dropSl, upd, hxd, List.take_of_length_le, hVl]) (by simp) (by simp [ASt.addSl]), i + 1, m + 1, m + 2, V ++ [x], by omega, by omega, by omega, hV2.symm, rfl, by simp [u8v]⟩
            · have hlti : ¬ (i : Int) < (livL M).length := by omega
              repeat' first | refine aw_W [14, 19, 32] (And.intro @hlti @hlv2) trivial ?_ | refine aw_cond rfl (fun h => ?_) (fun h => ?_)
              rw [List.take_of_length_le (by omega)] at hV
              subst hV
              refine aw_nilH (i := 23) rfl ?_
              simp -implicitDefEqProofs only [List.set]
              refine aw_midB [0, 6, 8, 16, 17, 23] (fun fr σ => StE R M N c V kw m fr σ) ?_ ?_
              · clear hm hi hlt hlti i
                rintro fr σ ⟨kr, T, rs, hmk, hkT, hkw2, hrs, hrl, rfl, rfl⟩
                simp -implicitDefEqProofs
                have krw : ¬ kr = kw := by omega
                refine aw_freeze (b := kr) (xs := rs.map vi) (by simp [krw]) ?_
                simp -implicitDefEqProofs [frz, frz1, frz0, List.take_of_length_le, Ne.symm krw, u8v]
                refine aw_freeze (b := kw) (xs := V.map ndA) (by simp [ASt.dropSl, upd, Ne.symm krw]) ?_
                simp -implicitDefEqProofs [frz, frz1, frz0, List.take_of_length_le, hWl]
                refine aw_weak (τ := laS R (esK ndA M) (esT vi N) c [] [] T) (le_laS (by simp) (by simp) (by simp) (by simp) (by simp) (by simp)) ?_
                have hrg : ∀ r ∈ rs, (gotK M r).isSome = true := fun r hr => mem_livL.1 (hrs r hr)
                have hbad : rs.any (badS M) = false := by
                  rw [List.any_eq_false]
                  intro r hr
                  simp [badS, hrg r hr]
                obtain ⟨D, hD⟩ : ∃ D, (livL M).filter (fun x => !decide (x ∈ rchL M rs)) = D := ⟨_, rfl⟩
                obtain ⟨d, hd⟩ : ∃ d, (⟨M, N, c⟩ : AS).drops D = d := ⟨_, rfl⟩
                obtain ⟨sw1, sw2, sw3⟩ := swept_again hA hP.clo hrg hD hd
                have hPd := hP.sweep hD hd
                have hpart := rch_part hA.ndM rs
                rw [hD] at hpart
                have hbad2 : rs.any (badS d.M) = false := by
                  rw [List.any_eq_false]
                  intro r hr
                  simp [badS, sw2 r hr]
                have c1 := areach_ok M N R c hA rs (by omega)
                have c2 := asweep_ok M N R c hA rs (by omega) hbad D hD d hd
                have c3 := aliveL_ok d.M d.N R d.c hPd.ai
                rw [sw1] at c3
                have c4 : AC Tryd.prog 19 [.vsl (rs.map vi)] R (esK ndA d.M) (esT vi d.N) d.c (.tup [vi 0, vi 0]) (esK ndA d.M) (esT vi d.N) d.c := asweep_ok d.M d.N R d.c hPd.ai rs (by omega) hbad2 [] sw3 (⟨d.M, d.N, d.c⟩ : AS) rfl
                have c5 := alen_ok d.M (esT vi d.N) R d.c
                have hdl := livL_len d.M
                rw [sw1] at hdl
                have hrI := rints_ok (rchL M rs) (rchL M rs) (by omega) (by omega)
                rw [decide_eq_true rfl] at hrI
                have hml := hPd.ml
                repeat' first | refine aw_W [14, 19, 32] trivial trivial ?_ | refine aw_cond rfl (fun h => ?_) (fun h => ?_)
                refine awl_cons rfl (opq_call rfl rfl rfl ((acL c1 (cl_one (cl_vis _)) (cl_vis _) (cl_esN _) (cl_esT _) (by simp) (by simp)).mono fun r τ ⟨e1, e2⟩ => ?_))
                subst e1 e2
                refine awl_run' [14, 19, 32] ?_
                simp -implicitDefEqProofs
                repeat' first | refine aw_W [14, 19, 32] trivial trivial ?_ | refine aw_cond rfl (fun h => ?_) (fun h => ?_)
                refine awl_ar [14, 19, 32] rfl rfl rfl (by kernel_rfl) c2 rfl (cl_one (cl_vis _)) (cl_tup2 (.p _) (.p _)) (cl_esN _) (cl_esT _) (cl_esN _) (cl_esT _) (at_laS (by simp) (by simp)) ?_
                simp -implicitDefEqProofs
                repeat' first | refine aw_W [14, 19, 32] trivial trivial ?_ | refine aw_cond rfl (fun h => ?_) (fun h => ?_)
                refine awl_cons rfl (opq_call rfl rfl rfl ((acL c3 (by simp) (cl_vis _) (cl_esN _) (cl_esT _) (by simp) (by simp)).mono fun r τ ⟨e1, e2⟩ => ?_))
                subst e1 e2
                refine awl_run' [14, 19, 32] ?_
                simp -implicitDefEqProofs
                repeat' first | refine aw_W [14, 19, 32] trivial (And.intro @hrI trivial) ?_ | refine aw_cond rfl (fun h => ?_) (fun h => ?_)
                refine awl_cons rfl (opq_call rfl rfl rfl ((acL c4 (cl_one (cl_vis _)) (cl_tup2 (.p _) (.p _)) (cl_esN _) (cl_esT _) (by simp) (by simp)).mono fun r τ ⟨e1, e2⟩ => ?_))
                subst e1 e2
                refine awl_run' [14, 19, 32] ?_
                simp -implicitDefEqProofs
                have wD : IntKind.i64.wrap (((livL M).length : Int) - ((rchL M rs).length : Int)) = (D.length : Int) := by rw [wrap_id (by omega) (by omega)]; omega
                have hvL : ((livL M).map vi).length = (livL M).length := List.length_map _
                have hvR : ((rchL M rs).map vi).length = (rchL M rs).length := List.length_map _
                repeat' first | refine aw_W [14, 19, 32] (And.intro @wD (And.intro @hvL @hvR)) trivial ?_ | refine aw_cond rfl (fun h => ?_) (fun h => ?_)
                refine awl_unopt 252 (c := .ptr 2 0) rfl ?_
                simp -implicitDefEqProofs only [List.set]
                refine awl_cons rfl (opq_call rfl rfl rfl ((acL c5 (by simp) (.p _) (cl_esN _) (cl_esT _) (by simp) (by simp)).mono fun r τ ⟨e1, e2⟩ => ?_))
                subst e1 e2
                refine awl_run' [14, 19, 32] ?_
                simp -implicitDefEqProofs
                have hmR : ¬ (R : Int) < (d.M.length : Int) := by omega
                have hmRn : ¬ R < d.M.length := by omega
                simp -implicitDefEqProofs [wr, hmR, hmRn]
                repeat' first | refine aw_W [14, 19, 32] (And.intro @hmR @hmRn) trivial ?_ | refine aw_cond rfl (fun h => ?_) (fun h => ?_)
                have hlD : ∀ (i : Nat) (g : Int), (livL M)[i]? = some g → ∃ z, V[i]? = some z ∧ NdOk z ∧ (gotK d.M g = some z ∨ gotK d.M g = none) := fun i g e => by
                  obtain ⟨z, e1, e2, e3⟩ := hWat i g e
                  refine ⟨z, e1, e3, ?_⟩
                  rw [(swept_got hA hD hd).2 g]
                  split
                  · exact .inl e2
                  · exact .inr rfl
                have hT2 : 2 < T := by omega
                refine aw_loopW [6, 8, 16, 17, 31] (fun q fr σ => StF R (livL M) V d.M d.N d.c q fr σ) (livL M).length ?_ ?_
                · exact ⟨_, le_same _, 0, T, by omega, hT2, rfl, by simp⟩
                · clear c1 c2 c3 c4 c5 hrI krw
                  rintro q fr σ ⟨i, m, hi, hm, rfl, rfl⟩
                  simp -implicitDefEqProofs
                  by_cases hlt : i < (livL M).length
                  · have hlti : (i : Int) < (livL M).length := by omega
                    obtain ⟨g, hg1⟩ : ∃ g, (livL M)[i] = g := ⟨_, rfl⟩
                    have hgg : (livL M)[i]? = some g := by rw [List.getElem?_eq_getElem hlt, hg1]
                    have wi : IntKind.i64.wrap ((i : Int) + 1) = (i : Int) + 1 := wrap_id (by omega) (by omega)
                    obtain ⟨z, hVz, hzo, hgz⟩ := hlD i g hgg
                    have hil : i < V.length := by omega
                    have hz1 : (V.drop i).take 1 = [z] := by
                      rw [List.drop_eq_getElem_cons hil]
                      rw [List.getElem?_eq_getElem hil] at hVz
                      rw [Option.some.inj hVz]; rfl
                    have hz2 : ((V.map ndA).take (i + 1)).drop i = [ndA z] := by rw [← List.map_take, ← List.map_drop, List.drop_take, show i + 1 - i = 1 by omega, hz1]; rfl
                    have hzd : ndA z = .agg [vi z.k, .vsl (z.refs.map vi), .vsl (z.nums.map vi), vs z.text] := rfl
                    have hno : APure Tryd.prog 21 [.vsl [ndA z]] (.vsl [ndA z]) := nodes09_ok [z] (by simp)
                    have hcz := cl_ndA z
                    have m2 : ¬ m = 2 := by omega
                    have m2' : ¬ 2 = m := by omega
                    have hi1 : i + 1 ≤ V.length := by omega
                    have hi1i : (i : Int) + 1 ≤ (V.length : Int) := by omega
                    have hsub : i + 1 - i = 1 := by omega
                    have hi0 : (0 : Int) ≤ (i : Int) + 1 := by omega
                    rw [hzd] at hz2 hno hcz
                    repeat' first | refine aw_W [14, 19, 32] (And.intro @hlt (And.intro @hlti (And.intro @hg1 (And.intro @hgg @hlv2)))) trivial ?_ | refine aw_cond rfl (fun h => ?_) (fun h => ?_)
                    rcases hgz with hgz | hgz
                    · have c1 := aget_ok d.M (esT vi d.N) (cl_esT d.N) R d.c g z hgz hzo
                      have hs := same09_ok z z (by have := hzo.rl; omega) (by have := hzo.rl; omega) (by have := hzo.nl; omega) (by have := hzo.nl; omega)
                      rw [decide_eq_true rfl, hzd] at hs
                      rw [hzd] at c1
                      refine awl_cons rfl (opq_call rfl rfl rfl ((acL c1 (cl_one (.p _)) (cl_tup2 hcz (.p _)) (cl_esN _) (cl_esT _) (by simp) (by simp)).mono fun r τ ⟨e1, e2⟩ => ?_))
                      subst e1 e2
                      refine awl_run' [14, 19, 32] ?_
                      simp -implicitDefEqProofs
                      repeat' first | refine aw_W [14, 19, 32] (And.intro @m2 (And.intro @m2' (And.intro @wi (And.intro @hi1 (And.intro @hi1i (And.intro @hsub (And.intro @hi0 (And.intro @hz2 (And.intro @hVz @hzd))))))))) (And.intro @hno (And.intro @hs trivial)) ?_ | refine aw_cond rfl (fun h => ?_) (fun h => ?_)
                      exact ⟨q - 1, by omega, laS R (esK ndA d.M) (esT vi d.N) d.c [] [] (m + 1), le_laS (by simp [upd, m2']) (by simp) (by simp) (by simp) (by simp) (by simp), i + 1, m + 1, by omega, by omega, rfl, by simp⟩
                    · have c1 := agetE_ok d.M (esT vi d.N) (cl_esT d.N) R d.c g hgz
                      have hs := same09_ok ndZ z (by simp [ndZ]) (by have := hzo.rl; omega) (by simp [ndZ]) (by have := hzo.nl; omega)
                      obtain ⟨bb, hbb⟩ : ∃ bb, decide (ndZ = z) = bb := ⟨_, rfl⟩
                      rw [hbb, hzd] at hs
                      have hn0 : nd0 = .agg [vi 0, .p (.slice none 0 0), .p (.slice none 0 0), vs ⟨#[]⟩] := rfl
                      have hs0 : APure Tryd.prog 17 [nd0, .agg [vi z.k, .vsl (z.refs.map vi), .vsl (z.nums.map vi), vs z.text]] (vb bb) := hs.soft rfl fun i c c' hc hc' G w v hv => by
                        match i, hc, hc' with
                        | 0, hc, hc' => cases hc; cases hc'; exact rep_nd0 hv
                        | 1, hc, hc' => cases hc; cases hc'; exact hv
                        | i + 2, hc, hc' => cases hc
                      have hc0 : Cl nd0 := .agg _ fun c hc => by
                        simp only [List.mem_cons, List.not_mem_nil, or_false] at hc
                        rcases hc with rfl | rfl | rfl | rfl <;> exact .p _
                      rw [hn0] at c1 hs0 hc0
                      refine awl_cons rfl (opq_call rfl rfl rfl ((acL c1 (cl_one (.p _)) (cl_tup2 hc0 (.p _)) (cl_esN _) (cl_esT _) (by simp) (by simp)).mono fun r τ ⟨e1, e2⟩ => ?_))
                      subst e1 e2
                      refine awl_run' [14, 19, 32] ?_
                      simp -implicitDefEqProofs
                      repeat' first | refine aw_W [14, 19, 32] (And.intro @m2 (And.intro @m2' (And.intro @wi (And.intro @hi1 (And.intro @hi1i (And.intro @hsub (And.intro @hi0 (And.intro @hz2 (And.intro @hVz @hzd))))))))) (And.intro @hno (And.intro @hs0 trivial)) ?_ | refine aw_cond rfl (fun h => ?_) (fun h => ?_)
                      exact ⟨q - 1, by omega, laS R (esK ndA d.M) (esT vi d.N) d.c [] [] (m + 1), le_laS (by simp [upd, m2']) (by simp) (by simp) (by simp) (by simp) (by simp), i + 1, m + 1, by omega, by omega, rfl, by simp⟩
                  · have hlti : ¬ (i : Int) < (livL M).length := by omega
                    repeat' first | refine aw_W [14, 19, 32] (And.intro @hlti @hlv2) (And.intro @alive9_ok trivial) ?_ | refine aw_cond rfl (fun h => ?_) (fun h => ?_)
                    simp [tupOf]
              · refine aw_loopW [0, 2, 6, 8, 16, 17, 23, 24] (fun q fr σ => StM R keep M N c V kw m q fr σ) keep.length ?_ ?_
                · exact ⟨laS R (esK ndA M) (esT vi N) c [] [(kw, V.map ndA), (m, [])] (m + 1), le_laS (by simp [ASt.addSl]) (by simp [ASt.addSl]) (by simp [ASt.addSl]) (by simp [ASt.addSl, upd, show ¬ kw = m by omega]) (by simp) (by simp [ASt.addSl]), 0, m, m + 1, [], by omega, by omega, by omega, by omega, by simp, by simp, by simp, by simp [u8v, hWl]; omega⟩
                · clear hi hlt hlti i
                  rintro q fr σ ⟨i, kr, T, rs, hi, hmk, hkT, hkw2, hrs, hrl, rfl, rfl⟩
                  simp -implicitDefEqProofs
                  have krw : ¬ kr = kw := by omega
                  by_cases hgo : i < keep.length ∧ 0 < (livL M).length
                  · obtain ⟨hlt, hL0⟩ := hgo
                    have hlti : (i : Int) < keep.length := by omega
                    have hL0i : (0 : Int) < ((livL M).length : Int) := by omega
                    have hL0n : ¬ (livL M).length = 0 := by omega
                    have hL0ni : ¬ ((livL M).length : Int) = 0 := by omega
                    obtain ⟨z, hz1⟩ : ∃ z, keep[i] = z := ⟨_, rfl⟩
                    have hzg : keep[i]? = some z := by rw [List.getElem?_eq_getElem hlt, hz1]
                    have hzr := hkp z (List.mem_of_getElem? hzg)
                    have wz : IntKind.i64.wrap z = z := wrap_id (by omega) (by omega)
                    have wi : IntKind.i64.wrap ((i : Int) + 1) = (i : Int) + 1 := wrap_id (by omega) (by omega)
                    obtain ⟨j, hj⟩ : ∃ j : Nat, z.tmod ((livL M).length : Int) = j := ⟨(z.tmod ((livL M).length : Int)).toNat, by rw [Int.tmod_eq_emod_of_nonneg (by omega)]; have := Int.emod_nonneg z (b := ((livL M).length : Int)) (by omega); omega⟩
                    have hjl : j < (livL M).length := by
                      rw [Int.tmod_eq_emod_of_nonneg (by omega)] at hj
                      have := Int.emod_lt_of_pos z (b := ((livL M).length : Int)) (by omega)
                      omega
                    have hjli : (j : Int) < (livL M).length := by omega
                    obtain ⟨g, hg1⟩ : ∃ g, (livL M)[j] = g := ⟨_, rfl⟩
                    have hgg : (livL M)[j]? = some g := by rw [List.getElem?_eq_getElem hjl, hg1]
                    have hzu : u8v z = .p (.int .u8 z) := rfl
                    repeat' first | refine aw_W [14, 19, 32] (And.intro @hlt (And.intro @hlti (And.intro @hL0 (And.intro @hL0i (And.intro @hL0n (And.intro @hL0ni (And.intro @hz1 (And.intro @hzg (And.intro @hkv (And.intro @hzu (And.intro @wz (And.intro @hj (And.intro @hjl (And.intro @hjli (And.intro @hg1 (And.intro @hgg @hlv2)))))))))))))))) trivial ?_ | refine aw_cond rfl (fun h => ?_) (fun h => ?_)
                    refine awl_append [14, 19, 32] rfl rfl rfl (b := kr) (xs := rs.map vi) (by simp [krw]) (by simp) rfl (by simp) te33 tet33 tz3 rfl (fun y hy => by obtain ⟨_, _, rfl⟩ := List.mem_map.1 hy; rfl) (by simp [AV.cells]) (by simp; omega) (by simp; omega) ?_
                    simp -implicitDefEqProofs
                    repeat' first | refine aw_W [14, 19, 32] @wi trivial ?_ | refine aw_cond rfl (fun h => ?_) (fun h => ?_)
                    exact ⟨q - 1, by omega, laS R (esK ndA M) (esT vi N) c [] [(kw, V.map ndA), (T, (rs ++ [g]).map vi)] (T + 1), le_laS (by simp) (by simp) (by simp) (by simp [ASt.addSl, ASt.dropSl, upd, List.take_of_length_le, krw, show ¬ kw = T by omega, show ¬ kw = kr by omega]) (by simp) (by simp [ASt.addSl]), i + 1, T, T + 1, rs ++ [g], by omega, by omega, by omega, by omega, (fun r hr => by
                      rcases List.mem_append.1 hr with hr | hr
                      · exact hrs r hr
                      · rw [List.mem_singleton.1 hr]; exact List.mem_of_getElem? hgg), by simp; omega, rfl, by simp [u8v]⟩
                  · have hVl : (V.map ndA).length = (livL M).length := by simp [hWl]
                    have hfin : ¬ ((i : Int) < keep.length) ∨ ((i : Int) < keep.length ∧ ¬ 0 < (livL M).length) := by omega
                    rcases hfin with hlti | ⟨hlti, hL0⟩
                    · repeat' first | refine aw_W [14, 19, 32] (And.intro @hlti (And.intro @hkv @hlv2)) trivial ?_ | refine aw_cond rfl (fun h => ?_) (fun h => ?_)
                      exact ⟨_, le_same _, kr, T, rs, hmk, hkT, hkw2, hrs, by omega, rfl, by simp [u8v]⟩
                    · have hL0i : ¬ (0 : Int) < ((livL M).length : Int) := by omega
                      repeat' first | refine aw_W [14, 19, 32] (And.intro @hlti (And.intro @hkv (And.intro @hlv2 (And.intro @hL0 @hL0i)))) trivial ?_ | refine aw_cond rfl (fun h => ?_) (fun h => ?_)
                      exact ⟨_, le_same _, kr, T, rs, hmk, hkT, hkw2, hrs, by omega, rfl, by simp [u8v]⟩
end Go.AL
/-! ArenaStays, for its row. -/
namespace Go.AL
open Go.Proofs
set_option linter.unusedSimpArgs false
set_option linter.unusedVariables false
theorem ArenaStays_all (room : Int) (x : AV) (keep : List Int) (hr : (Lit.int .u8 room).wf = true) (hx : HasT Tryd.prog 22 x) (hl : keep.length ≤ 9223372036854775807) (hk : ∀ p ∈ keep, (Lit.int .u8 p).wf = true) :
    APure Tryd.prog 4 [.p (.int .u8 room), x, .vsl (keep.map fun p => .p (.int .u8 p))] (vb true) := by
  obtain ⟨l, rfl, hll, hp⟩ := acts9_has hx
  have key : ∀ z : Int, (Lit.int .u8 z).wf = true → 0 ≤ z ∧ z < 256 := fun z hz => by
    simp only [Lit.wf, IntKind.min, IntKind.max, IntKind.signed, IntKind.bits, Bool.and_eq_true, decide_eq_true_eq] at hz
    simp at hz
    exact ⟨hz.1, by omega⟩
  obtain ⟨h0, h1⟩ := key room hr
  obtain ⟨R, rfl⟩ : ∃ R : Nat, room = R := ⟨room.toNat, by omega⟩
  exact stays9_ok R (by omega) l hll hp keep hl fun z hz => key z (hk z hz)
end Go.AL
