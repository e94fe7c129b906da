/- Parts of the proof of EvalReads: the logic, contracts, plain laws. -/
import Derived.Test.YtjldlcakinmajaaZEvalReads21
import Derived.Test.YtjldlcakinmajaaZEvalReads12
/-! Contracts: eval's sheet, clean, items. -/
namespace Go.AL
open Go.Proofs
set_option linter.unusedSimpArgs false
set_option linter.unusedVariables false
set_option maxRecDepth 100000 in
theorem seT : tmapS Try.prog 99 = some (24, 41) := by kernel_rfl
set_option maxRecDepth 100000 in
theorem seK (x y : Int) : keyok Try.prog 24 [vi x, vi y] = true := by simp [keyok]
set_option maxRecDepth 100000 in
theorem seE (x y a b : Int) : aeqF Try.prog 5 24 (.agg [vi x, vi y]) (.agg [vi a, vi b]) = some (decide (x = a) && decide (y = b)) := by simp
def eky (p : Cel) : AV := .agg [vi p.1, vi p.2.1]
def evl (p : Cel) : AV := .agg [vi p.2.2.1, vi p.2.2.2]
def ekys (l : List Cel) : List AV := l.map eky
def ekvs (l : List Cel) : List AV := l.map evl
/-- The sheet that has these. -/
def sev (l : List Cel) : AV := .vmp (ekys l) (ekvs l)
@[simp] theorem cl_ekys (l : List Cel) : (∀ c ∈ ekys l, Cl c) = True := eq_true fun c hc => by
  obtain ⟨p, _, rfl⟩ := List.mem_map.1 hc
  exact .agg _ (by simp)
@[simp] theorem cl_ekvs (l : List Cel) : (∀ c ∈ ekvs l, Cl c) = True := eq_true fun c hc => by
  obtain ⟨p, _, rfl⟩ := List.mem_map.1 hc
  exact .agg _ (by simp)
@[simp] theorem cl_sev (l : List Cel) : Cl (sev l) = True := eq_true (.vmp _ _ (of_eq_true (cl_ekys l)) (of_eq_true (cl_ekvs l)))
@[simp] theorem cl_sev' (l : List Cel) : Cl (.vmp (ekys l) (ekvs l)) = True := cl_sev l
def ixC : List Cel → Int → Int → Nat → Option Nat
  | [], _, _, _ => none
  | (a, b, _, _) :: l, x, y, i => if x = a ∧ y = b then some i else ixC l x y (i + 1)
def gotC : List Cel → Int → Int → Option (Int × Int)
  | [], _, _ => none
  | (a, b, n, f) :: l, x, y => if x = a ∧ y = b then some (n, f) else gotC l x y
theorem seF (x y : Int) : ∀ (l : List Cel) (i : Nat), vfind Try.prog 24 (.agg [vi x, vi y]) (ekys l) i = some (ixC l x y i)
  | [], i => rfl
  | (a, b, n, f) :: l, i => by
    have ih := seF x y l (i + 1)
    have e : ekys ((a, b, n, f) :: l) = .agg [vi a, vi b] :: ekys l := rfl
    rw [e, vfind, seE, ixC]
    by_cases h : x = a ∧ y = b
    · rw [if_pos h]; simp [h.1, h.2]
    · rw [if_neg h, show (decide (x = a) && decide (y = b)) = false by simpa using h]
      exact ih
theorem seI (x y : Int) : ∀ (l : List Cel) (i : Nat), match ixC l x y i with
    | none => gotC l x y = none
    | some j => i ≤ j ∧ ∃ v, gotC l x y = some v ∧ (ekvs l)[j - i]? = some (.agg [vi v.1, vi v.2])
  | [], i => rfl
  | (a, b, n, f) :: l, i => by
    have ih := seI x y l (i + 1)
    rw [ixC, gotC]
    by_cases h : x = a ∧ y = b
    · rw [if_pos h, if_pos h]
      exact ⟨Nat.le_refl _, _, rfl, by simp [ekvs, evl]⟩
    · rw [if_neg h, if_neg h]
      cases hq : ixC l x y (i + 1) with
      | none => rw [hq] at ih; exact ih
      | some j =>
        rw [hq] at ih
        obtain ⟨h1, v, h2, h3⟩ := ih
        refine ⟨by omega, v, h2, ?_⟩
        rw [show j - i = (j - (i + 1)) + 1 by omega]
        exact h3
theorem seS (l : List Cel) (x y : Int) : (ixC l x y 0).isSome = (gotC l x y).isSome := by
  have := seI x y l 0
  cases hq : ixC l x y 0 with
  | none => rw [hq] at this; simp only at this; rw [this]; rfl
  | some j => rw [hq] at this; obtain ⟨_, v, hv, _⟩ := this; rw [hv]; rfl
theorem seG (l : List Cel) (x y : Int) : vgot Try.prog 41 (ekvs l) (ixC l x y 0) (.agg [vi ((gotC l x y).getD (0, 0)).1, vi ((gotC l x y).getD (0, 0)).2]) := by
  have := seI x y l 0
  unfold vgot
  cases hq : ixC l x y 0 with
  | none => rw [hq] at this; simp only at this ⊢; rw [this]; exact tz41
  | some j =>
    rw [hq] at this
    obtain ⟨_, v, hv, h3⟩ := this
    simp only
    rw [hv]
    exact h3
/-- What a sheet has at a place. -/
def gotF (l : List Cel) (x y : Int) : Option (Int × Int) := (gotC l x y).map fun v => cleanV v.1 v.2
theorem gotF_in {l : List Cel} (hl : ∀ p ∈ l, In64 p.2.2.1) (x y : Int) (v : Int × Int) (h : gotF l x y = some v) : In64 v.1 := by
  unfold gotF at h
  obtain ⟨u, hu, rfl⟩ := Option.map_eq_some_iff.1 h
  have : ∀ l : List Cel, (∀ p ∈ l, In64 p.2.2.1) → gotC l x y = some u → In64 u.1 := by
    intro l
    induction l with
    | nil => intro _ h; cases h
    | cons p l ih =>
      intro hl h
      obtain ⟨a, b, n, f⟩ := p
      rw [gotC] at h
      split at h
      · obtain rfl := Option.some.inj h
        exact hl _ List.mem_cons_self
      · exact ih (fun p hp => hl p (List.mem_cons_of_mem _ hp)) h
  have := this l hl hu
  unfold cleanV
  split
  · exact this
  · exact in_zero
set_option maxHeartbeats 4000000 in
set_option maxRecDepth 100000 in
theorem eclean_ok (n f : Int) : APure Try.prog 68 [value n f] (vl (cleanV n f)) := by
  unfold cleanV
  refine apure_in Try.func68 Try.ntmps68 rfl ?_
  repeat' first | refine aw_N [2] trivial trivial ?_ | refine aw_cond rfl (fun h => ?_) (fun h => ?_)
  all_goals simp_all [tupOf, vl]
set_option maxHeartbeats 4000000 in
set_option maxRecDepth 100000 in
theorem ebad_ok : APure Try.prog 46 [] (value 0 3) := by
  refine apure_in Try.func46 Try.ntmps46 rfl ?_
  repeat' first | refine aw_N [0] trivial trivial ?_ | refine aw_cond rfl (fun h => ?_) (fun h => ?_)
  all_goals simp [tupOf]
set_option maxHeartbeats 16000000 in
set_option maxRecDepth 100000 in
theorem eitems_ok (L : List Cel) (ks : List Tree) (hlk : ks.length ≤ 1000000)
    (hk : ∀ t ∈ ks, t.kind ≠ 6 → APure Try.prog 47 [sev L, t.av] (vl (evT (gotF L) t))) :
    APure Try.prog 132 [sev L, .vsl (avs ks)] (.vsl ((itS (gotF L) ks).map vl)) := by
  have hl := avs_len ks
  refine apure_in Try.func132 Try.ntmps132 rfl ?_
  repeat' first | refine aw_N [7, 9, 10] @hl trivial ?_ | refine aw_cond rfl (fun h => ?_) (fun h => ?_)
  refine aw_open (i := 5) rfl ?_
  refine aw_loopW [0, 5, 12, 13, 14] (fun q fr σ => ∃ k' m i : Nat, i + q = ks.length ∧ k' < m ∧ σ = mkSt [] [(k', (itS (gotF L) (ks.take i)).map vl)] m ∧ fr = frm 50 [(0, sev L), (5, .hsl k' 0 (itS (gotF L) (ks.take i)).length), (12, .vsl (avs ks)), (13, vi ks.length), (14, vi (i : Nat))]) ks.length ?_ ?_
  · refine ⟨_, le_mkSt (bs := []) (ss := [(0, [])]) (n := 1) (by simp) (by simp) (by decide), 0, 1, 0, by omega, by decide, by simp [itS], ?_⟩
    simp [σ0, itS, hl]
  · rintro q fr σ ⟨k', m, i, hi, hkm, rfl, rfl⟩
    simp -implicitDefEqProofs
    by_cases hlt : i < ks.length
    · have hlti : (i : Int) < ks.length := by omega
      obtain ⟨t, ht⟩ : ∃ t, ks[i]? = some t := ⟨_, List.getElem?_eq_getElem hlt⟩
      have hmem : t ∈ ks := List.mem_of_getElem? ht
      have hg := avs_get hlt
      rw [show ks[i] = t by rw [List.getElem?_eq_getElem hlt] at ht; exact Option.some.inj ht] at hg
      have hla : i < (avs ks).length := by omega
      have wi : IntKind.i64.wrap ((i : Int) + 1) = (i : Int) + 1 := wrap_id (by omega) (by omega)
      have hnx := itS_take (f := gotF L) ht
      have hlen : (itS (gotF L) (ks.take i)).length ≤ 1024 * 1000000 := by
        have := itS_len (gotF L) (ks.take i)
        rw [List.length_take] at this
        have h2 : min i ks.length ≤ 1000000 := by omega
        exact Nat.le_trans this (Nat.mul_le_mul_left _ h2)
      have hP := vls_okv (itS (gotF L) (ks.take i))
      have hPl : ((itS (gotF L) (ks.take i)).map vl).length = (itS (gotF L) (ks.take i)).length := List.length_map _
      generalize itS (gotF L) (ks.take i) = P at *
      by_cases h6 : t.kind = 6
      · obtain ⟨tk, tn, ta, tb, tc, td, tw, tks⟩ := t
        simp only [Tree.kind] at h6
        subst h6
        rw [Tree.av] at hg
        have hcl := cells_ok ta tb tc td
        have hC := gridL_len1 ta tb tc td
        have hcT : itT (gotF L) (.mk 6 tn ta tb tc td tw tks) = (gridL ta tb tc td).filterMap fun p => gotF L p.1 p.2 := by simp [itT, cellsT]
        rw [hcT] at hnx
        generalize gridL ta tb tc td = C at *
        have hCm : (C.map pl).length = C.length := List.length_map _
        repeat' first | refine aw_N [7, 9, 10] (And.intro @hlti (And.intro @hl (And.intro @hla (And.intro @hg @hCm)))) (And.intro @hcl trivial) ?_ | refine aw_cond rfl (fun h => ?_) (fun h => ?_)
        refine aw_loopW [0, 5, 12, 13, 14, 29, 30, 31] (fun n fr σ => ∃ k2 m2 j : Nat, j + n = C.length ∧ k2 < m2 ∧ σ = mkSt [] [(k2, (P ++ (C.take j).filterMap fun p => gotF L p.1 p.2).map vl)] m2 ∧ fr = frm 50 [(0, sev L), (5, .hsl k2 0 (P ++ (C.take j).filterMap fun p => gotF L p.1 p.2).length), (12, .vsl (avs ks)), (13, vi ks.length), (14, vi (i : Nat)), (29, .vsl (C.map pl)), (30, vi C.length), (31, vi (j : Nat))]) C.length ?_ ?_
        · refine ⟨_, le_mkSt (bs := []) (ss := [(k', P.map vl)]) (n := m + 1) (by simp) (by simp) (by simp), k', m + 1, 0, by omega, by omega, by simp, ?_⟩
          simp [hCm]
        · rintro n fr σ ⟨k2, m2, j, hj, hkm2, rfl, rfl⟩
          simp -implicitDefEqProofs
          have hfl := fm_len (fun p => gotF L p.1 p.2) C hC j
          by_cases hlt2 : j < C.length
          · have hltj : (j : Int) < C.length := by omega
            obtain ⟨⟨x, y⟩, hp⟩ : ∃ p, C[j]? = some p := ⟨_, List.getElem?_eq_getElem hlt2⟩
            have hgp : (C.map pl)[j]? = some (.agg [vi x, vi y]) := by rw [List.getElem?_map, hp]; rfl
            have wj : IntKind.i64.wrap ((j : Int) + 1) = (j : Int) + 1 := wrap_id (by omega) (by omega)
            have hnj := fm_take (g := fun p => gotF L p.1 p.2) hp
            have hQ := vls_okv (P ++ (C.take j).filterMap fun p => gotF L p.1 p.2)
            have hQl : ((P ++ (C.take j).filterMap fun p => gotF L p.1 p.2).map vl).length = P.length + ((C.take j).filterMap fun p => gotF L p.1 p.2).length := by simp
            have hlook := seG L x y
            have hsome := seS L x y
            have hgf : gotF L x y = (gotC L x y).map fun v => cleanV v.1 v.2 := rfl
            simp only at hnj
            generalize ((C.take j).filterMap fun p => gotF L p.1 p.2) = R at *
            generalize gotC L x y = o at *
            rw [hgf] at hnj
            repeat' first | refine aw_N [7, 9, 10] (And.intro @hltj (And.intro @hCm (And.intro @hgp (And.intro @hp @wj)))) trivial ?_ | refine aw_cond rfl (fun h => ?_) (fun h => ?_)
            refine awl_lookupV [7, 9, 10] rfl rfl seT rfl rfl (seK _ _) (seF _ _ _ _) hlook ?_
            cases o with
            | none =>
              simp only [Option.isSome, Option.getD] at hsome ⊢
              simp -implicitDefEqProofs
              repeat' first | refine aw_N [7, 9, 10] (And.intro @hltj (And.intro @hCm (And.intro @hgp (And.intro @hp (And.intro @wj @hsome))))) trivial ?_ | refine aw_cond rfl (fun h => ?_) (fun h => ?_)
              refine ⟨n - 1, by omega, _, le_mkSt (bs := []) (ss := [(k2, P.map vl ++ R.map vl)]) (n := m2 + 2) (by simp) (by simp) (by simp), k2, m2 + 2, j + 1, by omega, by omega, ?_, ?_, by omega⟩
              · rw [hnj]; simp
              · rw [hnj]; simp
            | some v =>
              obtain ⟨vn, vfl⟩ := v
              have hcv := eclean_ok vn vfl
              simp only [Option.map] at hnj
              generalize cleanV vn vfl = cv at *
              obtain ⟨cn, cf⟩ := cv
              simp only [vl] at hcv
              simp only [Option.isSome, Option.getD] at hsome ⊢
              simp -implicitDefEqProofs
              repeat' first | refine aw_N [7, 9, 10] (And.intro @hltj (And.intro @hCm (And.intro @hgp (And.intro @hp (And.intro @wj @hsome))))) (And.intro @hcv trivial) ?_ | refine aw_cond rfl (fun h => ?_) (fun h => ?_)
              refine awl_append [7, 9, 10] rfl rfl rfl (xs := (P ++ R).map vl) (by simp) (by simp) rfl (by simp) te144 tet144 tz41 rfl hQ (by simp) (by simp; omega) (by simp; omega) ?_
              simp -implicitDefEqProofs
              repeat' first | refine aw_N [7, 9, 10] @wj trivial ?_ | refine aw_cond rfl (fun h => ?_) (fun h => ?_)
              refine ⟨n - 1, by omega, _, le_mkSt (bs := []) (ss := [(m2 + 2, ((P ++ R).map vl).take (P.length + R.length) ++ [value cn cf])]) (n := m2 + 3) (by simp) (by simp) (by simp), m2 + 2, m2 + 3, j + 1, by omega, by omega, ?_, ?_, by omega⟩
              · rw [hnj, List.take_of_length_le (by omega)]; simp [vl]
              · rw [hnj]; simp; omega
          · have hltj : ¬ (j : Int) < C.length := by omega
            rw [List.take_of_length_le (by omega)]
            repeat' first | refine aw_N [7, 9, 10] (And.intro @hltj (And.intro @hCm @wi)) trivial ?_ | refine aw_cond rfl (fun h => ?_) (fun h => ?_)
            refine ⟨q - 1, by omega, _, le_mkSt (bs := []) (ss := [(k2, P.map vl ++ (C.filterMap fun p => gotF L p.1 p.2).map vl)]) (n := m2) (by simp) (by simp) (by simp), k2, m2, i + 1, by omega, hkm2, ?_, ⟨rfl, ?_⟩, by omega⟩
            · rw [hnx]; simp
            · rw [hnx]; simp
      · have hc := hk t hmem h6
        have hcT : itT (gotF L) t = [evT (gotF L) t] := if_neg h6
        rw [hcT] at hnx
        generalize evT (gotF L) t = e at *
        obtain ⟨tk, tn, ta, tb, tc, td, tw, tks⟩ := t
        simp only [Tree.kind] at h6
        rw [Tree.av] at hc hg
        obtain ⟨en, ef⟩ := e
        simp only [vl] at hc
        repeat' first | refine aw_N [7, 9, 10] (And.intro @hlti (And.intro @hl (And.intro @hla (And.intro @hg @h6)))) (And.intro @hc trivial) ?_ | refine aw_cond rfl (fun h => ?_) (fun h => ?_)
        refine awl_append [7] rfl rfl rfl (xs := P.map vl) (by simp) (by simp) rfl (by simp) te144 tet144 tz41 rfl hP (by simp) (by simp; omega) (by simp; omega) ?_
        simp -implicitDefEqProofs
        repeat' first | refine aw_N [7, 9, 10] @wi trivial ?_ | refine aw_cond rfl (fun h => ?_) (fun h => ?_)
        refine ⟨q - 1, by omega, _, le_mkSt (bs := []) (ss := [(m + 1, (P.map vl).take P.length ++ [value en ef])]) (n := m + 2) (by simp) (by simp) (by simp), m + 1, m + 2, i + 1, by omega, by omega, ?_, ⟨rfl, ?_⟩, by omega⟩
        · rw [hnx, List.take_of_length_le (by simp)]; simp [vl]
        · rw [hnx]; simp
    · have hlti : ¬ (i : Int) < ks.length := by omega
      rw [List.take_of_length_le (by omega)]
      refine aw_freeze (b := k') (xs := (itS (gotF L) ks).map vl) (by simp) ?_
      simp -implicitDefEqProofs [frz, frz1, frz0]
      repeat' first | refine aw_N [7, 9, 10] (And.intro @hlti @hl) trivial ?_ | refine aw_cond rfl (fun h => ?_) (fun h => ?_)
      simp [tupOf, List.take_of_length_le]
end Go.AL
/-! Contracts: eval's words. -/
namespace Go.AL
open Go.Proofs
set_option linter.unusedSimpArgs false
set_option linter.unusedVariables false
set_option maxHeartbeats 4000000 in
set_option maxRecDepth 100000 in
theorem eall_ok (L : List Cel) (g : Nat) : APure Try.prog 94 [sev L, vf g] (.fn (.func 133) [] [.vel [vf g] 0 0, .vel [sev L] 0 0]) := by
  refine apure_in Try.func94 Try.ntmps94 rfl ?_
  repeat' first | refine aw_N [] trivial trivial ?_ | refine aw_cond rfl (fun h => ?_) (fun h => ?_)
  all_goals first | (simp [tupOf]; done) | trace_state
set_option maxHeartbeats 4000000 in
set_option maxRecDepth 100000 in
theorem eall1_ok (L : List Cel) (g : Nat) (ks : List Tree) (its : List (Int × Int)) (rn rf : Int) (hc : callable Try.prog g = true)
    (hi : APure Try.prog 132 [sev L, .vsl (avs ks)] (.vsl (its.map vl))) (hg : APure Try.prog g [.vsl (its.map vl)] (value rn rf)) :
    APure Try.prog 133 [.vsl (avs ks), .vel [vf g] 0 0, .vel [sev L] 0 0] (value rn rf) := by
  refine apure_in Try.func133 Try.ntmps133 rfl ?_
  repeat' first | refine aw_W [4] trivial (And.intro @hi (And.intro @hg trivial)) ?_ | refine aw_cond rfl (fun h => ?_) (fun h => ?_)
  all_goals first | (simp [tupOf]; done) | trace_state
set_option maxHeartbeats 8000000 in
set_option maxRecDepth 100000 in
theorem echoice_ok (L : List Cel) (u v x : Tree) (eu ev ex : Int × Int) (hu : APure Try.prog 47 [sev L, u.av] (vl eu)) (hv : APure Try.prog 47 [sev L, v.av] (vl ev)) (hx : APure Try.prog 47 [sev L, x.av] (vl ex)) :
    APure Try.prog 92 [sev L, .vsl (avs [u, v, x])] (vl (if eu.2 ≠ 0 then eu else if eu.1 ≠ 0 then ev else ex)) := by
  obtain ⟨uk, un, ua, ub, uc, ud, uw, uks⟩ := u
  obtain ⟨vk, vn, va, vb', vc, vd, vw, vks⟩ := v
  obtain ⟨xk, xn, xa, xb, xc, xd, xw, xks⟩ := x
  obtain ⟨un', uf⟩ := eu
  obtain ⟨vn', vf'⟩ := ev
  obtain ⟨xn', xf⟩ := ex
  rw [Tree.av] at hu hv hx
  simp only [vl] at hu hv hx
  simp only [avs, Tree.av]
  refine apure_in Try.func92 Try.ntmps92 rfl ?_
  repeat' first | refine aw_N [4, 5] trivial (And.intro @hu (And.intro @hv (And.intro @hx trivial))) ?_ | refine aw_cond rfl (fun h => ?_) (fun h => ?_)
  all_goals first | (simp_all [tupOf, vl]; done) | trace_state
def wordsE (L : List Cel) : List (AV × AV) :=
  [(.p (.string ⟨#[73, 70]⟩), .fn (.func 92) [sev L] []), (.p (.string ⟨#[67, 79, 85, 78, 84]⟩), .fn (.func 93) [sev L] []),
   (.p (.string ⟨#[83, 85, 77]⟩), .fn (.func 133) [] [.vel [vf 95] 0 0, .vel [sev L] 0 0]), (.p (.string ⟨#[77, 73, 78]⟩), .fn (.func 133) [] [.vel [vf 96] 0 0, .vel [sev L] 0 0]),
   (.p (.string ⟨#[77, 65, 88]⟩), .fn (.func 133) [] [.vel [vf 97] 0 0, .vel [sev L] 0 0])]
theorem wdT : tmap Try.prog 131 = some (.string, 130) := by kernel_rfl
set_option maxHeartbeats 8000000 in
set_option maxRecDepth 100000 in
theorem words_ok (L : List Cel) : APure Try.prog 71 [sev L] (.vmp ((wordsE L).map Prod.fst) ((wordsE L).map Prod.snd)) := by
  refine apure_in Try.func71 Try.ntmps71 rfl ?_
  repeat' first | refine aw_N [] trivial trivial ?_ | refine aw_cond rfl (fun h => ?_) (fun h => ?_)
  refine awl_makeMap [] rfl rfl ?_
  simp -implicitDefEqProofs
  repeat' (first
    | (refine awl_pure' [] rfl rfl rfl (by kernel_rfl) rfl (eall_ok _ _) (by simp) (by simp) ?_; simp -implicitDefEqProofs)
    | (refine awl_mapNew [] (.inl rfl) rfl wdT rfl rfl rfl (by simp [amfind, akey]) ?_; simp -implicitDefEqProofs))
  refine aw_freezeM (b := 0) (es := wordsE L) (by simp [wordsE]) (by intro p hp; simp [wordsE] at hp; rcases hp with rfl | rfl | rfl | rfl | rfl <;> simp [noV]) ?_
  simp -implicitDefEqProofs [frzM]
  repeat' first | refine aw_N [] trivial trivial ?_ | refine aw_cond rfl (fun h => ?_) (fun h => ?_)
  all_goals first | (simp [tupOf]; done) | trace_state
set_option maxHeartbeats 16000000 in
set_option maxRecDepth 100000 in
theorem ecount_ok (L : List Cel) (ks : List Tree) (hlk : ks.length ≤ 1000000) (bd : Bool) (hbd : bd = ks.any fun u => decide (u.kind = 2))
    (hi : ∀ t ∈ ks, APure Try.prog 132 [sev L, .vsl (avs [t])] (.vsl ((itT (gotF L) t).map vl))) :
    APure Try.prog 93 [sev L, .vsl (avs ks)] (vl (if bd = true then (0, 3) else (((itS (gotF L) ks).length : Int), 0))) := by
  have hl := avs_len ks
  refine apure_in Try.func93 Try.ntmps93 rfl ?_
  repeat' first | refine aw_N [4, 7] @hl trivial ?_ | refine aw_cond rfl (fun h => ?_) (fun h => ?_)
  refine aw_loopW [0, 4, 5, 8, 9, 10] (fun q fr σ => ∃ B N i : Nat, i + q = ks.length ∧ B < N ∧ NoBad (ks.take i) ∧ σ = mkSt [(B, [vi 0, vi 0])] [] N ∧ fr = frm 28 [(0, sev L), (4, .ptr B 0), (5, vi (itS (gotF L) (ks.take i)).length), (8, .vsl (avs ks)), (9, vi ks.length), (10, vi (i : Nat))]) ks.length ?_ ?_
  · exact ⟨_, le_mkSt (bs := [(0, [vi 0, vi 0])]) (ss := []) (n := 1) (by simp) (by simp) (by simp), 0, 1, 0, by omega, by omega, noBad_nil, rfl, by simp [hl, itS]⟩
  · rintro q fr σ ⟨B, N, i, hi', hBN, hany, rfl, rfl⟩
    simp -implicitDefEqProofs
    by_cases hlt : i < ks.length
    · have hlti : (i : Int) < ks.length := by omega
      obtain ⟨t, ht⟩ : ∃ t, ks[i]? = some t := ⟨_, List.getElem?_eq_getElem hlt⟩
      have hmem : t ∈ ks := List.mem_of_getElem? ht
      have hg := avs_get hlt
      rw [show ks[i] = t by rw [List.getElem?_eq_getElem hlt] at ht; exact Option.some.inj ht] at hg
      have hla : i < (avs ks).length := by omega
      have wi : IntKind.i64.wrap ((i : Int) + 1) = (i : Int) + 1 := wrap_id (by omega) (by omega)
      have hBN1 : ¬ B = N := by omega
      have hBN2 : ¬ N = B := by omega
      by_cases h2 : t.kind = 2
      · have hb : bd = true := hbd.trans (List.any_eq_true.2 ⟨t, hmem, decide_eq_true h2⟩)
        simp only [hb, if_true]
        obtain ⟨tk, tn, ta, tb, tc, td, tw, tks⟩ := t
        simp only [Tree.kind] at h2
        subst h2
        rw [Tree.av] at hg
        repeat' first | refine aw_N [4, 7] (And.intro @hlti (And.intro @hl (And.intro @hla (And.intro @hg (And.intro @hBN1 @hBN2))))) (And.intro @ebad_ok trivial) ?_ | refine aw_cond rfl (fun h => ?_) (fun h => ?_)
        all_goals first | (simp [tupOf, vl, hBN1, hBN2]; done) | trace_state
      · have hnx : NoBad (ks.take (i + 1)) := by rw [List.take_add_one, ht]; exact noBad_snoc hany h2
        have hit := hi t hmem
        have hsn := itS_take (f := gotF L) ht
        have h1024 := itT_len (gotF L) t
        have hlen : (itS (gotF L) (ks.take i)).length ≤ 1024 * 1000000 := by
          have := itS_len (gotF L) (ks.take i)
          rw [List.length_take] at this
          have h2 : min i ks.length ≤ 1000000 := by omega
          exact Nat.le_trans this (Nat.mul_le_mul_left _ h2)
        have hsl : ((itS (gotF L) (ks.take (i + 1))).length : Int) = ((itS (gotF L) (ks.take i)).length : Int) + ((itT (gotF L) t).length : Int) := by rw [hsn, List.length_append]; omega
        have hml : ((itT (gotF L) t).map vl).length = (itT (gotF L) t).length := List.length_map _
        have wn : IntKind.i64.wrap (((itS (gotF L) (ks.take i)).length : Int) + ((itT (gotF L) t).length : Int)) = ((itS (gotF L) (ks.take i)).length : Int) + ((itT (gotF L) t).length : Int) := wrap_id (by omega) (by omega)
        generalize itT (gotF L) t = I at *
        generalize itS (gotF L) (ks.take i) = P at *
        clear hsn
        obtain ⟨tk, tn, ta, tb, tc, td, tw, tks⟩ := t
        simp only [Tree.kind] at h2
        simp only [avs, Tree.av] at hit
        rw [Tree.av] at hg
        repeat' first | refine aw_N [4, 7] (And.intro @hlti (And.intro @hl (And.intro @hla (And.intro @hg (And.intro @wi (And.intro @h2 (And.intro @hml (And.intro @wn (And.intro @hBN1 @hBN2))))))))) (And.intro @hit trivial) ?_ | refine aw_cond rfl (fun h => ?_) (fun h => ?_)
        exact ⟨q - 1, by omega, _, le_mkSt (bs := [(B, [vi 0, vi 0])]) (ss := []) (n := N + 1) (by simp [hBN1, hBN2]) (by simp) (by simp), B, N + 1, i + 1, by omega, by omega, hnx, rfl, rfl, hsl.symm, by omega⟩
    · have hlti : ¬ (i : Int) < ks.length := by omega
      rw [List.take_of_length_le (by omega)] at hany
      rw [List.take_of_length_le (by omega)]
      have hb : bd = false := hbd.trans hany
      simp only [hb, Bool.false_eq_true, if_false]
      repeat' first | refine aw_N [4, 7] (And.intro @hlti @hl) trivial ?_ | refine aw_cond rfl (fun h => ?_) (fun h => ?_)
      all_goals first | (simp [tupOf, vl]; done) | trace_state
end Go.AL
/-! Contracts: (eval.sheet).of, eval.Of. -/
namespace Go.AL
open Go.Proofs
set_option linter.unusedSimpArgs false
set_option linter.unusedVariables false
theorem cl_wordsE (L : List Cel) : ∀ p ∈ wordsE L, Cl p.1 ∧ Cl p.2 := by
  intro p hp
  simp only [wordsE, List.mem_cons, List.not_mem_nil, or_false] at hp
  rcases hp with rfl | rfl | rfl | rfl | rfl <;> simp
@[simp] theorem cl_words1 (L : List Cel) : (∀ (c x : AV), (c, x) ∈ wordsE L → Cl c) = True := eq_true fun c x h => (cl_wordsE L _ h).1
@[simp] theorem cl_words2 (L : List Cel) : (∀ (c x : AV), (x, c) ∈ wordsE L → Cl c) = True := eq_true fun c x h => (cl_wordsE L _ h).2
def EComeP (L : List Cel) (t : Tree) : Prop := tszT t ≤ 1000000 → t.In → mayB t = true → APure Try.prog 47 [sev L, t.av] (vl (evT (gotF L) t))
set_option maxHeartbeats 16000000 in
set_option maxRecDepth 100000 in
theorem eword_ok (L : List Cel) (hcl : ∀ p ∈ L, In64 p.2.2.1) (n a b c d : Int) (w : ByteArray) (ks : List Tree) (hlk : ks.length ≤ 1000000) (hm : mayB (.mk 5 n a b c d w ks) = true)
    (hin : ∀ t ∈ ks, In64 (evT (gotF L) t).1) (hk : ∀ t ∈ ks, APure Try.prog 47 [sev L, t.av] (vl (evT (gotF L) t))) :
    APure Try.prog 47 [sev L, .agg [vi 5, vi n, vi a, vi b, vi c, vi d, vs w, .vsl (avs ks)]] (vl (callE w (ks.any fun u => decide (u.kind = 2)) (evTs (gotF L) ks) (itS (gotF L) ks))) := by
  have hl := avs_len ks
  have hw := words_ok L
  have h1 := ((own_iff _ _ _ _ _ _ _ _).1 ((may_own _ _ _ _ _ _ _ _).1 hm).1).2
  have h1 : (5 : Int) = 5 ∧ (if w = bIF then ks.length = 3 else isFn w = true ∧ 0 < ks.length) := h1
  have h1 := h1.2
  by_cases hif : w = bIF
  · rw [if_pos hif] at h1
    unfold bIF at hif
    subst hif
    obtain ⟨u, v, x, hks⟩ : ∃ u v x, ks = [u, v, x] := by
      match ks, h1 with
      | [u, v, x], _ => exact ⟨u, v, x, rfl⟩
    have hc := echoice_ok L u v x _ _ _ (hk u (by simp [hks])) (hk v (by simp [hks])) (hk x (by simp [hks]))
    rw [← hks] at hc
    have he : callE ⟨#[73, 70]⟩ (ks.any fun u => decide (u.kind = 2)) (evTs (gotF L) ks) (itS (gotF L) ks) = (if (evT (gotF L) u).2 ≠ 0 then evT (gotF L) u else if (evT (gotF L) u).1 ≠ 0 then evT (gotF L) v else evT (gotF L) x) := by
      rw [hks]
      simp [callE, evTs]
    rw [he]
    generalize (if (evT (gotF L) u).2 ≠ 0 then evT (gotF L) u else if (evT (gotF L) u).1 ≠ 0 then evT (gotF L) v else evT (gotF L) x) = r at *
    obtain ⟨rn, rf⟩ := r
    simp only [vl] at hc
    clear he hk hin hm hks
    have hf : amfind .string (.p (.string ⟨#[73, 70]⟩)) (wordsE L) 0 = some (some (0, .fn (.func 92) [sev L] [])) := by simp [wordsE, amfind, akey]
    refine apure_in Try.func47 Try.ntmps47 rfl ?_
    repeat' first | refine aw_W [4, 5] trivial (And.intro @hw trivial) ?_ | refine aw_cond rfl (fun h => ?_) (fun h => ?_)
    refine yl_lookupB rfl rfl wdT (es := wordsE L) rfl rfl hf rfl ?_
    simp -implicitDefEqProofs
    repeat' first | refine aw_W [4, 5] trivial (And.intro @hc trivial) ?_ | refine aw_cond rfl (fun h => ?_) (fun h => ?_)
    all_goals first | (simp [tupOf, vl]; done) | trace_state
  · rw [if_neg hif] at h1
    unfold bIF at hif
    have hits := eitems_ok L ks hlk fun t ht _ => hk t ht
    have hone : ∀ t ∈ ks, APure Try.prog 132 [sev L, .vsl (avs [t])] (.vsl ((itT (gotF L) t).map vl)) := fun t ht => by
      have := eitems_ok L [t] (by simp) (fun u hu _ => by obtain rfl := List.mem_singleton.1 hu; exact hk _ ht)
      rw [itS_flat] at this
      simpa using this
    have hcount := ecount_ok L ks hlk _ rfl hone
    have hii := its_in (fun x y v h => gotF_in hcl x y v h) ks hin
    have hlen := itS_len (gotF L) ks
    have h4 : 1024 * ks.length ≤ 1024 * 1000000 := Nat.mul_le_mul_left _ hlk
    generalize itS (gotF L) ks = its at *
    have hS := vsum_ok its (by omega) hii
    have hlo := least_ok its (by omega)
    have hhi := greatest_ok its (by omega)
    unfold callE
    rw [if_neg hif]
    by_cases w1 : w = ⟨#[83, 85, 77]⟩
    · subst w1
      rw [if_pos rfl]
      generalize sumL its = r at *
      obtain ⟨rn, rf⟩ := r
      have hc := eall1_ok L 95 ks its rn rf (by kernel_rfl) hits hS
      clear hk hin hm hii h1 hcount hone
      have hf : amfind .string (.p (.string ⟨#[83, 85, 77]⟩)) (wordsE L) 0 = some (some (2, .fn (.func 133) [] [.vel [vf 95] 0 0, .vel [sev L] 0 0])) := by simp [wordsE, amfind, akey]
      refine apure_in Try.func47 Try.ntmps47 rfl ?_
      repeat' first | refine aw_W [4, 5] trivial (And.intro @hw trivial) ?_ | refine aw_cond rfl (fun h => ?_) (fun h => ?_)
      refine yl_lookupB rfl rfl wdT (es := wordsE L) rfl rfl hf rfl ?_
      simp -implicitDefEqProofs
      repeat' first | refine aw_W [4, 5] trivial (And.intro @hc trivial) ?_ | refine aw_cond rfl (fun h => ?_) (fun h => ?_)
      all_goals first | (simp [tupOf, vl]; done) | trace_state
    rw [if_neg w1]
    by_cases w2 : w = ⟨#[77, 73, 78]⟩
    · subst w2
      rw [if_pos rfl]
      generalize lowL its = r at *
      obtain ⟨rn, rf⟩ := r
      have hc := eall1_ok L 96 ks its rn rf (by kernel_rfl) hits hlo
      clear hk hin hm hii h1 hcount hone
      have hf : amfind .string (.p (.string ⟨#[77, 73, 78]⟩)) (wordsE L) 0 = some (some (3, .fn (.func 133) [] [.vel [vf 96] 0 0, .vel [sev L] 0 0])) := by simp [wordsE, amfind, akey]
      refine apure_in Try.func47 Try.ntmps47 rfl ?_
      repeat' first | refine aw_W [4, 5] trivial (And.intro @hw trivial) ?_ | refine aw_cond rfl (fun h => ?_) (fun h => ?_)
      refine yl_lookupB rfl rfl wdT (es := wordsE L) rfl rfl hf rfl ?_
      simp -implicitDefEqProofs
      repeat' first | refine aw_W [4, 5] trivial (And.intro @hc trivial) ?_ | refine aw_cond rfl (fun h => ?_) (fun h => ?_)
      all_goals first | (simp [tupOf, vl]; done) | trace_state
    rw [if_neg w2]
    by_cases w3 : w = ⟨#[77, 65, 88]⟩
    · subst w3
      rw [if_pos rfl]
      generalize highL its = r at *
      obtain ⟨rn, rf⟩ := r
      have hc := eall1_ok L 97 ks its rn rf (by kernel_rfl) hits hhi
      clear hk hin hm hii h1 hcount hone
      have hf : amfind .string (.p (.string ⟨#[77, 65, 88]⟩)) (wordsE L) 0 = some (some (4, .fn (.func 133) [] [.vel [vf 97] 0 0, .vel [sev L] 0 0])) := by simp [wordsE, amfind, akey]
      refine apure_in Try.func47 Try.ntmps47 rfl ?_
      repeat' first | refine aw_W [4, 5] trivial (And.intro @hw trivial) ?_ | refine aw_cond rfl (fun h => ?_) (fun h => ?_)
      refine yl_lookupB rfl rfl wdT (es := wordsE L) rfl rfl hf rfl ?_
      simp -implicitDefEqProofs
      repeat' first | refine aw_W [4, 5] trivial (And.intro @hc trivial) ?_ | refine aw_cond rfl (fun h => ?_) (fun h => ?_)
      all_goals first | (simp [tupOf, vl]; done) | trace_state
    rw [if_neg w3]
    have w4 : w = ⟨#[67, 79, 85, 78, 84]⟩ := by
      have := h1.1
      unfold isFn bCOUNT at this
      simp only [Bool.or_eq_true, decide_eq_true_eq] at this
      rcases this with ((h | h) | h) | h
      · exact absurd h w1
      · exact absurd h w2
      · exact absurd h w3
      · exact h
    subst w4
    generalize (if (ks.any fun u => decide (u.kind = 2)) = true then ((0 : Int), (3 : Int)) else ((its.length : Int), 0)) = r at *
    obtain ⟨rn, rf⟩ := r
    have hc := hcount
    simp only [vl] at hc
    clear hk hin hm hii h1 hcount hone
    have hf : amfind .string (.p (.string ⟨#[67, 79, 85, 78, 84]⟩)) (wordsE L) 0 = some (some (1, .fn (.func 93) [sev L] [])) := by simp [wordsE, amfind, akey]
    refine apure_in Try.func47 Try.ntmps47 rfl ?_
    repeat' first | refine aw_W [4, 5] trivial (And.intro @hw trivial) ?_ | refine aw_cond rfl (fun h => ?_) (fun h => ?_)
    refine yl_lookupB rfl rfl wdT (es := wordsE L) rfl rfl hf rfl ?_
    simp -implicitDefEqProofs
    repeat' first | refine aw_W [4, 5] trivial (And.intro @hc trivial) ?_ | refine aw_cond rfl (fun h => ?_) (fun h => ?_)
    all_goals first | (simp [tupOf, vl]; done) | trace_state
set_option maxHeartbeats 16000000 in
set_option maxRecDepth 100000 in
theorem ecome_ok (L : List Cel) (hcl : ∀ p ∈ L, In64 p.2.2.1) : ∀ t, EComeP L t := by
  refine Tree.byKids fun k n a b c d w ks ih => ?_
  intro hsz hin hm
  have hin0 := hin
  rw [Tree.In, ins_all] at hin
  obtain ⟨_, hn, _, _, _, _, hw, hlk, hks⟩ := hin
  have hsum : tszs ks < tszT (.mk k n a b c d w ks) := by rw [tszT]; omega
  have hkl := len_le_tszs ks
  have hf : ∀ x y v, gotF L x y = some v → In64 v.1 := fun x y v h => gotF_in hcl x y v h
  have hksz : ∀ u ∈ ks, tszT u ≤ 1000000 := fun u hu => by have := tszs_mem hu; omega
  have hki : ∀ u ∈ ks, In64 (evT (gotF L) u).1 := fun u hu => ev_in hf u (hks u hu) (hksz u hu)
  rw [evT]
  by_cases h0 : k = 0
  · subst h0
    rw [if_pos rfl, Tree.av]
    refine apure_in Try.func47 Try.ntmps47 rfl ?_
    repeat' first | refine aw_W [4, 5] trivial trivial ?_ | refine aw_cond rfl (fun h => ?_) (fun h => ?_)
    all_goals first | (simp [tupOf, vl]; done) | trace_state
  rw [if_neg h0]
  by_cases h1 : k = 1
  · subst h1
    rw [if_pos rfl, Tree.av]
    have hlook := seG L a b
    have hgf : (gotF L a b).getD (0, 0) = cleanV ((gotC L a b).getD (0, 0)).1 ((gotC L a b).getD (0, 0)).2 := by
      unfold gotF
      cases gotC L a b with
      | none => simp [cleanV]
      | some v => rfl
    rw [hgf]
    generalize (gotC L a b).getD (0, 0) = r at *
    obtain ⟨rn, rf⟩ := r
    have hc := eclean_ok rn rf
    simp only at hlook ⊢
    generalize cleanV rn rf = cv at *
    obtain ⟨cn, cf⟩ := cv
    simp only [vl] at hc
    clear ih hsz hsum hkl hksz hki hin0 hm
    refine apure_in Try.func47 Try.ntmps47 rfl ?_
    repeat' first | refine aw_W [4, 5] trivial trivial ?_ | refine aw_cond rfl (fun h => ?_) (fun h => ?_)
    refine awl_lookupV [] rfl rfl seT rfl rfl (seK _ _) (seF _ _ _ _) hlook ?_
    simp -implicitDefEqProofs
    repeat' first | refine aw_W [4, 5] trivial (And.intro @hc trivial) ?_ | refine aw_cond rfl (fun h => ?_) (fun h => ?_)
    all_goals first | (simp [tupOf, vl]; done) | trace_state
  rw [if_neg h1]
  by_cases h3 : k = 3
  · subst h3
    rw [if_pos rfl]
    obtain ⟨u, rfl, hu⟩ := may_neg7 hm
    have hr : APure Try.prog 47 [sev L, u.av] (vl (evT (gotF L) u)) := ih u (by simp) (hksz u (by simp)) (hks u (by simp)) hu
    have hni := hki u (by simp)
    simp only [evTs, List.headD]
    generalize evT (gotF L) u = e at *
    obtain ⟨en, ef⟩ := e
    have hng := vneg_ok en ef hni
    simp only [vl] at hr
    clear ih hsz hsum hkl hksz hki hin0 hm
    obtain ⟨tk, tn, ta, tb, tc, td, tw, tks⟩ := u
    rw [Tree.av] at hr
    simp only [Tree.av, avs]
    refine apure_in Try.func47 Try.ntmps47 rfl ?_
    repeat' first | refine aw_W [4, 5] trivial (And.intro @hr (And.intro @hng trivial)) ?_ | refine aw_cond rfl (fun h => ?_) (fun h => ?_)
    all_goals first | (simp [tupOf, vl]; done) | trace_state
  rw [if_neg h3]
  by_cases h4 : k = 4
  · subst h4
    rw [if_pos rfl]
    obtain ⟨u, v, rfl, hu, hv⟩ := may_op7 hm
    have ru : APure Try.prog 47 [sev L, u.av] (vl (evT (gotF L) u)) := ih u (by simp) (hksz u (by simp)) (hks u (by simp)) hu
    have rv : APure Try.prog 47 [sev L, v.av] (vl (evT (gotF L) v)) := ih v (by simp) (hksz v (by simp)) (hks v (by simp)) hv
    have iu := hki u (by simp)
    have iv := hki v (by simp)
    simp only [evTs, List.headD, List.tail]
    generalize evT (gotF L) u = eu at *
    generalize evT (gotF L) v = ev at *
    obtain ⟨un', uf⟩ := eu
    obtain ⟨vn', vf'⟩ := ev
    have hd := do_ok w un' uf vn' vf' iu iv
    simp only [vl] at ru rv
    clear ih hsz hsum hkl hksz hki hin0 hm
    obtain ⟨tk, tn, ta, tb, tc, td, tw, tks⟩ := u
    obtain ⟨vk, vn, va, vb', vc, vd, vw, vks⟩ := v
    rw [Tree.av] at ru rv
    simp only [Tree.av, avs]
    refine apure_in Try.func47 Try.ntmps47 rfl ?_
    repeat' first | refine aw_W [4, 5] trivial (And.intro @ru (And.intro @rv (And.intro @hd trivial))) ?_ | refine aw_cond rfl (fun h => ?_) (fun h => ?_)
    all_goals first | (simp [tupOf, vl]; done) | trace_state
  rw [if_neg h4]
  by_cases h5 : k = 5
  · subst h5
    rw [if_pos rfl, Tree.av]
    exact eword_ok L hcl n a b c d w ks (by omega) hm hki fun t ht => ih t ht (hksz t ht) (hks t ht) (may_kids7 hm t ht)
  rw [if_neg h5, Tree.av]
  refine apure_in Try.func47 Try.ntmps47 rfl ?_
  repeat' first | refine aw_W [4, 5] (And.intro @h0 (And.intro @h1 (And.intro @h3 (And.intro @h4 @h5)))) (And.intro @ebad_ok trivial) ?_ | refine aw_cond rfl (fun h => ?_) (fun h => ?_)
  all_goals first | (simp [tupOf, vl]; done) | trace_state
end Go.AL
/-! Contracts: eval.Of. -/
namespace Go.AL
open Go.Proofs
set_option linter.unusedSimpArgs false
set_option linter.unusedVariables false
def msE (b : Nat) (es : List (AV × AV)) (B : Nat) (cs : List AV) (n : Nat) : ASt := ⟨fun c => if c = B then some cs else none, fun c => if c = b then some es else none, fun _ => none, n⟩
@[simp] theorem msE_bx (b es B cs n) (c : Nat) : (msE b es B cs n).bx c = if c = B then some cs else none := rfl
@[simp] theorem msE_mp (b es B cs n) (c : Nat) : (msE b es B cs n).mp c = if c = b then some es else none := rfl
@[simp] theorem msE_sl (b es B cs n) (c : Nat) : (msE b es B cs n).sl c = none := rfl
@[simp] theorem msE_next (b es B cs n) : (msE b es B cs n).next = n := rfl
theorem le_msE {σ : ASt} {b es B cs n} (h : σ.mp b = some es) (h2 : σ.bx B = some cs) (hn : σ.next ≤ n) : (msE b es B cs n).Le σ where
  bx := fun c _ e => by
    simp only [msE_bx] at e
    split at e
    · rename_i hb; subst hb; rw [h2]; exact e
    · cases e
  mp := fun c es' e => by
    simp only [msE_mp] at e
    split at e
    · rename_i hb; subst hb; rw [h]; exact e
    · cases e
  sl := fun c _ e => by cases e
  next := hn
def addC (M : List Cel) (p : Cel) : List Cel := if (ixC M p.1 p.2.1 0).isSome = true then M else M ++ [p]
def ees (M : List Cel) : List (AV × AV) := M.map fun p => (eky p, evl p)
theorem ees_fst (M) : (ees M).map Prod.fst = ekys M := by simp [ees, ekys]
theorem ees_snd (M) : (ees M).map Prod.snd = ekvs M := by simp [ees, ekvs]
set_option maxHeartbeats 16000000 in
set_option maxRecDepth 100000 in
theorem eOf_ok (t : Tree) (rb : Bool) (l : List Cel) (W : Int × Int) (hlen : l.length ≤ 1000000000) (hR : APure Try.prog 38 [t.av] (vb rb))
    (hw : rb = true → APure Try.prog 47 [sev (l.foldl addC []), t.av] (vl W)) :
    APure Try.prog 17 [t.av, .vsl (cels l)] (vl (if rb = true then W else (0, 3))) := by
  have hl := cels_len l
  obtain ⟨k, n, a, b, c, d, w, ks⟩ := t
  obtain ⟨wn, wf⟩ := W
  simp only [vl] at hw
  rw [Tree.av] at hR hw ⊢
  cases rb with
  | false =>
    refine apure_in Try.func17 Try.ntmps17 rfl ?_
    repeat' first | refine aw_N [4, 7, 8] trivial (And.intro @hR (And.intro @ebad_ok trivial)) ?_ | refine aw_cond rfl (fun h => ?_) (fun h => ?_)
    all_goals first | (simp [tupOf, vl]; done) | trace_state
  | true =>
    have hw := hw rfl
    refine apure_in Try.func17 Try.ntmps17 rfl ?_
    repeat' first | refine aw_N [4, 7, 8] trivial (And.intro @hR trivial) ?_ | refine aw_cond rfl (fun h => ?_) (fun h => ?_)
    refine awl_makeMap [] rfl rfl ?_
    simp -implicitDefEqProofs
    repeat' first | refine aw_N [4, 7, 8] @hl trivial ?_ | refine aw_cond rfl (fun h => ?_) (fun h => ?_)
    refine aw_loopW [2, 4, 5, 15, 16, 17] (fun q fr σ => ∃ B C i N : Nat, i + q = l.length ∧ B < N ∧ C < N ∧ σ = msE B (ees ((l.take i).foldl addC [])) C [vi 0, vi 0] N ∧ fr = frm 39 [(2, .vel [.agg [vi k, vi n, vi a, vi b, vi c, vi d, vs w, .vsl (avs ks)]] 0 0), (4, .ptr C 0), (5, .map B), (15, .vsl (cels l)), (16, vi l.length), (17, vi (i : Nat))]) l.length ?_ ?_
    · exact ⟨_, le_msE (b := 1) (es := []) (B := 0) (cs := [vi 0, vi 0]) (n := 2) (by simp) (by simp) (by simp), 1, 0, 0, 2, by omega, by omega, by omega, rfl, by simp⟩
    · rintro q fr σ ⟨B, C, i, N, hi, hBN, hCN, rfl, rfl⟩
      simp -implicitDefEqProofs
      have hmk : ∀ M (x y : Int), vfind Try.prog 24 (.agg [vi x, vi y]) ((ees M).map Prod.fst) 0 = some (ixC M x y 0) := fun M x y => by rw [ees_fst]; exact seF x y M 0
      have hmg : ∀ M (x y : Int), vgot Try.prog 41 ((ees M).map Prod.snd) (ixC M x y 0) (.agg [vi ((gotC M x y).getD (0, 0)).1, vi ((gotC M x y).getD (0, 0)).2]) := fun M x y => by rw [ees_snd]; exact seG M x y
      have hnv : ∀ M, ∀ p ∈ ees M, p.1 ≠ noV := fun M p hp => by obtain ⟨q, _, rfl⟩ := List.mem_map.1 hp; simp [noV, eky]
      by_cases hlt : i < l.length
      · have hlti : (i : Int) < l.length := by omega
        obtain ⟨⟨x, y, v, f⟩, hp⟩ : ∃ p, l[i]? = some p := ⟨_, List.getElem?_eq_getElem hlt⟩
        have hg := cels_get hp
        have hla : i < (cels l).length := by omega
        have wi : IntKind.i64.wrap ((i : Int) + 1) = (i : Int) + 1 := wrap_id (by omega) (by omega)
        have hC1 : ¬ C = N := by omega
        have hC2 : ¬ N = C := by omega
        have hC3 : ¬ C = N + 1 := by omega
        have hC4 : ¬ N + 1 = C := by omega
        generalize hM : (l.take i).foldl addC [] = M at *
        repeat' first | refine aw_N [4, 7, 8] (And.intro @hlti (And.intro @hl (And.intro @hla (And.intro @hg (And.intro @wi (And.intro @hC1 @hC2)))))) trivial ?_ | refine aw_cond rfl (fun h => ?_) (fun h => ?_)
        refine awl_lookupS [4, 7, 8] rfl rfl seT rfl (es := ees M) (by simp) (hnv M) rfl (seK _ _) (hmk M _ _) (hmg M _ _) ?_
        simp -implicitDefEqProofs [hC1, hC2, hC3, hC4]
        repeat' first | refine aw_N [4, 7, 8] (And.intro @hlti (And.intro @hl (And.intro @hla (And.intro @hg (And.intro @wi (And.intro @hC1 (And.intro @hC2 (And.intro @hC3 @hC4)))))))) trivial ?_ | refine aw_cond rfl (fun h => ?_) (fun h => ?_)
        · have hix : ixC M x y 0 = none := by simpa using h
          refine awl_mapNewS [4, 7, 8] (.inr rfl) rfl seT rfl (es := ees M) (by simp) (hnv M) rfl (seK _ _) (by rw [← hix]; exact hmk M _ _) ?_
          simp -implicitDefEqProofs [hC1, hC2, hC3, hC4]
          repeat' first | refine aw_N [4, 7, 8] (And.intro @wi (And.intro @hC1 (And.intro @hC2 (And.intro @hC3 @hC4)))) trivial ?_ | refine aw_cond rfl (fun h => ?_) (fun h => ?_)
          refine ⟨q - 1, by omega, _, le_msE (b := B) (es := ees (M ++ [(x, y, v, f)])) (B := C) (cs := [vi 0, vi 0]) (n := N + 2) (by simp [ees, eky, evl, upd]) (by simp [hC1, hC2, hC3, hC4]) (by simp), B, C, i + 1, by omega, N + 2, by omega, by omega, ?_, rfl, rfl, by omega⟩
          rw [List.take_add_one, hp, List.foldl_append, hM]
          simp [addC, hix]
        · refine ⟨q - 1, by omega, _, le_msE (b := B) (es := ees M) (B := C) (cs := [vi 0, vi 0]) (n := N + 2) (by simp) (by simp [hC1, hC2, hC3, hC4]) (by simp), B, C, i + 1, by omega, N + 2, by omega, by omega, ?_, rfl, rfl, by omega⟩
          have hix : (ixC M x y 0).isSome = true := by cases hq : ixC M x y 0 <;> simp_all
          rw [List.take_add_one, hp, List.foldl_append, hM]
          simp [addC, hix]
      · have hlti : ¬ (i : Int) < l.length := by omega
        rw [List.take_of_length_le (by omega)]
        generalize l.foldl addC [] = M at *
        refine aw_freezeM (b := B) (es := ees M) (by simp) (hnv M) ?_
        simp -implicitDefEqProofs [frzM, ees_fst, ees_snd]
        repeat' first | refine aw_N [4, 7, 8] (And.intro @hlti @hl) (And.intro @hw trivial) ?_ | refine aw_cond rfl (fun h => ?_) (fun h => ?_)
        all_goals first | (simp [tupOf, vl]; done) | trace_state
/-! ### the sheet is what the document has -/
theorem gotC_snoc (x y : Int) (p : Cel) : ∀ M, gotC (M ++ [p]) x y = if (gotC M x y).isSome = true then gotC M x y else if x = p.1 ∧ y = p.2.1 then some (p.2.2.1, p.2.2.2) else none
  | [] => by obtain ⟨a, b, n, f⟩ := p; simp [gotC]
  | (a, b, n, f) :: M => by
    rw [List.cons_append, gotC, gotC, gotC_snoc x y p M]
    by_cases h : x = a ∧ y = b
    · simp [h]
    · rw [if_neg h, if_neg h]
theorem gotC_fold (x y : Int) : ∀ (l M : List Cel), gotC (l.foldl addC M) x y = if (gotC M x y).isSome = true then gotC M x y else gotC l x y
  | [], M => by
    rw [List.foldl_nil, gotC]
    cases gotC M x y <;> simp
  | (a, b, n, f) :: l, M => by
    rw [List.foldl_cons, gotC_fold x y l, gotC]
    unfold addC
    rw [seS]
    simp only
    by_cases h1 : (gotC M a b).isSome = true
    · rw [if_pos h1]
      by_cases h2 : (gotC M x y).isSome = true
      · rw [if_pos h2, if_pos h2]
      · rw [if_neg h2, if_neg h2]
        rw [if_neg (fun e => h2 (by rw [e.1, e.2]; exact h1))]
    · rw [if_neg h1, gotC_snoc]
      by_cases h2 : (gotC M x y).isSome = true
      · simp [h2]
      · have h2' := eq_false_of_ne_true h2
        simp only [h2', Bool.false_eq_true, if_false]
        by_cases h3 : x = a ∧ y = b
        · rw [if_pos h3, if_pos h3]; rfl
        · rw [if_neg h3, if_neg h3]; rfl
theorem gotF_atE (x y : Int) : ∀ l : List Cel, gotF l x y = atE l x y
  | [] => rfl
  | (a, b, n, f) :: l => by
    have ih := gotF_atE x y l
    unfold gotF at ih ⊢
    rw [gotC, atE]
    by_cases h : x = a ∧ y = b
    · rw [if_pos h, if_pos ⟨h.1.symm, h.2.symm⟩]; rfl
    · rw [if_neg h, if_neg (fun e => h ⟨e.1.symm, e.2.symm⟩)]; exact ih
theorem gotF_all (l : List Cel) : gotF (l.foldl addC []) = atE l := by
  funext x y
  rw [← gotF_atE]
  unfold gotF
  rw [gotC_fold]; rfl
theorem addC_mem {q : Cel} : ∀ (l M : List Cel), q ∈ l.foldl addC M → q ∈ M ∨ q ∈ l
  | [], M, h => .inl h
  | p :: l, M, h => by
    rw [List.foldl_cons] at h
    rcases addC_mem l _ h with h | h
    · unfold addC at h
      split at h
      · exact .inl h
      · rcases List.mem_append.1 h with h | h
        · exact .inl h
        · exact .inr (by rw [List.mem_singleton.1 h]; exact List.mem_cons_self)
    · exact .inr (List.mem_cons_of_mem _ h)
theorem eOfD (t : Tree) (l : List Cel) (hlen : l.length ≤ 1000000000) (hcl : ∀ p ∈ l, In64 p.2.2.1) (hin : t.In) (hsh : t.sh) (hz : tszT t ≤ 1000000) : APure Try.prog 17 [t.av, .vsl (cels l)] (vl (if rightB t = true then evT (atE l) t else (0, 3))) := by
  refine eOf_ok t (rightB t) l _ hlen (by rw [← rightK_B]; exact sRight_ok t hsh) fun h => ?_
  have := ecome_ok (l.foldl addC []) (fun p hp => by
    rcases addC_mem l [] hp with h | h
    · cases h
    · exact hcl p h) t hz hin (by unfold rightB at h; simp only [Bool.and_eq_true] at h; exact h.2)
  rw [gotF_all] at this
  exact this
end Go.AL
