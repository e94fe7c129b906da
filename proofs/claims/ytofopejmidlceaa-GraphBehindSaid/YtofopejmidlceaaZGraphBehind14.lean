/- Parts of the proof of GraphBehind: the logic, contracts, plain laws. -/
import Derived.Test.YtofopejmidlceaaZGraphBehind13
import Derived.Test.YtofopejmidlceaaZGraphBehind10
import Derived.Test.YtofopejmidlceaaZGraphBehind11
/-! Contracts: slices.DeleteFunc of numbers, by a function over one variable; slices.Clone. -/
namespace Go.AL
open Go.Proofs
set_option linter.unusedSimpArgs false
set_option linter.unusedVariables false
theorem idxF_spec (p : Int → Bool) : ∀ (l : List Int) (i : Nat), (idxF p l i = -1 ∧ ∀ x ∈ l, p x = false) ∨ ∃ j, ∃ h : j < l.length, idxF p l i = (i : Int) + j ∧ p l[j] = true ∧ ∀ k (h : k < l.length), k < j → p l[k] = false
  | [], i => .inl ⟨rfl, by simp⟩
  | x :: l, i => by
    rw [idxF]
    cases hx : p x with
    | true => exact .inr ⟨0, by simp, by simp, by simpa using hx, fun k h hk => by omega⟩
    | false =>
      rw [if_neg (by simp)]
      rcases idxF_spec p l (i + 1) with ⟨h1, h2⟩ | ⟨j, h0, h1, h2, h3⟩
      · exact .inl ⟨h1, by simpa [hx] using h2⟩
      · refine .inr ⟨j + 1, by simpa using h0, by rw [h1]; push_cast; omega, by simpa using h2, fun k h hk => ?_⟩
        cases k with
        | zero => simpa using hx
        | succ k => simpa using h3 k (by simpa using h) (by omega)
def dfS (cs : List AV) (l : List Int) : ASt := mkSt [(0, cs)] [(1, l.map vi)] 2
set_option maxHeartbeats 16000000 in
set_option maxRecDepth 100000 in
theorem iindexfuncB_ok (fq : FuncId) (hF : callable Try.prog fq = true) (cs : List AV) (p : Int → Bool) (l : List Int) (hp : ∀ z ∈ l, BK Try.prog fq [vi z, .ptr 0 0] cs (vb (p z)) cs) (hl : l.length ≤ 1000000000) :
    ACall Try.prog 39 [.hsl 1 0 l.length, .fn (.func fq) [] [.ptr 0 0]] (dfS cs l) fun r τ => r = vi (idxF p l 0) ∧ τ.bx 0 = some cs ∧ τ.sl 1 = some (l.map vi) := by
  have hvl : (l.map vi).length = l.length := List.length_map _
  refine acall_of Try.func39 Try.ntmps39 rfl ?_
  simp only [List.length_cons, List.length_nil, List.cons_append, List.nil_append, List.replicate]
  unfold dfS
  repeat' first | refine aw_N [] trivial trivial ?_ | refine aw_cond rfl (fun h => ?_) (fun h => ?_)
  refine aw_loopW [0, 1, 7, 8] (fun q fr σ => ∃ i M : Nat, i + q = l.length ∧ 2 ≤ M ∧ idxF p (l.drop i) i = idxF p l 0 ∧ σ = mkSt [(0, cs)] [(1, l.map vi)] M ∧ fr = frm 19 [(0, .hsl 1 0 l.length), (1, .fn (.func fq) [] [.ptr 0 0]), (7, vi (l.length : Nat)), (8, vi (i : Nat))]) l.length ?_ ?_
  · exact ⟨mkSt [(0, cs)] [(1, l.map vi)] 2, le_mkSt (by simp) (by simp) (by simp), 0, 2, by omega, by omega, by simp, rfl, by simp⟩
  · rintro q fr σ ⟨i, M, hi, hM, hx, rfl, rfl⟩
    simp -implicitDefEqProofs
    by_cases hlt : i < l.length
    · have hlti : (i : Int) < l.length := by omega
      obtain ⟨t, ht⟩ : ∃ t, l[i] = t := ⟨_, rfl⟩
      have wi : IntKind.i64.wrap ((i : Int) + 1) = (i : Int) + 1 := wrap_id (by omega) (by omega)
      rw [List.drop_eq_getElem_cons hlt, ht, idxF] at hx
      have hpt := hp t (by rw [← ht]; exact List.getElem_mem hlt)
      cases hv : p t with
      | true =>
        rw [hv] at hx hpt
        rw [if_pos rfl] at hx
        rw [← hx]
        repeat' first | refine aw_N [] (And.intro @hlt (And.intro @hlti (And.intro @ht @wi))) (And.intro @hpt trivial) ?_ | refine aw_cond rfl (fun h => ?_) (fun h => ?_)
        all_goals first | (simp [tupOf]; done) | trace_state
      | false =>
        rw [hv] at hx hpt
        rw [if_neg (by simp)] at hx
        repeat' first | refine aw_N [] (And.intro @hlt (And.intro @hlti (And.intro @ht @wi))) (And.intro @hpt trivial) ?_ | refine aw_cond rfl (fun h => ?_) (fun h => ?_)
        all_goals first | exact ⟨q - 1, by omega, mkSt [(0, cs)] [(1, l.map vi)] M, le_mkSt (by simp) (by simp) (by simp), i + 1, by omega, M, hM, hx, rfl, by simp⟩ | trace_state
    · have hlti : ¬ (i : Int) < l.length := by omega
      rw [List.drop_eq_nil_of_le (by omega), idxF] at hx
      rw [← hx]
      repeat' first | refine aw_N [] (And.intro @hlt @hlti) trivial ?_ | refine aw_cond rfl (fun h => ?_) (fun h => ?_)
      all_goals first | (simp [tupOf]; done) | trace_state
def DfI (fq : FuncId) (cs : List AV) (p : Int → Bool) (l : List Int) (q : Nat) (fr : List AV) (σ : ASt) : Prop :=
  ∃ (i j M : Nat) (cur : List Int), j + q = l.length ∧ i < j ∧ cur.length = l.length ∧ cur.take i = (l.take j).filter (fun z => !p z) ∧ cur.drop j = l.drop j ∧ 2 ≤ M ∧ σ = mkSt [(0, cs)] [(1, cur.map vi)] M ∧ fr = frm 42 [(0, .hsl 1 0 l.length), (1, .fn (.func fq) [] [.ptr 0 0]), (5, vi (i : Nat)), (6, vi (j : Nat))]
set_option maxHeartbeats 16000000 in
set_option maxRecDepth 100000 in
theorem ideleteB_ok (fq : FuncId) (hF : callable Try.prog fq = true) (cs : List AV) (p : Int → Bool) (l : List Int) (hp : ∀ z ∈ l, BK Try.prog fq [vi z, .ptr 0 0] cs (vb (p z)) cs) (hl : l.length ≤ 1000000000) :
    ACall Try.prog 28 [.hsl 1 0 l.length, .fn (.func fq) [] [.ptr 0 0]] (dfS cs l) fun r τ => r = .vsl ((l.filter fun z => !p z).map vi) ∧ τ.bx 0 = some cs := by
  have hix := iindexfuncB_ok fq hF cs p l hp hl
  refine acall_of Try.func28 Try.ntmps28 rfl ?_
  simp only [List.length_cons, List.length_nil, List.cons_append, List.nil_append, List.replicate]
  repeat' first | refine aw_N [] trivial trivial ?_ | refine aw_cond rfl (fun h => ?_) (fun h => ?_)
  refine awl_cons rfl (opq_call rfl rfl rfl (hix.mono fun r τ ⟨e1, e2, e3⟩ => ?_))
  subst e1
  refine AWL.less (τ := mkSt [(0, cs)] [(1, l.map vi)] τ.next) (le_mkSt (by simpa using e2) (by simpa using e3) (Nat.le_refl _)) ?_
  refine awl_run' [] ?_
  simp -implicitDefEqProofs
  rcases idxF_spec p l 0 with ⟨h1, h2⟩ | ⟨i0, hi0, h1, h2, h3⟩
  · rw [h1]
    have hfl : l.filter (fun z => !p z) = l := List.filter_eq_self.2 fun x hx => by simp [h2 x hx]
    rw [hfl]
    have hvl : (l.map vi).length = l.length := List.length_map _
    repeat' first | refine aw_M [] @hvl trivial ?_ | refine aw_cond rfl (fun h => ?_) (fun h => ?_)
    all_goals first | (simp [tupOf, ASt.noSl, List.take_of_length_le, hvl]; done) | trace_state
  · rw [h1]
    have hn1 : ¬ ((0 : Nat) : Int) + (i0 : Int) = -1 := by omega
    have hz : ((0 : Nat) : Int) + (i0 : Int) = i0 := by omega
    rw [hz] at hn1 ⊢
    have wi : IntKind.i64.wrap ((i0 : Int) + 1) = (i0 : Int) + 1 := wrap_id (by omega) (by omega)
    repeat' first | refine aw_N [] (And.intro @hn1 @wi) trivial ?_ | refine aw_cond rfl (fun h => ?_) (fun h => ?_)
    refine aw_loopW [0, 1, 5, 6] (fun q fr σ => DfI fq cs p l q fr σ) (l.length - (i0 + 1)) ?_ ?_
    · refine ⟨mkSt [(0, cs)] [(1, l.map vi)] (max 2 τ.next), le_mkSt (by simp) (by simp) (by simp; omega), i0, i0 + 1, max 2 τ.next, l, by omega, by omega, rfl, ?_, rfl, by omega, rfl, by simp⟩
      rw [List.take_add_one, List.getElem?_eq_getElem hi0, Option.toList_some, List.filter_append, List.filter_cons_of_neg (by simp [h2]), List.filter_nil, List.append_nil]
      refine (List.filter_eq_self.2 fun x hx => ?_).symm
      obtain ⟨k, hk, rfl⟩ := List.getElem_of_mem hx
      have hk' : k < i0 := by simp at hk; omega
      rw [List.getElem_take]
      simp [h3 k (by omega) hk']
    · rintro q fr σ ⟨i, j, M, cur, hq, hij, hcl, htk, hdr, hM, rfl, rfl⟩
      simp -implicitDefEqProofs
      have hvl : (cur.map vi).length = l.length := by rw [List.length_map, hcl]
      by_cases hlt : j < l.length
      · have hlti : (j : Int) < l.length := by omega
        have hjc : j < cur.length := by omega
        obtain ⟨t, ht⟩ : ∃ t, cur[j] = t := ⟨_, rfl⟩
        have hgt : cur[j]? = some t := by rw [List.getElem?_eq_getElem hjc, ht]
        have hlj : l[j]? = some t := by
          have := congrArg (·[0]?) hdr
          simp only [List.getElem?_drop, Nat.add_zero] at this
          rw [← this]; exact hgt
        have hpt := hp t (List.mem_of_getElem? hlj)
        have wi : IntKind.i64.wrap ((i : Int) + 1) = (i : Int) + 1 := wrap_id (by omega) (by omega)
        have wj : IntKind.i64.wrap ((j : Int) + 1) = (j : Int) + 1 := wrap_id (by omega) (by omega)
        have hdr1 : cur.drop (j + 1) = l.drop (j + 1) := by
          have := congrArg (List.drop 1) hdr
          simpa [List.drop_drop, Nat.add_comm] using this
        have htl : (l.take (j + 1)).filter (fun z => !p z) = (l.take j).filter (fun z => !p z) ++ (if p t = true then [] else [t]) := by
          rw [List.take_add_one, hlj, Option.toList_some, List.filter_append]
          cases hc : p t <;> simp [hc]
        cases hv : p t with
        | true =>
          rw [hv] at hpt htl
          repeat' first | refine aw_N [] (And.intro @hlt (And.intro @hlti (And.intro @hjc (And.intro @ht (And.intro @hgt (And.intro @hvl @wj)))))) (And.intro @hpt trivial) ?_ | refine aw_cond rfl (fun h => ?_) (fun h => ?_)
          refine ⟨q - 1, by omega, mkSt [(0, cs)] [(1, cur.map vi)] M, le_mkSt (by simp) (by simp) (by simp), i, j + 1, M, cur, by omega, by omega, hcl, by rw [htl, htk]; simp, hdr1, hM, rfl, by simp⟩
        | false =>
          rw [hv] at hpt htl
          have hic : i < cur.length := by omega
          have hil : i < l.length := by omega
          repeat' first | refine aw_N [] (And.intro @hlt (And.intro @hlti (And.intro @hjc (And.intro @ht (And.intro @hgt (And.intro @hvl (And.intro @wj (And.intro @wi (And.intro @hic @hil))))))))) (And.intro @hpt trivial) ?_ | refine aw_cond rfl (fun h => ?_) (fun h => ?_)
          refine ⟨q - 1, by omega, mkSt [(0, cs)] [(1, (cur.set i t).map vi)] M, le_mkSt (by simp) (by simp [List.map_set]) (by simp), i + 1, j + 1, M, cur.set i t, by omega, by omega, by simpa using hcl, ?_, ?_, hM, rfl, by simp⟩
          · rw [htl, ← htk, List.take_add_one, List.take_set_of_le (Nat.le_refl i)]
            simp [hic]
          · rw [List.drop_set_of_lt (by omega)]; exact hdr1
      · have hlti : ¬ (j : Int) < l.length := by omega
        obtain rfl : j = l.length := by omega
        rw [List.take_of_length_le (Nat.le_refl _)] at htk
        have hil : i ≤ l.length := by omega
        have hok : ∀ y ∈ cur.map vi, y.cells.length = 1 := fun y hy => by
          obtain ⟨_, _, rfl⟩ := List.mem_map.1 hy; rfl
        rw [← htk]
        by_cases hi0 : i = 0
        · subst hi0
          repeat' first | refine aw_N [] (And.intro @hlti @hil) trivial ?_ | refine aw_cond rfl (fun h => ?_) (fun h => ?_)
          refine awl_clear [] rfl rfl (b := 1) (off := 0) (k := l.length) (xs := cur.map vi) rfl (by simp) (by simp; omega) te23 tet23 tz3 rfl rfl hok ?_
          simp -implicitDefEqProofs
          repeat' first | refine aw_M [] @hvl trivial ?_ | refine aw_cond rfl (fun h => ?_) (fun h => ?_)
          all_goals first | (simp [tupOf, ASt.noSl, hcl]; done) | trace_state
        · obtain ⟨t, ht⟩ : ∃ t, cur[0]? = some t := ⟨_, List.getElem?_eq_getElem (by omega)⟩
          repeat' first | refine aw_N [] (And.intro @hlti (And.intro @hil (And.intro @hi0 @ht))) trivial ?_ | refine aw_cond rfl (fun h => ?_) (fun h => ?_)
          refine awl_clear [] rfl rfl (b := 1) (off := i) (k := l.length - i) (xs := cur.map vi) rfl (by simp) (by simp; omega) te23 tet23 tz3 rfl rfl hok ?_
          simp -implicitDefEqProofs
          have hni : i + (l.length - i) = l.length := by omega
          have hc0 : (cur.map vi).drop l.length = [] := List.drop_eq_nil_of_le (by omega)
          have hle : i ≤ ((cur.map vi).take i ++ (List.replicate (l.length - i) (vi 0) ++ (cur.map vi).drop (i + (l.length - i)))).length := by simp; omega
          repeat' first | refine aw_M [] (And.intro @hvl @hil) trivial ?_ | refine aw_cond rfl (fun h => ?_) (fun h => ?_)
          all_goals first | (simp [tupOf, ASt.noSl, hc0, hcl, Nat.min_eq_left hil, hni, hil, List.take_append]; done) | trace_state
end Go.AL
/-! slices.DeleteFunc wherever it is called; slices.Clone. -/
namespace Go.AL
open Go.Proofs
set_option linter.unusedSimpArgs false
set_option linter.unusedVariables false
variable {σ : ASt}
theorem ideleteC_ok {fq : FuncId} (hF : callable Try.prog fq = true) {cs : List AV} {p : Int → Bool} {l : List Int} (hp : ∀ z ∈ l, BK Try.prog fq [vi z, .ptr 0 0] cs (vb (p z)) cs) (hl : l.length ≤ 1000000000) (hcs : ∀ c ∈ cs, Cl c) {b k : Nat} (hb : σ.bx b = some cs) (hk : σ.sl k = some (l.map vi)) (hne : b ≠ k)
    (z : σ.mp b = none ∧ σ.sl b = none ∧ σ.bx k = none ∧ σ.mp k = none) :
    ACall Try.prog 28 [.hsl k 0 l.length, .fn (.func fq) [] [.ptr b 0]] σ fun r τ => r = .vsl ((l.filter fun z => !p z).map vi) ∧ τ = σ.dropSl k := by
  refine acall_ok fun hok => ?_
  have hbn : b < σ.next := by
    rcases Nat.lt_or_ge b σ.next with h' | h'
    · exact h'
    · rw [hok.bx b h'] at hb; cases hb
  have hkn : k < σ.next := by
    rcases Nat.lt_or_ge k σ.next with h' | h'
    · exact h'
    · rw [hok.sl k h'] at hk; cases hk
  obtain ⟨ρ, hρ⟩ : ∃ ρ, ρ = ridx [b, k] σ.next := ⟨_, rfl⟩
  have r0 : ρ 0 = b := by rw [hρ]; rfl
  have r1 : ρ 1 = k := by rw [hρ]; rfl
  have hcl : Cl (.vsl ((l.filter fun z => !p z).map vi)) := .vsl _ fun c hc => by obtain ⟨_, _, rfl⟩ := List.mem_map.1 hc; exact .p _
  have h0 : ACall Try.prog 28 [.hsl 1 0 l.length, .fn (.func fq) [] [.ptr 0 0]] (dfS cs l) fun r' σ' => r' = .vsl ((l.filter fun z => !p z).map vi) ∧ σ'.bx = (fun i => if i = 0 then some cs else none) ∧ σ'.mp = (fun _ => none) ∧ σ'.sl = fun _ => none :=
    ACall.low (ideleteB_ok fq hF cs p l hp hl) fun r' τ ⟨e1, e2⟩ => ⟨⟨fun i => if i = 0 then some cs else none, fun _ => none, fun _ => none, τ.next⟩, {
      bx := fun i cs' e => by
        dsimp only at e
        split at e
        · rename_i hi; subst hi; rw [e2]; exact e
        · cases e
      mp := fun _ _ e => by cases e
      sl := fun _ _ e => by cases e
      next := Nat.le_refl _ }, e1, rfl, rfl, rfl⟩
  have hbx : ∀ i, (dfS cs l).bx i = if i = 0 then some cs else none := fun i => by
    unfold dfS
    rw [mkSt_bx, List.lookup_cons]
    by_cases h : i = 0
    · subst h; rfl
    · have : (i == 0) = false := by simpa using h
      rw [this, if_neg h]; rfl
  have hsl : ∀ i, (dfS cs l).sl i = if i = 1 then some (l.map vi) else none := fun i => by
    unfold dfS
    rw [mkSt_sl, List.lookup_cons]
    by_cases h : i = 1
    · subst h; rfl
    · have : (i == 1) = false := by simpa using h
      rw [this, if_neg h]; rfl
  have h1 := ACall.frame1 (σ := σ) [b, k] (h := h0) rfl ⟨fun i hi => by
      have : ¬ i = 0 := by have : 2 ≤ i := hi; omega
      rw [hbx, if_neg this], fun _ _ => rfl, fun i hi => by
      have : ¬ i = 1 := by have : 2 ≤ i := hi; omega
      rw [hsl, if_neg this]⟩ (by intro x hx; simp at hx; rcases hx with rfl | rfl <;> assumption) (by simpa using hne) (fun i cs' e => by
      rw [hbx] at e
      split at e
      · rename_i hi; subst hi
        obtain rfl := Option.some.inj e
        rw [← hρ, r0, hb, rens_closed hcs]
      · cases e) (fun i xs e => by cases e) (fun i xs e => by
      rw [hsl] at e
      split at e
      · rename_i hi; subst hi
        obtain rfl := Option.some.inj e
        rw [← hρ, r1, hk, rens_closed (fun c hc => by obtain ⟨_, _, rfl⟩ := List.mem_map.1 hc; exact .p _)]
      · cases e) (fun r' τ ⟨e1, e2, e3, e4⟩ => by
      subst e1
      refine ⟨.of_cl hcl, fun i cs' e hi c hc => ?_, fun i es e hi p hp => (by rw [e3] at e; cases e), fun i xs e hi => (by rw [e4] at e; cases e)⟩
      rw [e2] at e
      dsimp only at e
      split at e
      · obtain rfl := Option.some.inj e
        exact .of_cl (hcs c hc)
      · cases e)
  rw [← hρ] at h1
  have ea : rens ρ [.hsl 1 0 l.length, .fn (.func fq) [] [.ptr 0 0]] = [.hsl k 0 l.length, .fn (.func fq) [] [.ptr b 0]] := by
    simp [rens, ren, r0, r1]
  rw [ea] at h1
  refine h1.mono fun r' σ' ⟨rc, τ, ⟨e1, e2, e3, e4⟩, e5, e6⟩ => ?_
  subst e1
  refine ⟨by rw [e5, ren_closed _ hcl], ?_⟩
  rw [e6]
  unfold back1 ASt.dropSl
  have hkb : ¬ k = b := fun e => hne e.symm
  have f0 : ∀ x, rfind x [b, k] 0 = if x = b then some 0 else if x = k then some 1 else none := fun x => by
    simp only [rfind]
  rw [← hρ]
  congr 1
  · funext x
    rw [f0, e2]
    by_cases q1 : x = b
    · subst q1; simp [rens_closed hcs, hb]
    · by_cases q2 : x = k
      · subst q2; simp [hkb, z.2.2.1]
      · simp [q1, q2]
  · funext x
    rw [f0, e3]
    by_cases q1 : x = b
    · subst q1; simp [z.1]
    · by_cases q2 : x = k
      · subst q2; simp [hkb, z.2.2.2]
      · simp [q1, q2]
  · funext x
    rw [f0, e4]
    by_cases q1 : x = b
    · subst q1; simp [upd, hne, z.2.1]
    · by_cases q2 : x = k
      · subst q2; simp [hkb, upd]
      · simp [q1, q2, upd]
/-! ### slices.Clone -/
/-- A slice of one's own is there, under a number of its own; all else is as it was. -/
def ASt.withSl (σ : ASt) (k : Nat) (xs : List AV) (m : Nat) : ASt := { σ with sl := upd σ.sl k (some xs), next := m }
def NewSl (σ : ASt) (xs : List AV) (r : AV) (τ : ASt) : Prop := ∃ k m, σ.next ≤ k ∧ k < m ∧ r = .hsl k 0 xs.length ∧ τ = σ.withSl k xs m
theorem newSl_of {xs : List AV} {r : AV} {τ : ASt} (hok : σ.Ok) {k : Nat} (h1 : σ.next ≤ k) (h2 : k < τ.next) (hr : r = .hsl k 0 xs.length) (hb : ∀ i, σ.bx i ≠ none → τ.bx i = σ.bx i) (hm : ∀ i, σ.mp i ≠ none → τ.mp i = σ.mp i) (hs : ∀ i, σ.sl i ≠ none → τ.sl i = σ.sl i) (hk : τ.sl k = some xs) : ∃ τ', ASt.Le τ' τ ∧ NewSl σ xs r τ' :=
  ⟨σ.withSl k xs τ.next, {
    bx := fun i c e => by
      have e' : σ.bx i = some c := e
      rw [hb i (by rw [e']; simp), e']
    mp := fun i c e => by
      have e' : σ.mp i = some c := e
      rw [hm i (by rw [e']; simp), e']
    sl := fun i c e => by
      have e' : upd σ.sl k (some xs) i = some c := e
      by_cases hi : i = k
      · subst hi; rw [upd_same] at e'; rw [hk]; exact e'
      · rw [upd_ne _ _ hi] at e'
        rw [hs i (by rw [e']; simp), e']
    next := Nat.le_refl _ }, k, τ.next, h1, h2, hr, rfl⟩
theorem opq_append0a {P : Program} {R : AV → ASt → Prop} {o : Oper} {ρ : Operand → AV} {s x : Operand} {t el : TypeId} (ho : o.op = .call { callee := .builtin .append, args := #[s, x], argTypes := #[t, t] }) {b off k n : Nat} {g : Bool}
    (hs : ρ s = .hsl b off k) {a : Option Addr} {c2 : Nat} (hx : ρ x = .p (.slice a 0 c2)) (hel : telemT P t = some el) (hn : tsize P el = some (n, g)) (hr : R (.hsl b off k) σ) : OpQ P o ρ σ R := by
  have ht : P.underlying t = some (.slice el) := by
    unfold telemT at hel
    split at hel
    · rename_i h; rw [h]; simpa using hel
    · cases hel
  refine opq_v (s := fun e => Builtin.append_ #[t, t] o.type #[e s, e x]) (fun e => execOp_append e ho) _ hr fun G e w he hw => ?_
  have h1 := he s
  rw [hs] at h1
  have h2 := he x
  rw [hx] at h2
  have h3 : e x = .slice a 0 c2 := by
    generalize e x = v at h2
    cases h2; rfl
  rw [h3]
  generalize e s = v at h1
  cases h1 with
  | hsl _ _ _ β o s cap h hle => exact ⟨_, run_append0 ht hn (by omega) w, .hsl b off k β o s cap h hle⟩
  | hend _ _ a β o s cap h hle => exact ⟨_, run_append0 ht hn (by omega) w, .hend b off a β o s cap h hle⟩
  | hnil _ a h => exact ⟨_, run_append0 ht hn (by omega) w, .hnil b a h⟩
theorem Fin.open0 {R : AV → ASt → Prop} (h : R (.hsl σ.next 0 0) (σ.addSl [])) : Fin R (.p (.slice none 0 0)) σ := fun G w v hw hr => by
  cases hr
  obtain ⟨G', h1, h2, h3⟩ := new_nil hw w (Go.RowKit.Below.refl _ _) none
  exact ⟨_, G', _, h1, h2, h3, h⟩
theorem ACall.fin {P : Program} {f : FuncId} {args : List AV} {R : AV → ASt → Prop} (h : ACall P f args σ fun r τ => Fin R r τ) : ACall P f args σ R := fun G w vs hv hw => Calls.mono (h G w vs hv hw) fun e w' he => retOf_mono (fun v w' h => Outc.fin h) he
set_option maxHeartbeats 8000000 in
set_option maxRecDepth 100000 in
theorem iclone_ok (l : List Int) (hl : l.length ≤ 1000000) : ACall Try.prog 36 [.vsl (l.map vi)] σ fun r τ => NewSl σ (l.map vi) r τ := by
  refine acall_ok fun hok => ?_
  have hvl : (l.map vi).length = l.length := List.length_map _
  refine ACall.low (R := fun r τ => ∃ k, σ.next ≤ k ∧ k < τ.next ∧ r = .hsl k 0 l.length ∧ τ.bx = σ.bx ∧ τ.mp = σ.mp ∧ (∀ i, σ.sl i ≠ none → τ.sl i = σ.sl i) ∧ τ.sl k = some (l.map vi)) ?_ fun r τ ⟨k, h1, h2, h3, h4, h5, h6, h7⟩ => newSl_of hok h1 h2 (by rw [hvl]; exact h3) (fun i _ => by rw [h4]) (fun i _ => by rw [h5]) h6 h7
  have hns : ∀ i, σ.sl i ≠ none → i ≠ σ.next := fun i hi e => hi (by rw [e]; exact hok.sl _ (Nat.le_refl _))
  have hns1 : ∀ i, σ.sl i ≠ none → i ≠ σ.next + 1 := fun i hi e => hi (by rw [e]; exact hok.sl _ (Nat.le_succ _))
  cases l with
  | nil =>
    refine ACall.fin ?_
    refine acall_of Try.func36 Try.ntmps36 rfl ?_
    simp only [List.length_cons, List.length_nil, List.cons_append, List.nil_append, List.replicate, List.map_nil]
    refine aw_vsl0 0 rfl fun a cap => ?_
    simp only [List.set]
    cases a with
    | none =>
      repeat' first | refine aw_N [5] trivial trivial ?_ | refine aw_cond rfl (fun h => ?_) (fun h => ?_)
      refine Fin.open0 ⟨σ.next, Nat.le_refl _, by simp, rfl, rfl, rfl, fun i hi => ?_, by simp⟩
      simp [hns i hi]
    | some a =>
      repeat' first | refine aw_N [5] trivial trivial ?_ | refine aw_cond rfl (fun h => ?_) (fun h => ?_)
      refine awl_cons rfl (opq_append0a rfl (b := σ.next) (off := 0) (k := 0) rfl rfl tet23 ts3 ?_)
      refine awl_run' [] ?_
      simp -implicitDefEqProofs
      repeat' first | refine aw_N [] trivial trivial ?_ | refine aw_cond rfl (fun h => ?_) (fun h => ?_)
      refine Fin.of ⟨σ.next, Nat.le_refl _, by simp, rfl, rfl, rfl, fun i hi => ?_, by simp⟩
      simp [hns i hi]
  | cons x l =>
    refine acall_of Try.func36 Try.ntmps36 rfl ?_
    simp only [List.length_cons, List.length_nil, List.cons_append, List.nil_append, List.replicate]
    repeat' first | refine aw_N [5] trivial trivial ?_ | refine aw_cond rfl (fun h => ?_) (fun h => ?_)
    refine awl_append [] rfl rfl rfl (xs := []) (by simp) (by simp) rfl (by simp) te23 tet23 tz3 rfl (by simp) (fun y hy => by
      rcases List.mem_cons.1 hy with rfl | hy
      · exact ⟨rfl, rfl⟩
      · obtain ⟨_, _, rfl⟩ := List.mem_map.1 hy
        exact ⟨rfl, rfl⟩) (by simp at hl ⊢; omega) (by simp at hl ⊢; omega) ?_
    simp -implicitDefEqProofs
    repeat' first | refine aw_N [] trivial trivial ?_ | refine aw_cond rfl (fun h => ?_) (fun h => ?_)
    refine ⟨σ.next + 1, by omega, by simp, by simp [tupOf], rfl, rfl, fun i hi => ?_, by simp⟩
    simp [hns i hi, hns1 i hi]
end Go.AL
/-! Maps of one's own, and append onto nil, in regions that draw. -/
namespace Go.AL
open Go.RowKit (Below)
set_option linter.unusedVariables false
set_option linter.unusedSimpArgs false
variable {P : Program} {σ : ASt} {R : AV → ASt → Prop} {D : List Deferred} {Q : Exit → List AV → ASt → Prop} {fr : List AV} {ops : Array Oper} {o : Oper} {rest : List Oper} {ρ : Operand → AV}
theorem opq_lookupQ {t : TypeId} {m k : Operand} {ok : Bool} (ho : o.op = .lookup t m k ok) {d : TypeDesc} {el : TypeId} (ht : tmap P t = some (d, el)) {b : Nat} (hm : ρ m = .map b) {es : List (AV × AV)} (hb : σ.mp b = some es)
    {kv : Value} (hk : ρ k = .p kv) {r : Option (Nat × AV)} (hf : amfind d (.p kv) es 0 = some r) {x : AV} (h1 : ∀ j y, r = some (j, y) → x = y) (h2 : r = none → tzero P el = some x) (hr : R (if ok = true then .tup [x, .p (.bool r.isSome)] else x) σ) : OpQ P o ρ σ R := by
  cases r with
  | none => exact opq_lookup ho ht hm hb hk hf (h2 rfl) hr
  | some q => obtain ⟨j, y⟩ := q; exact opq_lookup ho ht hm hb hk hf (h1 j y rfl) hr
theorem awl_lookupW {t : TypeId} {m k : Operand} {ok : Bool} (mu : List Nat) (ho : o.op = .lookup t m k ok) (hw : awanted ops o fr = some true) {d : TypeDesc} {el : TypeId} (ht : tmap P t = some (d, el)) {b : Nat} (hm : aev fr m = .map b) {es : List (AV × AV)} (hb : σ.mp b = some es)
    {kv : Value} (hk : aev fr k = .p kv) {r : Option (Nat × AV)} (hf : amfind d (.p kv) es 0 = some r) {x : AV} (h1 : ∀ j y, r = some (j, y) → x = y) (h2 : r = none → tzero P el = some x)
    (hk2 : Shut (ARun P D ops Q mu rest (aput fr o.dst (if ok = true then .tup [x, .p (.bool r.isSome)] else x)) σ)) : AWL P D ops Q (o :: rest) fr σ :=
  awl_cons hw (opq_lookupQ ho ht hm hb hk hf h1 h2 (awl_run' mu hk2))
theorem yl_lookup {K : List AV → Prop} {t : TypeId} {m k : Operand} {ok : Bool} (ho : o.op = .lookup t m k ok) (hg : o.guard = none) {d : TypeDesc} {el : TypeId} (ht : tmap P t = some (d, el)) {b : Nat} (hm : aev fr m = .map b) {es : List (AV × AV)} (hb : σ.mp b = some es) {kv : Value} (hk : aev fr k = .p kv)
    {r : Option (Nat × AV)} (hf : amfind d (.p kv) es 0 = some r) {x : AV} (h1 : ∀ j y, r = some (j, y) → x = y) (h2 : r = none → tzero P el = some x)
    (hk2 : Shut (YRun P ops σ K rest (aput fr o.dst (if ok = true then .tup [x, .p (.bool r.isSome)] else x)))) : YL P ops σ K (o :: rest) fr :=
  ⟨_, yld_opq hg fun ρ hρ => opq_lookupQ ho ht ((hρ m (by simp [ho, Op.operands])).trans hm) hb ((hρ k (by simp [ho, Op.operands])).trans hk) hf h1 h2 ⟨rfl, rfl⟩, yl_run hk2.out⟩
theorem zl_lookup {mu imp : List Nat} {l : List Oper} {K : List AV → ASt → Prop} {i : Nat} {pd : List Pend} {t : TypeId} {m k : Operand} {ok : Bool} (hz : zst mu imp o = false) (ho : o.op = .lookup t m k ok) (hg : o.guard = none) {d : TypeDesc} {el : TypeId} (ht : tmap P t = some (d, el)) {b : Nat} (hm : aev fr m = .map b) {es : List (AV × AV)} (hb : σ.mp b = some es) {kv : Value} (hk : aev fr k = .p kv)
    {r : Option (Nat × AV)} (hf : amfind d (.p kv) es 0 = some r) {x : AV} (h1 : ∀ j y, r = some (j, y) → x = y) (h2 : r = none → tzero P el = some x) {X : AV} (hX : X = if ok = true then .tup [x, .p (.bool r.isSome)] else x)
    (hk2 : Shut (ZRun P mu imp l K (i + 1) rest (aput fr o.dst X) σ [] (⟨i, o, fr, none, X⟩ :: pd))) : ZS P mu imp l K i (o :: rest) fr σ [] pd := by
  intro hok
  unfold ZL; rw [if_neg (by rw [hz]; decide)]
  subst hX
  refine ⟨_, .inr ⟨yld_opq hg fun ρ hρ => opq_lookupQ ho ht ((hρ m (by simp [ho, Op.operands])).trans hm) hb ((hρ k (by simp [ho, Op.operands])).trans hk) hf h1 h2 ⟨rfl, rfl⟩, fun j τ hj => by simp at hj, zl_run hk2.out fun p hp => ?_⟩⟩
  rcases List.mem_cons.1 hp with rfl | hp
  · exact hg
  · exact hok p hp
theorem zl_put {mu imp : List Nat} {l : List Oper} {K : List AV → ASt → Prop} {i : Nat} {old : List ASt} {pd : List Pend} {t : TypeId} {m k x : Operand} (hz : zst mu imp o = true) (ho : o.op = .insert t m k x ∨ o.op = .mapUpdate t m k x) (hg : o.guard = none) {d : TypeDesc} {el : TypeId} (ht : tmap P t = some (d, el)) {b : Nat} (hm : aev fr m = .map b) {es es' : List (AV × AV)} (hb : σ.mp b = some es)
    {kv : Value} (hk : aev fr k = .p kv) {xv : AV} (hxv : aev fr x = xv) (hf : amput d (.p kv) xv es = some es')
    (hk2 : pendOk P mu imp l (old.length + 1) { σ with mp := upd σ.mp b (some es') } pd ∧ Shut (ZRun P mu imp l K (i + 1) rest (aput fr o.dst (.p undef)) { σ with mp := upd σ.mp b (some es') } (σ :: old) pd)) : ZS P mu imp l K i (o :: rest) fr σ old pd := by
  intro hok
  unfold ZL; rw [if_pos hz]
  refine ⟨_, _, yldT_opq hg fun ρ hρ => ?_, pendOk_yld hok hk2.1, zl_run hk2.2.out hok⟩
  have e1 : ρ m = aev fr m := hρ m (by rcases ho with ho | ho <;> rw [ho] <;> simp [Op.operands])
  have e2 : ρ k = aev fr k := hρ k (by rcases ho with ho | ho <;> rw [ho] <;> simp [Op.operands])
  have e3 : ρ x = aev fr x := hρ x (by rcases ho with ho | ho <;> rw [ho] <;> simp [Op.operands])
  exact opq_mapPut ho ht (e1.trans hm) hb (e2.trans hk) (by rw [e3, hxv]; exact hf) ⟨rfl, rfl⟩
open Classical in
/-- append onto nil. -/
theorem opq_appendN {s x : Operand} {t el : TypeId} (ho : o.op = .call { callee := .builtin .append, args := #[s, x], argTypes := #[t, t] }) (hne0 : x ≠ s) {ys : List AV} {n by_ : Nat} {g : Bool} {z : AV}
    (hs : ρ s = .p (.slice none 0 0)) (hx : ρ x = .vsl ys) (hne : ys ≠ []) (ht : telem P t = some (n, g, by_)) (hel : telemT P t = some el) (hz : tzero P el = some z) (hzn : z.cells.length = n)
    (hys : ∀ y ∈ ys, y.cells.length = n ∧ y.okv = true) (hB : ys.length * by_ ≤ 140737488355328) (hS : ys.length ≤ 9223372036854775807)
    (hr : R (.hsl (σ.next + 1) 0 ys.length) (((σ.addSl []).dropSl σ.next).addSl ys)) : OpQ P o ρ σ R := by
  intro G e w he hw
  obtain ⟨G', h1, h2, h3⟩ := new_nil hw w (Below.refl _ _) none
  obtain ⟨ρ', hρ'⟩ : ∃ ρ' : Operand → AV, ρ' = fun y => if y = s then .hsl σ.next 0 0 else ρ y := ⟨_, rfl⟩
  have hs' : ρ' s = .hsl σ.next 0 0 := by rw [hρ']; simp
  have hx' : ρ' x = .vsl ys := by rw [hρ']; simp [hne0, hx]
  have key := opq_append (σ := σ.addSl []) (ρ := ρ') (R := R) (xs := []) ho hs' (by simp) (by simp) (ys := ys) (by rw [hx']; rfl) hne ht hel hz hzn (by simp) hys (by simpa using hB) (by simpa using hS) (by simpa using hr)
  have := key G' e w (fun y => by
    rw [hρ']
    dsimp only
    split
    · rename_i hy
      subst hy
      have hy := he y
      rw [hs] at hy
      generalize e y = v at hy
      cases hy
      exact h3
    · exact (he y).mono h1) h2
  have lift : ∀ v w', Outc G' w R v w' → Outc G w R v w' := fun v w' ⟨r, G2, σ2, k1, k2, k3, k4⟩ => ⟨r, G2, σ2, h1.trans k1, k2, k3, k4⟩
  generalize (execOp e o).run P w = n at *
  cases n with
  | halt => exact this
  | ok n w' =>
    cases n with
    | value v => exact lift _ _ this
    | skip => exact lift _ _ this
    | enter f args => exact Calls.mono this fun e w'' he => retOf_mono (fun v w' h => lift _ _ h) he
    | round l f tmps assign body => exact RoundIn.mono this fun e w'' he => retOf_mono (fun v w' h => lift _ _ h) he
    | _ => exact this
theorem zl_appendN {mu imp : List Nat} {l : List Oper} {K : List AV → ASt → Prop} {i : Nat} {old : List ASt} {pd : List Pend} {s x : Operand} {t el : TypeId} (hz : zst mu imp o = true) (ho : o.op = .call { callee := .builtin .append, args := #[s, x], argTypes := #[t, t] }) (hg : o.guard = none) (hne0 : x ≠ s) {ys : List AV} {n by_ : Nat} {g : Bool} {z : AV}
    (hs : aev fr s = .p (.slice none 0 0)) (hx : aev fr x = .vsl ys) (hne : ys ≠ []) (ht : telem P t = some (n, g, by_)) (hel : telemT P t = some el) (hz0 : tzero P el = some z) (hzn : z.cells.length = n)
    (hys : ∀ y ∈ ys, y.cells.length = n ∧ y.okv = true) (hB : ys.length * by_ ≤ 140737488355328) (hS : ys.length ≤ 9223372036854775807)
    (hk2 : pendOk P mu imp l (old.length + 1) (((σ.addSl []).dropSl σ.next).addSl ys) pd ∧ Shut (ZRun P mu imp l K (i + 1) rest (aput fr o.dst (.hsl (σ.next + 1) 0 ys.length)) (((σ.addSl []).dropSl σ.next).addSl ys) (σ :: old) pd)) : ZS P mu imp l K i (o :: rest) fr σ old pd := by
  intro hok
  unfold ZL; rw [if_pos hz]
  refine ⟨_, _, yldT_opq hg fun ρ hρ => ?_, pendOk_yld hok hk2.1, zl_run hk2.2.out hok⟩
  have e1 : ρ s = aev fr s := hρ s (by rw [ho]; simp [Op.operands, Call.operands])
  have e2 : ρ x = aev fr x := hρ x (by rw [ho]; simp [Op.operands, Call.operands])
  exact opq_appendN ho hne0 (by rw [e1]; exact hs) (by rw [e2]; exact hx) hne ht hel hz0 hzn hys hB hS ⟨rfl, rfl⟩
end Go.AL
/-! graph: what is said of links, plainly; fits. -/
namespace Go.AL
open Go.Proofs
set_option linter.unusedSimpArgs false
set_option linter.unusedVariables false
abbrev Lnk := Int × List Int
def lnk (p : Lnk) : AV := .agg [vi p.1, .vsl (p.2.map vi)]
def lks (L : List Lnk) : List AV := L.map lnk
@[simp] theorem cl_ints (l : List Int) : (∀ c ∈ l.map vi, Cl c) = True := eq_true fun c hc => by
  obtain ⟨p, _, rfl⟩ := List.mem_map.1 hc
  exact .p _
@[simp] theorem cl_ints2 (l : List Int) : (∀ (c : AV) (x : Int), x ∈ l → vi x = c → Cl c) = True := eq_true fun c x _ e => e ▸ .p _
@[simp] theorem cl_lks (L : List Lnk) : (∀ c ∈ lks L, Cl c) = True := eq_true fun c hc => by
  obtain ⟨p, _, rfl⟩ := List.mem_map.1 hc
  refine .agg _ fun c hc => ?_
  rcases List.mem_cons.1 hc with rfl | hc
  · exact .p _
  · obtain rfl := List.mem_singleton.1 hc
    exact .vsl _ fun c hc => by obtain ⟨_, _, rfl⟩ := List.mem_map.1 hc; exact .p _
theorem lks_len (L : List Lnk) : (lks L).length = L.length := List.length_map _
theorem lks_get {L : List Lnk} {i : Nat} {a : Int} {rs : List Int} (h : L[i]? = some (a, rs)) : (lks L)[i]? = some (.agg [vi a, .vsl (rs.map vi)]) := by rw [lks, List.getElem?_map, h]; rfl
def fitsG (n : Int) : Bool := decide (0 ≤ n) && decide (n < 1024)
def okLk (p : Lnk) : Bool := fitsG p.1 && p.2.all fitsG
/-- The reads, rising, each once. -/
def csL (l : List Int) : List Int := Lib.compact (sortI l)
def pushR (M : List (Int × List Int)) (n a : Int) : List (Int × List Int) := putK M n ((gotK M n).getD [] ++ [a])
def linkR (M : List (Int × List Int)) (p : Lnk) : List (Int × List Int) := (csL p.2).foldl (fun M n => pushR M n p.1) M
def readM (L : List Lnk) : List (Int × List Int) := L.foldl linkR []
def readsM (L : List Lnk) : List (Int × List Int) := L.map fun p => (p.1, csL p.2)
def newR (L : List Lnk) : Int := if L.all okLk = false then 1 else if (L.map Prod.fst).Nodup then 0 else 5
def slV (l : List Int) : AV := .vsl (l.map vi)
def mapV (M : List (Int × List Int)) : AV := .vmp ((esK slV M).map Prod.fst) ((esK slV M).map Prod.snd)
/-- A graph. -/
def gV (L : List Lnk) : AV := .vel [.agg [mapV (readsM L), mapV (readM L)]] 0 0
theorem cl_mapV (M : List (Int × List Int)) : Cl (mapV M) := by
  refine .vmp _ _ (fun c hc => ?_) fun c hc => ?_
  · simp only [esK, List.map_map, List.mem_map] at hc
    obtain ⟨p, _, rfl⟩ := hc; exact .p _
  · simp only [esK, List.map_map, List.mem_map] at hc
    obtain ⟨p, _, rfl⟩ := hc
    exact .vsl _ fun c hc => by obtain ⟨_, _, rfl⟩ := List.mem_map.1 hc; exact .p _
@[simp] theorem cl_gV (L : List Lnk) : Cl (gV L) = True := eq_true (.vel _ _ _ fun c hc => by
  obtain rfl := List.mem_singleton.1 hc
  refine .agg _ fun c hc => ?_
  rcases List.mem_cons.1 hc with rfl | hc
  · exact cl_mapV _
  · obtain rfl := List.mem_singleton.1 hc; exact cl_mapV _)
set_option maxHeartbeats 8000000 in
set_option maxRecDepth 100000 in
theorem gfits_ok (n : Int) : APure Try.prog 20 [vi n] (vb (fitsG n)) := by
  refine apure_in Try.func20 Try.ntmps20 rfl ?_
  unfold fitsG
  by_cases h0 : 0 ≤ n
  · by_cases h1 : n < 1024
    · repeat' first | refine aw_N [] (And.intro @h0 @h1) trivial ?_ | refine aw_cond rfl (fun h => ?_) (fun h => ?_)
      all_goals first | rfl | (simp [tupOf]; done) | trace_state
    · repeat' first | refine aw_N [] (And.intro @h0 @h1) trivial ?_ | refine aw_cond rfl (fun h => ?_) (fun h => ?_)
      all_goals first | rfl | (simp [tupOf, h0, h1]; done) | trace_state
  · repeat' first | refine aw_N [] @h0 trivial ?_ | refine aw_cond rfl (fun h => ?_) (fun h => ?_)
    all_goals first | rfl | (simp [tupOf, h0]; done) | trace_state
set_option maxHeartbeats 8000000 in
set_option maxRecDepth 100000 in
theorem gnew1_ok (n : Int) : APure Try.prog 22 [vi n] (vb (!fitsG n)) := by
  have hf := gfits_ok n
  refine apure_in Try.func22 Try.ntmps22 rfl ?_
  repeat' first | refine aw_N [] trivial (And.intro @hf trivial) ?_ | refine aw_cond rfl (fun h => ?_) (fun h => ?_)
  all_goals first | rfl | (simp [tupOf]; done) | trace_state
theorem gcont_ok (l : List Int) (hl : l.length ≤ 1000000000) : APure Try.prog 21 [.vsl (l.map vi), .p (.func (.func 22) #[] #[])] (vb (!(l.all fitsG))) := by
  have := icontainsfunc_ok 22 (by kernel_rfl) (fun n => !fitsG n) gnew1_ok l hl
  rw [← List.not_all_eq_any_not] at this
  exact this
/-! ### New's memory -/
abbrev En := Int × (Nat × List Int)
def hE (p : Nat × List Int) : AV := .hsl p.1 0 p.2.length
def slE : List En → Nat → Option (List AV)
  | [], _ => none
  | (_, k, l) :: E, i => if k = i then some (l.map vi) else slE E i
def gSt (R : List (Int × List Int)) (E : List En) (bs : List (Nat × List AV)) (n : Nat) : ASt :=
  ⟨fun i => bs.lookup i, fun i => if i = 0 then some (esK slV R) else if i = 1 then some (esK hE E) else none, slE E, n⟩
section
variable (R : List (Int × List Int)) (E : List En) (bs : List (Nat × List AV)) (n i : Nat)
@[simp] theorem gSt_bx : (gSt R E bs n).bx i = bs.lookup i := rfl
@[simp] theorem gSt_mp : (gSt R E bs n).mp i = if i = 0 then some (esK slV R) else if i = 1 then some (esK hE E) else none := rfl
@[simp] theorem gSt_sl : (gSt R E bs n).sl i = slE E i := rfl
@[simp] theorem gSt_next : (gSt R E bs n).next = n := rfl
end
def okE (E : List En) (n : Nat) : Prop := (E.map fun e => e.2.1).Nodup ∧ (E.map Prod.fst).Nodup ∧ ∀ e ∈ E, e.2.1 < n
def er (E : List En) : List (Int × List Int) := E.map fun e => (e.1, e.2.2)
theorem gotK_er (E : List En) (n : Int) : gotK (er E) n = (gotK E n).map Prod.snd := by
  induction E with
  | nil => rfl
  | cons e E ih =>
    obtain ⟨a, k, l⟩ := e
    simp only [er, List.map_cons, gotK] at ih ⊢
    split
    · rfl
    · exact ih
theorem ixK_er (E : List En) (n : Int) : ∀ i, ixK (er E) n i = ixK E n i := by
  induction E with
  | nil => exact fun i => rfl
  | cons e E ih =>
    intro i
    obtain ⟨a, k, l⟩ := e
    simp only [er, List.map_cons, ixK] at ih ⊢
    split
    · rfl
    · exact ih _
theorem er_put (E : List En) (n : Int) (k : Nat) (l : List Int) : er (putK E n (k, l)) = putK (er E) n l := by
  unfold putK
  rw [ixK_er]
  cases ixK E n 0 <;> simp [er, List.map_set]
theorem slE_mem {E : List En} {i : Nat} {xs : List AV} (h : slE E i = some xs) : ∃ e ∈ E, e.2.1 = i ∧ xs = e.2.2.map vi := by
  induction E with
  | nil => cases h
  | cons e E ih =>
    obtain ⟨a, k, l⟩ := e
    rw [slE] at h
    split at h
    · rename_i hk
      obtain rfl := Option.some.inj h
      exact ⟨_, List.mem_cons_self, hk, rfl⟩
    · obtain ⟨e, he, h1, h2⟩ := ih h
      exact ⟨e, List.mem_cons_of_mem _ he, h1, h2⟩
theorem slE_of {E : List En} (hn : (E.map fun e => e.2.1).Nodup) {e : En} (he : e ∈ E) : slE E e.2.1 = some (e.2.2.map vi) := by
  induction E with
  | nil => cases he
  | cons f E ih =>
    obtain ⟨a, k, l⟩ := f
    rw [slE]
    simp only [List.map_cons, List.nodup_cons] at hn
    rcases List.mem_cons.1 he with rfl | he
    · simp
    · have : ¬ k = e.2.1 := fun h => hn.1 (List.mem_map.2 ⟨e, he, h.symm⟩)
      rw [if_neg this]
      exact ih hn.2 he
theorem gotK_get {α : Type} {M : List (Int × α)} {n : Int} {x : α} (h : gotK M n = some x) : (n, x) ∈ M := by
  induction M with
  | nil => cases h
  | cons p M ih =>
    obtain ⟨a, y⟩ := p
    rw [gotK] at h
    split at h
    · rename_i e; subst e; obtain rfl := Option.some.inj h; exact List.mem_cons_self
    · exact List.mem_cons_of_mem _ (ih h)
theorem mem_putK {α : Type} {M : List (Int × α)} {n : Int} {x : α} {p : Int × α} (h : p ∈ putK M n x) : p = (n, x) ∨ p ∈ M := by
  unfold putK at h
  split at h
  · rcases List.mem_append.1 h with h | h
    · exact .inr h
    · exact .inl (List.mem_singleton.1 h)
  · exact (List.mem_or_eq_of_mem_set h).symm
/-- An entry is put anew, under a new number. -/
theorem okE_put {E : List En} {N : Nat} (h : okE E N) (n : Int) (l : List Int) : okE (putK E n (N, l)) (N + 1) := by
  obtain ⟨h1, h3, h2⟩ := h
  have hfr : N ∉ E.map fun e => e.2.1 := fun hm => by
    obtain ⟨e, he, e1⟩ := List.mem_map.1 hm
    have := h2 e he; omega
  refine ⟨?_, nodup_put h3 _ _, fun e he => ?_⟩
  · unfold putK
    cases ixK E n 0 with
    | none =>
      simp only [List.map_append, List.map_cons, List.map_nil]
      rw [List.nodup_append]
      refine ⟨h1, by simp, ?_⟩
      intro a ha b hb
      simp at hb
      subst hb
      exact fun e => hfr (e ▸ ha)
    | some j =>
      simp only [List.map_set]
      have key : ∀ (l : List Nat) (j : Nat), l.Nodup → N ∉ l → (l.set j N).Nodup := by
        intro l
        induction l with
        | nil => intro j _ _; simp
        | cons a l ih =>
          intro j hl hN
          simp only [List.nodup_cons, List.mem_cons, not_or] at hl hN
          cases j with
          | zero => simp [hl.2, hN.2]
          | succ j =>
            simp only [List.set_cons_succ, List.nodup_cons]
            refine ⟨fun hm => ?_, ih j hl.2 hN.2⟩
            rcases List.mem_or_eq_of_mem_set hm with hm | hm
            · exact hl.1 hm
            · exact hN.1 hm.symm
      exact key _ j h1 hfr
  · rcases mem_putK he with rfl | he
    · exact Nat.lt_succ_self _
    · have := h2 e he; omega
theorem mem_putK2 {α : Type} : ∀ {M : List (Int × α)} {n : Int} {x : α} {p : Int × α}, (M.map Prod.fst).Nodup → p ∈ putK M n x → p = (n, x) ∨ (p ∈ M ∧ p.1 ≠ n) := by
  intro M n x p hnd hp
  have hk := nodup_put hnd n x
  rcases mem_putK hp with h | h
  · exact .inl h
  · by_cases e : p.1 = n
    · left
      -- both stand in the new list, with one key
      have h1 : gotK (putK M n x) n = some x := by rw [gotK_put, if_pos rfl]
      have h2 : (n, x) ∈ putK M n x := gotK_get h1
      have key : ∀ (l : List (Int × α)), (l.map Prod.fst).Nodup → ∀ a ∈ l, ∀ b ∈ l, a.1 = b.1 → a = b := by
        intro l
        induction l with
        | nil => intro _ a ha; cases ha
        | cons c l ih =>
          intro hn a ha b hb hab
          simp only [List.map_cons, List.nodup_cons] at hn
          rcases List.mem_cons.1 ha with h1 | ha' <;> rcases List.mem_cons.1 hb with h2 | hb'
          · rw [h1, h2]
          · subst h1; exact (hn.1 (List.mem_map.2 ⟨b, hb', hab.symm⟩)).elim
          · subst h2; exact (hn.1 (List.mem_map.2 ⟨a, ha', hab⟩)).elim
          · exact ih hn.2 a ha' b hb' hab
      exact key _ hk p hp (n, x) h2 e
    · exact .inr ⟨h, e⟩
theorem num_inj {E : List En} (h : (E.map fun e => e.2.1).Nodup) {a b : En} (ha : a ∈ E) (hb : b ∈ E) (e : a.2.1 = b.2.1) : a = b := by
  induction E with
  | nil => cases ha
  | cons c E ih =>
    simp only [List.map_cons, List.nodup_cons] at h
    rcases List.mem_cons.1 ha with h1 | ha' <;> rcases List.mem_cons.1 hb with h2 | hb'
    · rw [h1, h2]
    · subst h1; exact (h.1 (List.mem_map.2 ⟨b, hb', e.symm⟩)).elim
    · subst h2; exact (h.1 (List.mem_map.2 ⟨a, ha', e⟩)).elim
    · exact ih h.2 ha' hb'
/-- Where the slices lie when an entry is put anew. -/
theorem slE_put {E : List En} {N : Nat} (h : okE E N) (n : Int) (l : List Int) {i : Nat} {xs : List AV} (hx : slE (putK E n (N, l)) i = some xs) : (i = N ∧ xs = l.map vi) ∨ (i < N ∧ slE E i = some xs ∧ ∀ k l', gotK E n = some (k, l') → i ≠ k) := by
  obtain ⟨e, he, h1, h2⟩ := slE_mem hx
  rcases mem_putK2 h.2.1 he with rfl | ⟨he, hne⟩
  · exact .inl ⟨h1.symm, h2⟩
  · refine .inr ⟨by rw [← h1]; exact h.2.2 e he, by rw [← h1, h2]; exact slE_of h.1 he, fun k l' hk hik => ?_⟩
    have := num_inj h.1 he (gotK_get hk) (h1.trans hik)
    exact hne (by rw [this])
end Go.AL
