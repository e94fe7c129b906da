/- Parts of the proof of GraphTells: the logic, contracts, plain laws. -/
import Derived.Test.YtofopejmidlceaaZGraphTells16
/-! Contracts: gridironref12's find, has, May, Nodes, reads. -/
namespace Go.AL
open Go.Proofs
set_option linter.unusedSimpArgs false
set_option linter.unusedVariables false
def lnk0 : AV := .agg [vi 0, .p (.slice none 0 0)]
def fndV : List Lnk → Int → AV
  | [], _ => .tup [lnk0, vb false]
  | p :: L, n => if p.1 = n then .tup [lnk p, vb true] else fndV L n
theorem fndV_some {L : List Lnk} (hn : (L.map Prod.fst).Nodup) {p : Lnk} (hp : p ∈ L) : fndV L p.1 = .tup [lnk p, vb true] := by
  induction L with
  | nil => cases hp
  | cons q L ih =>
    simp only [List.map_cons, List.nodup_cons] at hn
    rw [fndV]
    rcases List.mem_cons.1 hp with rfl | hp
    · simp
    · have : ¬ q.1 = p.1 := fun e => hn.1 (List.mem_map.2 ⟨p, hp, e.symm⟩)
      rw [if_neg this]
      exact ih hn.2 hp
theorem fndV_none {L : List Lnk} {n : Int} (h : n ∉ L.map Prod.fst) : fndV L n = .tup [lnk0, vb false] := by
  induction L with
  | nil => rfl
  | cons q L ih =>
    simp only [List.map_cons, List.mem_cons, not_or] at h
    rw [fndV, if_neg fun e => h.1 e.symm]
    exact ih h.2
set_option maxHeartbeats 8000000 in
set_option maxRecDepth 100000 in
theorem rfind_ok (L : List Lnk) (n : Int) (hL : L.length ≤ 1000000) : APure Try.prog 27 [.vsl (lks L), vi n] (fndV L n) := by
  have hvl := lks_len L
  refine apure_in Try.func27 Try.ntmps27 rfl ?_
  repeat' first | refine aw_N [4] trivial trivial ?_ | refine aw_cond rfl (fun h => ?_) (fun h => ?_)
  refine aw_loopW [0, 1, 4, 6] (fun q fr σ => ∃ i M : Nat, i + q = L.length ∧ fndV (L.drop i) n = fndV L n ∧ 1 ≤ M ∧ σ = mkSt [(0, [vi 0, .p (.slice none 0 0)])] [] M ∧ fr = frm 25 [(0, .vsl (lks L)), (1, vi n), (4, .ptr 0 0), (6, vi (i : Nat))]) L.length ?_ ?_
  · exact ⟨mkSt [(0, [vi 0, .p (.slice none 0 0)])] [] 1, le_mkSt (by simp [ASt.addBx, σ0]) (by simp) (by simp [ASt.addBx, σ0]), 0, 1, by omega, by simp, by omega, rfl, by simp⟩
  · rintro q fr σ ⟨i, M, hi, hx, hM, rfl, rfl⟩
    simp -implicitDefEqProofs
    by_cases hlt : i < L.length
    · have hlti : (i : Int) < L.length := by omega
      obtain ⟨a, rs, hp⟩ : ∃ a rs, L[i]? = some (a, rs) := ⟨_, _, List.getElem?_eq_getElem hlt⟩
      have hg := lks_get hp
      have hla : i < (lks L).length := by rw [hvl]; exact hlt
      have wi : IntKind.i64.wrap ((i : Int) + 1) = (i : Int) + 1 := wrap_id (by omega) (by omega)
      obtain ⟨_, hgi⟩ := List.getElem?_eq_some_iff.1 hp
      obtain ⟨_, hgl⟩ := List.getElem?_eq_some_iff.1 hg
      rw [List.drop_eq_getElem_cons hlt, hgi, fndV] at hx
      by_cases hv : a = n
      · rw [if_pos hv] at hx
        rw [← hx]
        subst hv
        repeat' first | refine aw_N [4] (And.intro @hlti (And.intro @hla (And.intro @hg (And.intro @hgl (And.intro @hvl @wi))))) trivial ?_ | refine aw_cond rfl (fun h => ?_) (fun h => ?_)
        all_goals first | rfl | (simp [tupOf, lnk]; done) | trace_state
      · rw [if_neg hv] at hx
        repeat' first | refine aw_N [4] (And.intro @hlti (And.intro @hla (And.intro @hg (And.intro @hgl (And.intro @hvl (And.intro @wi @hv)))))) trivial ?_ | refine aw_cond rfl (fun h => ?_) (fun h => ?_)
        all_goals first | exact ⟨q - 1, by omega, mkSt [(0, [vi 0, .p (.slice none 0 0)])] [] M, le_mkSt (by simp) (by simp) (by simp), i + 1, by omega, hx, M, hM, rfl, by omega⟩ | trace_state
    · have hlti : ¬ (i : Int) < L.length := by omega
      rw [List.drop_eq_nil_of_le (by omega), fndV] at hx
      rw [← hx]
      repeat' first | refine aw_N [4] (And.intro @hlti @hvl) trivial ?_ | refine aw_cond rfl (fun h => ?_) (fun h => ?_)
      all_goals first | rfl | (simp [tupOf, lnk0]; done) | trace_state
set_option maxHeartbeats 8000000 in
set_option maxRecDepth 100000 in
theorem rhas_ok (l : List Int) (v : Int) (hl : l.length ≤ 1000000000) : APure Try.prog 31 [.vsl (l.map vi), vi v] (vb (decide (v ∈ l))) := by
  have hvl : (l.map vi).length = l.length := List.length_map _
  refine apure_in Try.func31 Try.ntmps31 rfl ?_
  repeat' first | refine aw_N [] trivial trivial ?_ | refine aw_cond rfl (fun h => ?_) (fun h => ?_)
  refine aw_loopW [0, 1, 5] (fun q fr σ => ∃ i M : Nat, i + q = l.length ∧ v ∉ l.take i ∧ σ = mkSt [] [] M ∧ fr = frm 18 [(0, .vsl (l.map vi)), (1, vi v), (5, vi (i : Nat))]) l.length ?_ ?_
  · exact ⟨mkSt [] [] 0, le_mkSt (by simp) (by simp) (by simp [σ0]), 0, 0, by omega, by simp, rfl, by simp⟩
  · rintro q fr σ ⟨i, M, hi, hx, rfl, rfl⟩
    simp -implicitDefEqProofs
    by_cases hlt : i < l.length
    · have hlti : (i : Int) < l.length := by omega
      obtain ⟨t, ht⟩ : ∃ t, l[i] = t := ⟨_, rfl⟩
      have hgt : l[i]? = some t := by rw [List.getElem?_eq_getElem hlt, ht]
      have wi : IntKind.i64.wrap ((i : Int) + 1) = (i : Int) + 1 := wrap_id (by omega) (by omega)
      by_cases hv : t = v
      · have hm : v ∈ l := hv ▸ List.mem_of_getElem? hgt
        rw [decide_eq_true hm]
        repeat' first | refine aw_N [] (And.intro @hlt (And.intro @hlti (And.intro @ht (And.intro @hvl (And.intro @wi @hv))))) trivial ?_ | refine aw_cond rfl (fun h => ?_) (fun h => ?_)
        all_goals first | rfl | (simp [tupOf]; done) | trace_state
      · have hx1 : v ∉ l.take (i + 1) := by
          rw [List.take_add_one, hgt, Option.toList_some, List.mem_append, List.mem_singleton]
          exact fun h => h.elim hx fun e => hv e.symm
        repeat' first | refine aw_N [] (And.intro @hlt (And.intro @hlti (And.intro @ht (And.intro @hvl (And.intro @wi @hv))))) trivial ?_ | refine aw_cond rfl (fun h => ?_) (fun h => ?_)
        all_goals first | exact ⟨q - 1, by omega, mkSt [] [] M, le_mkSt (by simp) (by simp) (by simp), i + 1, by omega, hx1, ⟨M, rfl⟩, by simp⟩ | trace_state
    · have hlti : ¬ (i : Int) < l.length := by omega
      rw [List.take_of_length_le (by omega)] at hx
      rw [decide_eq_false hx]
      repeat' first | refine aw_N [] (And.intro @hlt (And.intro @hlti @hvl)) trivial ?_ | refine aw_cond rfl (fun h => ?_) (fun h => ?_)
      all_goals first | rfl | (simp [tupOf]; done) | trace_state
set_option maxHeartbeats 8000000 in
set_option maxRecDepth 100000 in
theorem rreads_ok (x : Lnk) (on : List Int) (hx : x.2.length ≤ 1000000) (hl : on.length ≤ 1000000000) : APure Try.prog 38 [lnk x, .vsl (on.map vi)] (vb (x.2.any fun r => decide (r ∈ on))) := by
  obtain ⟨a, l⟩ := x
  have hvl : (l.map vi).length = l.length := List.length_map _
  have hlk : lnk (a, l) = .agg [vi a, .vsl (l.map vi)] := rfl
  rw [hlk]
  simp only at hx
  refine apure_in Try.func38 Try.ntmps38 rfl ?_
  repeat' first | refine aw_N [] trivial trivial ?_ | refine aw_cond rfl (fun h => ?_) (fun h => ?_)
  refine aw_loopW [1, 2, 5] (fun q fr σ => ∃ i M : Nat, i + q = l.length ∧ (∀ y ∈ l.take i, y ∉ on) ∧ σ = mkSt [] [] M ∧ fr = frm 22 [(1, .vsl (on.map vi)), (2, .vel [.agg [vi a, .vsl (l.map vi)]] 0 0), (5, vi (i : Nat))]) l.length ?_ ?_
  · exact ⟨mkSt [] [] 0, le_mkSt (by simp) (by simp) (by simp [σ0]), 0, 0, by omega, by simp, rfl, by simp⟩
  · rintro q fr σ ⟨i, M, hi, hxx, rfl, rfl⟩
    simp -implicitDefEqProofs
    by_cases hlt : i < l.length
    · have hlti : (i : Int) < l.length := by omega
      obtain ⟨t, ht⟩ : ∃ t, l[i] = t := ⟨_, rfl⟩
      have hgt : l[i]? = some t := by rw [List.getElem?_eq_getElem hlt, ht]
      have wi : IntKind.i64.wrap ((i : Int) + 1) = (i : Int) + 1 := wrap_id (by omega) (by omega)
      have hh := rhas_ok on t hl
      by_cases hv : t ∈ on
      · have hm : (l.any fun r => decide (r ∈ on)) = true := List.any_eq_true.2 ⟨t, List.mem_of_getElem? hgt, decide_eq_true hv⟩
        rw [decide_eq_true hv] at hh
        rw [hm]
        repeat' first | refine aw_N [] (And.intro @hlt (And.intro @hlti (And.intro @ht (And.intro @hvl @wi)))) (And.intro @hh trivial) ?_ | refine aw_cond rfl (fun h => ?_) (fun h => ?_)
        all_goals first | rfl | (simp [tupOf]; done) | trace_state
      · have hx1 : ∀ y ∈ l.take (i + 1), y ∉ on := by
          rw [List.take_add_one, hgt, Option.toList_some]
          intro y hy
          rcases List.mem_append.1 hy with hy | hy
          · exact hxx y hy
          · obtain rfl := List.mem_singleton.1 hy; exact hv
        rw [decide_eq_false hv] at hh
        repeat' first | refine aw_N [] (And.intro @hlt (And.intro @hlti (And.intro @ht (And.intro @hvl @wi)))) (And.intro @hh trivial) ?_ | refine aw_cond rfl (fun h => ?_) (fun h => ?_)
        refine ⟨q - 1, by omega, mkSt [] [] M, le_mkSt (by simp) (by simp) (by simp), i + 1, by omega, hx1, ⟨M, rfl⟩, by simp⟩
    · have hlti : ¬ (i : Int) < l.length := by omega
      rw [List.take_of_length_le (by omega)] at hxx
      have hm : (l.any fun r => decide (r ∈ on)) = false := by
        rw [List.any_eq_false]
        intro y hy
        simpa using hxx y hy
      rw [hm]
      repeat' first | refine aw_N [] (And.intro @hlti @hvl) trivial ?_ | refine aw_cond rfl (fun h => ?_) (fun h => ?_)
      all_goals first | rfl | (simp [tupOf]; done) | trace_state
def inG (L : List Lnk) (n : Int) : Bool := decide (n ∈ L.map Prod.fst)
theorem nodes_rng {L : List Lnk} (hL : GOk L) : nodesL L = rng fun n => inG L n := by
  refine rise_ext (sortI_lt hL.nd) (rng_lt _) fun x => ?_
  rw [nodesL, sortI_mem, mem_rng]
  constructor
  · intro h
    obtain ⟨p, hp, rfl⟩ := List.mem_map.1 h
    have := hL.at_ p hp
    refine ⟨this.1, this.2, ?_⟩
    rw [Int.toNat_of_nonneg this.1]
    exact decide_eq_true h
  · rintro ⟨h1, h2, h3⟩
    rw [Int.toNat_of_nonneg h1] at h3
    simpa [inG] using h3
def rngN (p : Nat → Bool) (n : Nat) : List Int := ((List.range n).filter p).map fun n : Nat => (n : Int)
theorem rngN_succ (p : Nat → Bool) (n : Nat) : rngN p (n + 1) = if p n = true then rngN p n ++ [(n : Int)] else rngN p n := by
  unfold rngN
  rw [List.range_succ, List.filter_append, List.map_append]
  by_cases h : p n = true
  · simp [h]
  · simp [h]
theorem rngN_len (p : Nat → Bool) (n : Nat) : (rngN p n).length ≤ n := by
  unfold rngN
  rw [List.length_map]
  refine Nat.le_trans (List.length_filter_le _ _) ?_
  simp
theorem rngN_whole (p : Nat → Bool) : rngN p 1024 = rng p := rfl
/-- Between two passes of a loop that gathers numbers. -/
def RnI (p : Nat → Bool) (n : Nat) (kv : List (Nat × AV)) (o c : Nat) (q : Nat) (fr : List AV) (σ : ASt) : Prop := ∃ i b M : Nat, i + q = 1024 ∧ b < M ∧ σ = mkSt [] [(b, (rngN p i).map vi)] M ∧ fr = frm n (kv ++ [(o, .hsl b 0 (rngN p i).length), (c, vi (i : Nat))])
set_option maxHeartbeats 8000000 in
set_option maxRecDepth 100000 in
theorem rnodes_ok {L : List Lnk} (hL : GOk L) : APure Try.prog 12 [.vsl (lks L)] (.vsl ((nodesL L).map vi)) := by
  have hvl := lks_len L
  have hLl := hL.len
  rw [nodes_rng hL, ← rngN_whole]
  refine apure_in Try.func12 Try.ntmps12 rfl ?_
  repeat' first | refine aw_N [5] trivial trivial ?_ | refine aw_cond rfl (fun h => ?_) (fun h => ?_)
  refine aw_nilH (i := 3) rfl ?_
  simp -implicitDefEqProofs only [List.set]
  refine aw_loopW [0, 3, 4] (fun q fr σ => RnI (fun n => inG L n) 23 [(0, .vsl (lks L))] 3 4 q fr σ) 1024 ?_ ?_
  · exact ⟨mkSt [] [(0, [])] 1, le_mkSt (by simp [ASt.addSl, σ0]) (by simp [ASt.addSl, σ0]) (by simp [ASt.addSl, σ0]), 0, 0, 1, by omega, by omega, rfl, by simp [rngN]⟩
  · rintro q fr σ ⟨i, b, M, hi, hbM, rfl, rfl⟩
    simp -implicitDefEqProofs
    have hf := rfind_ok L (i : Int) (by omega)
    have hsu := rngN_succ (fun n => inG L n) i
    have hrl := rngN_len (fun n => inG L n) i
    generalize hrr : rngN (fun n => inG L n) i = us at *
    by_cases hlt : i < 1024
    · have hlti : (i : Int) ≤ 1023 := by omega
      have wi : IntKind.i64.wrap ((i : Int) + 1) = (i : Int) + 1 := wrap_id (by omega) (by omega)
      by_cases hm : (i : Int) ∈ L.map Prod.fst
      · obtain ⟨⟨a, l⟩, hp, hpa⟩ := List.mem_map.1 hm
        simp only at hpa
        have hfv := fndV_some hL.nd hp
        simp only at hfv
        have hlk : lnk (a, l) = .agg [vi a, .vsl (l.map vi)] := rfl
        rw [← hpa, hfv, hlk, hpa] at hf
        rw [if_pos (by simpa [inG] using hm)] at hsu
        repeat' first | refine aw_N [5] (And.intro @hlt (And.intro @hlti @wi)) (And.intro @hf trivial) ?_ | refine aw_cond rfl (fun h => ?_) (fun h => ?_)
        refine awl_append [] rfl rfl rfl (xs := us.map vi) (by simp) (by simp) rfl (by simp) te23 tet23 tz3 rfl (fun y hy => by obtain ⟨_, _, rfl⟩ := List.mem_map.1 hy; rfl) (by simp) (by simp; omega) (by simp; omega) ?_
        simp -implicitDefEqProofs
        repeat' first | refine aw_N [5] @wi trivial ?_ | refine aw_cond rfl (fun h => ?_) (fun h => ?_)
        exact ⟨q - 1, by omega, mkSt [] [(M + 1, (us ++ [(i : Int)]).map vi)] (M + 2), le_mkSt (by simp) (by simp [List.take_of_length_le, ASt.addSl]) (by simp [ASt.addSl]), i + 1, M + 1, M + 2, by omega, by omega, by rw [hsu], by rw [hsu]; simp⟩
      · have hfv := fndV_none hm
        have hlk : lnk0 = .agg [vi 0, .p (.slice none 0 0)] := rfl
        rw [hfv, hlk] at hf
        rw [if_neg (by simpa [inG] using hm)] at hsu
        repeat' first | refine aw_N [5] (And.intro @hlt (And.intro @hlti @wi)) (And.intro @hf trivial) ?_ | refine aw_cond rfl (fun h => ?_) (fun h => ?_)
        exact ⟨q - 1, by omega, mkSt [] [(b, us.map vi)] (M + 1), le_mkSt (by simp) (by simp) (by simp), i + 1, b, M + 1, by omega, by omega, by rw [hsu], by rw [hsu]; simp⟩
    · have hlti : ¬ (i : Int) ≤ 1023 := by omega
      obtain rfl : i = 1024 := by omega
      repeat' first | refine aw_M [5] @hlti trivial ?_ | refine aw_cond rfl (fun h => ?_) (fun h => ?_)
      all_goals first | (simp [tupOf, hrr, List.take_of_length_le]; done) | trace_state
end Go.AL
/-! Contract: gridironref12's Hang. -/
namespace Go.AL
open Go.Proofs
set_option linter.unusedSimpArgs false
set_option linter.unusedVariables false
def rdsA (l on : List Int) : Bool := l.any fun r => decide (r ∈ on)
theorem rdsA_iff {l on : List Int} : rdsA l on = true ↔ ∃ n ∈ l, n ∈ on := by
  unfold rdsA
  rw [List.any_eq_true]
  simp
theorem lookup2 {b c : Nat} (h : c ≠ b) (x y : List AV) : List.lookup c [(b, x), (c, y)] = some y := by
  have : (c == b) = false := by simpa using h
  simp [List.lookup, this]
structure RhF (L : List Lnk) (on F : List Int) : Prop where
  nd : F.Nodup
  sound : ∀ x ∈ F, Hg L on x
/-- Nothing is to be found among these. -/
def RhC (L : List Lnk) (on F : List Int) : Prop := ∀ p ∈ L, (rdsA p.2 on || rdsA p.2 F) = true → p.1 ∈ F
theorem RhF.len {L : List Lnk} {on F : List Int} (h : RhF L on F) : F.length ≤ L.length := keys_len h.nd fun x hx => (h.sound x hx).node
theorem RhF.add {L : List Lnk} {on F : List Int} (h : RhF L on F) {a : Int} {l : List Int} (hp : (a, l) ∈ L) (hr : rdsA l on = true ∨ rdsA l F = true) (ha : a ∉ F) : RhF L on (F ++ [a]) := by
  refine ⟨?_, fun x hx => ?_⟩
  · rw [List.nodup_append]
    refine ⟨h.nd, by simp, fun x hx y hy => ?_⟩
    obtain rfl := List.mem_singleton.1 hy
    exact fun e => ha (e ▸ hx)
  · rcases List.mem_append.1 hx with hx | hx
    · exact h.sound x hx
    · obtain rfl := List.mem_singleton.1 hx
      rcases hr with hr | hr
      · obtain ⟨n, h1, h2⟩ := rdsA_iff.1 hr
        exact .base _ hp n h1 h2
      · obtain ⟨n, h1, h2⟩ := rdsA_iff.1 hr
        exact .step _ hp n h1 (h.sound n h2)
/-- In a pass. -/
structure RhJ (L : List Lnk) (on : List Int) (k : Nat) (i : Nat) (m : Bool) (F : List Int) : Prop where
  ok : RhF L on F
  le : k ≤ F.length
  yes : m = true → k < F.length
  no : m = false → F.length = k ∧ RhC (L.take i) on F
theorem RhJ.skip {L : List Lnk} {on : List Int} {k i : Nat} {m : Bool} {F : List Int} (h : RhJ L on k i m F) {a : Int} {l : List Int} (hp : L[i]? = some (a, l)) (hc : (rdsA l on || rdsA l F) = true → a ∈ F) : RhJ L on k (i + 1) m F := by
  refine ⟨h.ok, h.le, h.yes, fun e => ⟨(h.no e).1, fun p hq => ?_⟩⟩
  rw [List.take_add_one, hp, Option.toList_some] at hq
  rcases List.mem_append.1 hq with hq | hq
  · exact (h.no e).2 p hq
  · obtain rfl := List.mem_singleton.1 hq; exact hc
theorem RhJ.add {L : List Lnk} {on : List Int} {k i : Nat} {m : Bool} {F : List Int} (h : RhJ L on k i m F) {a : Int} {l : List Int} (hp : L[i]? = some (a, l)) (hr : rdsA l on = true ∨ rdsA l F = true) (ha : a ∉ F) : RhJ L on k (i + 1) true (F ++ [a]) := by
  have := h.le
  exact ⟨h.ok.add (List.mem_of_getElem? hp) hr ha, by simp; omega, fun _ => by simp; omega, fun e => by cases e⟩
def RhI1 (L : List Lnk) (on : List Int) (q : Nat) (fr : List AV) (σ : ASt) : Prop := ∃ (F : List Int) (m : Bool) (b M : Nat), (L.length - F.length) + (if m = true then 1 else 0) = q ∧ RhF L on F ∧ (m = false → RhC L on F) ∧ b < M ∧ σ = mkSt [] [(b, F.map vi)] M ∧ fr = frm 69 [(0, .vsl (lks L)), (1, .vsl (on.map vi)), (5, .hsl b 0 F.length), (6, vb m)]
def RhI2 (L : List Lnk) (on : List Int) (k : Nat) (q : Nat) (fr : List AV) (σ : ASt) : Prop := ∃ (F : List Int) (m : Bool) (b M i : Nat), i + q = L.length ∧ RhJ L on k i m F ∧ b < M ∧ σ = mkSt [] [(b, F.map vi)] M ∧ fr = frm 69 [(0, .vsl (lks L)), (1, .vsl (on.map vi)), (5, .hsl b 0 F.length), (6, vb m), (7, vi (i : Nat))]
def RhI3 (F : List Int) (b : Nat) (q : Nat) (fr : List AV) (σ : ASt) : Prop := ∃ i c M : Nat, i + q = 1024 ∧ c ≠ b ∧ b < M ∧ c < M ∧ σ = mkSt [] [(b, F.map vi), (c, (rngN (fun n => decide ((n : Int) ∈ F)) i).map vi)] M ∧ fr = frm 69 [(5, .hsl b 0 F.length), (11, .hsl c 0 (rngN (fun n => decide ((n : Int) ∈ F)) i).length), (12, vi (i : Nat))]
set_option maxHeartbeats 16000000 in
set_option maxRecDepth 100000 in
theorem rhang_ok {L : List Lnk} (hL : GOk L) (on : List Int) (hon : on.length ≤ 100000) : APure Try.prog 18 [.vsl (lks L), .vsl (on.map vi)] (.vsl ((hangL L on).map vi)) := by
  have hvl := lks_len L
  have hLl := hL.len
  refine apure_in Try.func18 Try.ntmps18 rfl ?_
  repeat' first | refine aw_N [] trivial trivial ?_ | refine aw_cond rfl (fun h => ?_) (fun h => ?_)
  refine aw_nilH (i := 5) rfl ?_
  simp -implicitDefEqProofs only [List.set]
  refine aw_loopW [0, 1, 5, 6] (fun q fr σ => RhI1 L on q fr σ) (L.length + 1) ?_ ?_
  · exact ⟨mkSt [] [(0, [])] 1, le_mkSt (by simp [ASt.addSl, σ0]) (by simp [ASt.addSl, σ0]) (by simp [ASt.addSl, σ0]), [], true, 0, 1, by simp, ⟨by simp, by simp⟩, (fun h => by cases h), by omega, rfl, by simp⟩
  · rintro q0 fr σ ⟨F0, m0, b0, M0, hq0, hF0, hm0, hb0, rfl, rfl⟩
    simp -implicitDefEqProofs
    have hFl0 := hF0.len
    cases m0 with
    | false =>
      have hcl := hm0 rfl
      have hres : rng (fun n => decide ((n : Int) ∈ F0)) = hangL L on := by
        refine hangL_eq hL.nd hF0.sound (fun p hp n hn hs => hcl p hp ?_) (rng_lt _) fun x => ?_
        · rw [Bool.or_eq_true, rdsA_iff, rdsA_iff]
          exact hs.imp (fun h => ⟨n, hn, h⟩) fun h => ⟨n, hn, h⟩
        · rw [mem_rng]
          constructor
          · rintro ⟨h1, h2, h3⟩
            rw [Int.toNat_of_nonneg h1] at h3
            exact of_decide_eq_true h3
          · intro h
            obtain ⟨p, hp, e⟩ := List.mem_map.1 (hF0.sound x h).node
            have := hL.at_ p hp
            rw [e] at this
            refine ⟨this.1, this.2, ?_⟩
            rw [Int.toNat_of_nonneg this.1]
            exact decide_eq_true h
      rw [← hres, ← rngN_whole]
      clear hcl hres hq0 hm0
      repeat' first | refine aw_N [] trivial trivial ?_ | refine aw_cond rfl (fun h => ?_) (fun h => ?_)
      refine aw_nilH (i := 11) rfl ?_
      simp -implicitDefEqProofs only [List.set]
      refine aw_loopW [5, 11, 12] (fun q fr σ => RhI3 F0 b0 q fr σ) 1024 ?_ ?_
      · have hbm' : ¬ M0 = b0 := by omega
        have hbm2 : ¬ b0 = M0 := by omega
        refine ⟨mkSt [] [(b0, F0.map vi), (M0, [])] (M0 + 1), le_mkSt (by simp) (by simp [ASt.addSl, upd, hbm', hbm2]) (by simp [ASt.addSl]), 0, M0, M0 + 1, by omega, hbm', by omega, by omega, rfl, by simp [rngN]⟩
      · rintro q fr σ ⟨i, c, M, hi, hcb, hbM, hcM, rfl, rfl⟩
        simp -implicitDefEqProofs
        have hsu := rngN_succ (fun n => decide ((n : Int) ∈ F0)) i
        have hrl := rngN_len (fun n => decide ((n : Int) ∈ F0)) i
        generalize hrr : rngN (fun n => decide ((n : Int) ∈ F0)) i = us at *
        by_cases hlt : i < 1024
        · have hlti : (i : Int) ≤ 1023 := by omega
          have wi : IntKind.i64.wrap ((i : Int) + 1) = (i : Int) + 1 := wrap_id (by omega) (by omega)
          have hC := rhas_ok F0 (i : Int) (by omega)
          by_cases hm : (i : Int) ∈ F0
          · rw [if_pos (decide_eq_true hm)] at hsu
            rw [decide_eq_true hm] at hC
            repeat' first | refine aw_N [] @hlti trivial ?_ | refine aw_cond rfl (fun h => ?_) (fun h => ?_)
            refine awl_lend [] rfl rfl rfl (by kernel_rfl) rfl (args' := [.vsl (F0.map vi), vi i]) (by simp [clo, clo1, clo0, List.take_of_length_le]) hC (by simp) (by simp) ?_
            simp -implicitDefEqProofs
            repeat' first | refine aw_N [] trivial trivial ?_ | refine aw_cond rfl (fun h => ?_) (fun h => ?_)
            have hbc : ¬ b0 = c := fun e => hcb e.symm
            refine awl_append [] rfl rfl rfl (xs := us.map vi) (by simp [lookup2 hcb]) (by simp) rfl (by simp) te23 tet23 tz3 rfl (fun y hy => by obtain ⟨_, _, rfl⟩ := List.mem_map.1 hy; rfl) (by simp) (by simp; omega) (by simp; omega) ?_
            simp -implicitDefEqProofs
            repeat' first | refine aw_N [] @wi trivial ?_ | refine aw_cond rfl (fun h => ?_) (fun h => ?_)
            have hMb : ¬ M = b0 := by omega
            have hMb2 : ¬ b0 = M := by omega
            exact ⟨q - 1, by omega, mkSt [] [(b0, F0.map vi), (M, (us ++ [(i : Int)]).map vi)] (M + 1), le_mkSt (by simp) (by simp [List.take_of_length_le, ASt.addSl, ASt.dropSl, upd, hMb2, hbc]) (by simp [ASt.addSl]), i + 1, M, M + 1, by omega, hMb, by omega, by omega, by rw [hsu], by rw [hsu]; simp⟩
          · rw [if_neg (by simpa using hm)] at hsu
            rw [decide_eq_false hm] at hC
            repeat' first | refine aw_N [] @hlti trivial ?_ | refine aw_cond rfl (fun h => ?_) (fun h => ?_)
            refine awl_lend [] rfl rfl rfl (by kernel_rfl) rfl (args' := [.vsl (F0.map vi), vi i]) (by simp [clo, clo1, clo0, List.take_of_length_le]) hC (by simp) (by simp) ?_
            simp -implicitDefEqProofs
            repeat' first | refine aw_N [] @wi trivial ?_ | refine aw_cond rfl (fun h => ?_) (fun h => ?_)
            exact ⟨q - 1, by omega, mkSt [] [(b0, F0.map vi), (c, us.map vi)] M, le_mkSt (by simp) (by simp [lookup2 hcb]) (by simp), i + 1, c, M, by omega, hcb, hbM, hcM, by rw [hsu], by rw [hsu]; simp⟩
        · have hlti : ¬ (i : Int) ≤ 1023 := by omega
          obtain rfl : i = 1024 := by omega
          repeat' first | refine aw_M [] @hlti trivial ?_ | refine aw_cond rfl (fun h => ?_) (fun h => ?_)
          all_goals first | (simp [tupOf, hrr, lookup2 hcb, List.take_of_length_le]; done) | trace_state
    | true =>
      have hq0' : L.length - F0.length + 1 = q0 := by simpa using hq0
      repeat' first | refine aw_N [] trivial trivial ?_ | refine aw_cond rfl (fun h => ?_) (fun h => ?_)
      refine aw_loopW [0, 1, 5, 6, 7] (fun q fr σ => RhI2 L on F0.length q fr σ) L.length ?_ ?_
      · exact ⟨mkSt [] [(b0, F0.map vi)] M0, le_mkSt (by simp) (by simp) (by simp), F0, false, b0, M0, 0, by omega, ⟨hF0, Nat.le_refl _, (fun h => by cases h), fun _ => ⟨rfl, fun p hp => by simp at hp⟩⟩, hb0, rfl, by simp⟩
      · clear hq0 hm0
        generalize F0.length = k at *
        clear hF0 hb0 F0 b0 M0
        rintro q fr σ ⟨F, m, b, M, i, hi, hJ, hbM, rfl, rfl⟩
        simp -implicitDefEqProofs
        have hFl := hJ.ok.len
        by_cases hlt : i < L.length
        · have hlti : (i : Int) < L.length := by omega
          obtain ⟨a, l, hp⟩ : ∃ a l, L[i]? = some (a, l) := ⟨_, _, List.getElem?_eq_getElem hlt⟩
          have hg := lks_get hp
          have hla : i < (lks L).length := by rw [hvl]; exact hlt
          have wi : IntKind.i64.wrap ((i : Int) + 1) = (i : Int) + 1 := wrap_id (by omega) (by omega)
          obtain ⟨_, hgl⟩ := List.getElem?_eq_some_iff.1 hg
          have hll := hL.rlen _ (List.mem_of_getElem? hp)
          simp only at hll
          have hA := rreads_ok (a, l) on (by simp; omega) (by omega)
          have hB := rreads_ok (a, l) F (by simp; omega) (by omega)
          have hC := rhas_ok F a (by omega)
          have hlk : lnk (a, l) = .agg [vi a, .vsl (l.map vi)] := rfl
          rw [hlk] at hA hB
          simp only at hA hB
          rw [show (l.any fun r => decide (r ∈ on)) = rdsA l on from rfl] at hA
          rw [show (l.any fun r => decide (r ∈ F)) = rdsA l F from rfl] at hB
          cases hr1 : rdsA l on <;> cases hr2 : rdsA l F <;> cases hr3 : decide (a ∈ F)
          · rw [hr1] at hA
            rw [hr2] at hB
            rw [hr3] at hC
            repeat' first | refine aw_N [] (And.intro @hlti (And.intro @hla (And.intro @hg (And.intro @hgl (And.intro @hvl @wi))))) (And.intro @hA trivial) ?_ | refine aw_cond rfl (fun h => ?_) (fun h => ?_)
            refine awl_lend [] rfl rfl rfl (by kernel_rfl) rfl (args' := [.agg [vi a, .vsl (l.map vi)], .vsl (F.map vi)]) (by simp [clo, clo1, clo0, List.take_of_length_le]) hB (by simp) (by simp) ?_
            simp -implicitDefEqProofs
            repeat' first | refine aw_N [] (And.intro @hlti (And.intro @hla (And.intro @hg (And.intro @hgl (And.intro @hvl @wi))))) trivial ?_ | refine aw_cond rfl (fun h => ?_) (fun h => ?_)
            refine awl_lend [] rfl rfl rfl (by kernel_rfl) rfl (args' := [.vsl (F.map vi), vi a]) (by simp [clo, clo1, clo0, List.take_of_length_le]) hC (by simp) (by simp) ?_
            simp -implicitDefEqProofs
            repeat' first | refine aw_N [] (And.intro @hlti (And.intro @hla (And.intro @hg (And.intro @hgl (And.intro @hvl @wi))))) trivial ?_ | refine aw_cond rfl (fun h => ?_) (fun h => ?_)
            skip
            exact ⟨q - 1, by omega, mkSt [] [(b, F.map vi)] M, le_mkSt (by simp) (by simp) (by simp), F, m, b, M, i + 1, by omega, hJ.skip hp (fun h => by first | (exact of_decide_eq_true hr3) | (rw [hr1, hr2] at h; cases h)), hbM, rfl, by simp⟩
          · rw [hr1] at hA
            rw [hr2] at hB
            rw [hr3] at hC
            repeat' first | refine aw_N [] (And.intro @hlti (And.intro @hla (And.intro @hg (And.intro @hgl (And.intro @hvl @wi))))) (And.intro @hA trivial) ?_ | refine aw_cond rfl (fun h => ?_) (fun h => ?_)
            refine awl_lend [] rfl rfl rfl (by kernel_rfl) rfl (args' := [.agg [vi a, .vsl (l.map vi)], .vsl (F.map vi)]) (by simp [clo, clo1, clo0, List.take_of_length_le]) hB (by simp) (by simp) ?_
            simp -implicitDefEqProofs
            repeat' first | refine aw_N [] (And.intro @hlti (And.intro @hla (And.intro @hg (And.intro @hgl (And.intro @hvl @wi))))) trivial ?_ | refine aw_cond rfl (fun h => ?_) (fun h => ?_)
            refine awl_lend [] rfl rfl rfl (by kernel_rfl) rfl (args' := [.vsl (F.map vi), vi a]) (by simp [clo, clo1, clo0, List.take_of_length_le]) hC (by simp) (by simp) ?_
            simp -implicitDefEqProofs
            repeat' first | refine aw_N [] (And.intro @hlti (And.intro @hla (And.intro @hg (And.intro @hgl (And.intro @hvl @wi))))) trivial ?_ | refine aw_cond rfl (fun h => ?_) (fun h => ?_)
            skip
            exact ⟨q - 1, by omega, mkSt [] [(b, F.map vi)] M, le_mkSt (by simp) (by simp) (by simp), F, m, b, M, i + 1, by omega, hJ.skip hp (fun h => by first | (exact of_decide_eq_true hr3) | (rw [hr1, hr2] at h; cases h)), hbM, rfl, by simp⟩
          · rw [hr1] at hA
            rw [hr2] at hB
            rw [hr3] at hC
            repeat' first | refine aw_N [] (And.intro @hlti (And.intro @hla (And.intro @hg (And.intro @hgl (And.intro @hvl @wi))))) (And.intro @hA trivial) ?_ | refine aw_cond rfl (fun h => ?_) (fun h => ?_)
            refine awl_lend [] rfl rfl rfl (by kernel_rfl) rfl (args' := [.agg [vi a, .vsl (l.map vi)], .vsl (F.map vi)]) (by simp [clo, clo1, clo0, List.take_of_length_le]) hB (by simp) (by simp) ?_
            simp -implicitDefEqProofs
            repeat' first | refine aw_N [] (And.intro @hlti (And.intro @hla (And.intro @hg (And.intro @hgl (And.intro @hvl @wi))))) trivial ?_ | refine aw_cond rfl (fun h => ?_) (fun h => ?_)
            refine awl_lend [] rfl rfl rfl (by kernel_rfl) rfl (args' := [.vsl (F.map vi), vi a]) (by simp [clo, clo1, clo0, List.take_of_length_le]) hC (by simp) (by simp) ?_
            simp -implicitDefEqProofs
            repeat' first | refine aw_N [] (And.intro @hlti (And.intro @hla (And.intro @hg (And.intro @hgl (And.intro @hvl @wi))))) trivial ?_ | refine aw_cond rfl (fun h => ?_) (fun h => ?_)
            skip
            refine awl_append [] rfl rfl rfl (xs := F.map vi) (by simp) (by simp) rfl (by simp) te23 tet23 tz3 rfl (fun y hy => by obtain ⟨_, _, rfl⟩ := List.mem_map.1 hy; rfl) (by simp) (by simp; omega) (by simp; omega) ?_
            simp -implicitDefEqProofs
            repeat' first | refine aw_N [] @wi trivial ?_ | refine aw_cond rfl (fun h => ?_) (fun h => ?_)
            exact ⟨q - 1, by omega, mkSt [] [(M, (F ++ [a]).map vi)] (M + 1), le_mkSt (by simp) (by simp [List.take_of_length_le, ASt.addSl]) (by simp [ASt.addSl]), F ++ [a], true, M, M + 1, i + 1, by omega, hJ.add hp (by first | exact .inl hr1 | exact .inr hr2) (of_decide_eq_false hr3), by omega, rfl, by simp⟩
          · rw [hr1] at hA
            rw [hr2] at hB
            rw [hr3] at hC
            repeat' first | refine aw_N [] (And.intro @hlti (And.intro @hla (And.intro @hg (And.intro @hgl (And.intro @hvl @wi))))) (And.intro @hA trivial) ?_ | refine aw_cond rfl (fun h => ?_) (fun h => ?_)
            refine awl_lend [] rfl rfl rfl (by kernel_rfl) rfl (args' := [.agg [vi a, .vsl (l.map vi)], .vsl (F.map vi)]) (by simp [clo, clo1, clo0, List.take_of_length_le]) hB (by simp) (by simp) ?_
            simp -implicitDefEqProofs
            repeat' first | refine aw_N [] (And.intro @hlti (And.intro @hla (And.intro @hg (And.intro @hgl (And.intro @hvl @wi))))) trivial ?_ | refine aw_cond rfl (fun h => ?_) (fun h => ?_)
            refine awl_lend [] rfl rfl rfl (by kernel_rfl) rfl (args' := [.vsl (F.map vi), vi a]) (by simp [clo, clo1, clo0, List.take_of_length_le]) hC (by simp) (by simp) ?_
            simp -implicitDefEqProofs
            repeat' first | refine aw_N [] (And.intro @hlti (And.intro @hla (And.intro @hg (And.intro @hgl (And.intro @hvl @wi))))) trivial ?_ | refine aw_cond rfl (fun h => ?_) (fun h => ?_)
            skip
            exact ⟨q - 1, by omega, mkSt [] [(b, F.map vi)] M, le_mkSt (by simp) (by simp) (by simp), F, m, b, M, i + 1, by omega, hJ.skip hp (fun h => by first | (exact of_decide_eq_true hr3) | (rw [hr1, hr2] at h; cases h)), hbM, rfl, by simp⟩
          · rw [hr1] at hA
            rw [hr2] at hB
            rw [hr3] at hC
            repeat' first | refine aw_N [] (And.intro @hlti (And.intro @hla (And.intro @hg (And.intro @hgl (And.intro @hvl @wi))))) (And.intro @hA trivial) ?_ | refine aw_cond rfl (fun h => ?_) (fun h => ?_)
            refine awl_lend [] rfl rfl rfl (by kernel_rfl) rfl (args' := [.agg [vi a, .vsl (l.map vi)], .vsl (F.map vi)]) (by simp [clo, clo1, clo0, List.take_of_length_le]) hB (by simp) (by simp) ?_
            simp -implicitDefEqProofs
            repeat' first | refine aw_N [] (And.intro @hlti (And.intro @hla (And.intro @hg (And.intro @hgl (And.intro @hvl @wi))))) trivial ?_ | refine aw_cond rfl (fun h => ?_) (fun h => ?_)
            refine awl_lend [] rfl rfl rfl (by kernel_rfl) rfl (args' := [.vsl (F.map vi), vi a]) (by simp [clo, clo1, clo0, List.take_of_length_le]) hC (by simp) (by simp) ?_
            simp -implicitDefEqProofs
            repeat' first | refine aw_N [] (And.intro @hlti (And.intro @hla (And.intro @hg (And.intro @hgl (And.intro @hvl @wi))))) trivial ?_ | refine aw_cond rfl (fun h => ?_) (fun h => ?_)
            skip
            refine awl_append [] rfl rfl rfl (xs := F.map vi) (by simp) (by simp) rfl (by simp) te23 tet23 tz3 rfl (fun y hy => by obtain ⟨_, _, rfl⟩ := List.mem_map.1 hy; rfl) (by simp) (by simp; omega) (by simp; omega) ?_
            simp -implicitDefEqProofs
            repeat' first | refine aw_N [] @wi trivial ?_ | refine aw_cond rfl (fun h => ?_) (fun h => ?_)
            exact ⟨q - 1, by omega, mkSt [] [(M, (F ++ [a]).map vi)] (M + 1), le_mkSt (by simp) (by simp [List.take_of_length_le, ASt.addSl]) (by simp [ASt.addSl]), F ++ [a], true, M, M + 1, i + 1, by omega, hJ.add hp (by first | exact .inl hr1 | exact .inr hr2) (of_decide_eq_false hr3), by omega, rfl, by simp⟩
          · rw [hr1] at hA
            rw [hr2] at hB
            rw [hr3] at hC
            repeat' first | refine aw_N [] (And.intro @hlti (And.intro @hla (And.intro @hg (And.intro @hgl (And.intro @hvl @wi))))) (And.intro @hA trivial) ?_ | refine aw_cond rfl (fun h => ?_) (fun h => ?_)
            refine awl_lend [] rfl rfl rfl (by kernel_rfl) rfl (args' := [.agg [vi a, .vsl (l.map vi)], .vsl (F.map vi)]) (by simp [clo, clo1, clo0, List.take_of_length_le]) hB (by simp) (by simp) ?_
            simp -implicitDefEqProofs
            repeat' first | refine aw_N [] (And.intro @hlti (And.intro @hla (And.intro @hg (And.intro @hgl (And.intro @hvl @wi))))) trivial ?_ | refine aw_cond rfl (fun h => ?_) (fun h => ?_)
            refine awl_lend [] rfl rfl rfl (by kernel_rfl) rfl (args' := [.vsl (F.map vi), vi a]) (by simp [clo, clo1, clo0, List.take_of_length_le]) hC (by simp) (by simp) ?_
            simp -implicitDefEqProofs
            repeat' first | refine aw_N [] (And.intro @hlti (And.intro @hla (And.intro @hg (And.intro @hgl (And.intro @hvl @wi))))) trivial ?_ | refine aw_cond rfl (fun h => ?_) (fun h => ?_)
            skip
            exact ⟨q - 1, by omega, mkSt [] [(b, F.map vi)] M, le_mkSt (by simp) (by simp) (by simp), F, m, b, M, i + 1, by omega, hJ.skip hp (fun h => by first | (exact of_decide_eq_true hr3) | (rw [hr1, hr2] at h; cases h)), hbM, rfl, by simp⟩
          · rw [hr1] at hA
            rw [hr2] at hB
            rw [hr3] at hC
            repeat' first | refine aw_N [] (And.intro @hlti (And.intro @hla (And.intro @hg (And.intro @hgl (And.intro @hvl @wi))))) (And.intro @hA trivial) ?_ | refine aw_cond rfl (fun h => ?_) (fun h => ?_)
            refine awl_lend [] rfl rfl rfl (by kernel_rfl) rfl (args' := [.agg [vi a, .vsl (l.map vi)], .vsl (F.map vi)]) (by simp [clo, clo1, clo0, List.take_of_length_le]) hB (by simp) (by simp) ?_
            simp -implicitDefEqProofs
            repeat' first | refine aw_N [] (And.intro @hlti (And.intro @hla (And.intro @hg (And.intro @hgl (And.intro @hvl @wi))))) trivial ?_ | refine aw_cond rfl (fun h => ?_) (fun h => ?_)
            refine awl_lend [] rfl rfl rfl (by kernel_rfl) rfl (args' := [.vsl (F.map vi), vi a]) (by simp [clo, clo1, clo0, List.take_of_length_le]) hC (by simp) (by simp) ?_
            simp -implicitDefEqProofs
            repeat' first | refine aw_N [] (And.intro @hlti (And.intro @hla (And.intro @hg (And.intro @hgl (And.intro @hvl @wi))))) trivial ?_ | refine aw_cond rfl (fun h => ?_) (fun h => ?_)
            skip
            refine awl_append [] rfl rfl rfl (xs := F.map vi) (by simp) (by simp) rfl (by simp) te23 tet23 tz3 rfl (fun y hy => by obtain ⟨_, _, rfl⟩ := List.mem_map.1 hy; rfl) (by simp) (by simp; omega) (by simp; omega) ?_
            simp -implicitDefEqProofs
            repeat' first | refine aw_N [] @wi trivial ?_ | refine aw_cond rfl (fun h => ?_) (fun h => ?_)
            exact ⟨q - 1, by omega, mkSt [] [(M, (F ++ [a]).map vi)] (M + 1), le_mkSt (by simp) (by simp [List.take_of_length_le, ASt.addSl]) (by simp [ASt.addSl]), F ++ [a], true, M, M + 1, i + 1, by omega, hJ.add hp (by first | exact .inl hr1 | exact .inr hr2) (of_decide_eq_false hr3), by omega, rfl, by simp⟩
          · rw [hr1] at hA
            rw [hr2] at hB
            rw [hr3] at hC
            repeat' first | refine aw_N [] (And.intro @hlti (And.intro @hla (And.intro @hg (And.intro @hgl (And.intro @hvl @wi))))) (And.intro @hA trivial) ?_ | refine aw_cond rfl (fun h => ?_) (fun h => ?_)
            refine awl_lend [] rfl rfl rfl (by kernel_rfl) rfl (args' := [.agg [vi a, .vsl (l.map vi)], .vsl (F.map vi)]) (by simp [clo, clo1, clo0, List.take_of_length_le]) hB (by simp) (by simp) ?_
            simp -implicitDefEqProofs
            repeat' first | refine aw_N [] (And.intro @hlti (And.intro @hla (And.intro @hg (And.intro @hgl (And.intro @hvl @wi))))) trivial ?_ | refine aw_cond rfl (fun h => ?_) (fun h => ?_)
            refine awl_lend [] rfl rfl rfl (by kernel_rfl) rfl (args' := [.vsl (F.map vi), vi a]) (by simp [clo, clo1, clo0, List.take_of_length_le]) hC (by simp) (by simp) ?_
            simp -implicitDefEqProofs
            repeat' first | refine aw_N [] (And.intro @hlti (And.intro @hla (And.intro @hg (And.intro @hgl (And.intro @hvl @wi))))) trivial ?_ | refine aw_cond rfl (fun h => ?_) (fun h => ?_)
            skip
            exact ⟨q - 1, by omega, mkSt [] [(b, F.map vi)] M, le_mkSt (by simp) (by simp) (by simp), F, m, b, M, i + 1, by omega, hJ.skip hp (fun h => by first | (exact of_decide_eq_true hr3) | (rw [hr1, hr2] at h; cases h)), hbM, rfl, by simp⟩
        · have hlti : ¬ (i : Int) < L.length := by omega
          repeat' first | refine aw_N [] (And.intro @hlti @hvl) trivial ?_ | refine aw_cond rfl (fun h => ?_) (fun h => ?_)
          refine ⟨L.length - F.length + (if m = true then 1 else 0), ?_, mkSt [] [(b, F.map vi)] M, le_mkSt (by simp) (by simp) (by simp), F, m, b, M, rfl, hJ.ok, fun e => ?_, hbM, rfl, by simp⟩
          · cases m
            · have := (hJ.no rfl).1; simp; omega
            · have := hJ.yes rfl; simp; omega
          · have := (hJ.no e).2
            rw [List.take_of_length_le (by omega)] at this
            exact this
end Go.AL
/-! Contracts: gridironref12's Cyclic, ready. -/
namespace Go.AL
open Go.Proofs
set_option linter.unusedSimpArgs false
set_option linter.unusedVariables false
noncomputable def cycT (L : List Lnk) (i : Nat) : List Int := ((nodesL L).take i).filter fun n => onCyc L n
def RcI (L : List Lnk) (cy : Nat → List Int) (q : Nat) (fr : List AV) (σ : ASt) : Prop := ∃ i b M : Nat, i + q = (nodesL L).length ∧ b < M ∧ σ = mkSt [] [(b, (cy i).map vi)] M ∧ fr = frm 36 [(0, .vsl (lks L)), (3, .vsl ((nodesL L).map vi)), (4, .hsl b 0 (cy i).length), (5, vi (i : Nat))]
set_option maxHeartbeats 16000000 in
set_option maxRecDepth 100000 in
theorem rcyclic_ok {L : List Lnk} (hL : GOk L) : APure Try.prog 14 [.vsl (lks L)] (.vsl ((cycL L).map vi)) := by
  have hvl := lks_len L
  have hLl := hL.len
  have hnl := nodesL_len L
  have hN := rnodes_ok hL
  have hnv : ((nodesL L).map vi).length = (nodesL L).length := List.length_map _
  have hwh : cycT L (nodesL L).length = cycL L := by unfold cycT cycL; rw [List.take_length]
  have hcl : ∀ i, (cycT L i).length ≤ 1000 := fun i => by
    unfold cycT
    refine Nat.le_trans (List.length_filter_le _ _) ?_
    simp; omega
  have hsu : ∀ i n, (nodesL L)[i]? = some n → cycT L (i + 1) = if onCyc L n = true then cycT L i ++ [n] else cycT L i := fun i n h => by
    unfold cycT
    rw [List.take_add_one, h, Option.toList_some, List.filter_append]
    by_cases hc : onCyc L n = true
    · simp [hc]
    · simp [hc]
  rw [← hwh]
  generalize hcy : cycT L = cy at *
  have hcy0 : cy 0 = [] := by rw [← hcy]; rfl
  refine apure_in Try.func14 Try.ntmps14 rfl ?_
  repeat' first | refine aw_W [] trivial (And.intro @hN trivial) ?_ | refine aw_cond rfl (fun h => ?_) (fun h => ?_)
  refine aw_nilH (i := 4) rfl ?_
  simp -implicitDefEqProofs only [List.set]
  refine aw_loopW [0, 3, 4, 5] (fun q fr σ => RcI L cy q fr σ) (nodesL L).length ?_ ?_
  · exact ⟨mkSt [] [(0, [])] 1, le_mkSt (by simp [ASt.addSl, σ0]) (by simp [ASt.addSl, σ0]) (by simp [ASt.addSl, σ0]), 0, 0, 1, by omega, by omega, by rw [hcy0]; rfl, by rw [hcy0]; simp⟩
  · rintro q fr σ ⟨i, b, M, hi, hbM, rfl, rfl⟩
    simp -implicitDefEqProofs
    have hcli := hcl i
    by_cases hlt : i < (nodesL L).length
    · have hlti : (i : Int) < (nodesL L).length := by omega
      obtain ⟨n, hn⟩ : ∃ n, (nodesL L)[i] = n := ⟨_, rfl⟩
      have hng : (nodesL L)[i]? = some n := by rw [List.getElem?_eq_getElem hlt, hn]
      have hsu := hsu i n hng
      generalize hrr : cy i = us at *
      have wi : IntKind.i64.wrap ((i : Int) + 1) = (i : Int) + 1 := wrap_id (by omega) (by omega)
      have hh := rhang_ok hL [n] (by simp)
      have hhl := hangL_len L [n]
      have hc := rhas_ok (hangL L [n]) n (by omega)
      have hd : decide (n ∈ hangL L [n]) = onCyc L n := by unfold onCyc; rw [decide_eq_decide]
      rw [hd] at hc
      simp only [List.map_cons, List.map_nil] at hh
      have htk : (((nodesL L).map vi).take (i + 1)).drop i = [vi n] := by
        rw [List.take_add_one, List.getElem?_map, hng, List.drop_append_of_le_length (by simp; omega)]
        simp
      have h0i : (0 : Int) ≤ i + 1 := by omega
      have hi1 : i + 1 ≤ (nodesL L).length := by omega
      have hi1i : (i : Int) + 1 ≤ (nodesL L).length := by omega
      have hi1n : ((i : Int) + 1).toNat = i + 1 := by omega
      have hi1s : i + 1 - i = 1 := by omega
      have hile : (i : Int) ≤ i + 1 := by omega
      cases hm : onCyc L n with
      | true =>
        rw [hm] at hc
        rw [if_pos hm] at hsu
        repeat' first | refine aw_W [] (And.intro @hlt (And.intro @hlti (And.intro @hn (And.intro @hng (And.intro @hnv (And.intro @wi (And.intro @htk (And.intro @hi1 @h0i)))))))) (And.intro @hh (And.intro @hc trivial)) ?_ | refine aw_cond rfl (fun h => ?_) (fun h => ?_)
        refine awl_append [] rfl rfl rfl (xs := us.map vi) (by simp) (by simp) rfl (by simp) te23 tet23 tz3 rfl (fun y hy => by obtain ⟨_, _, rfl⟩ := List.mem_map.1 hy; rfl) (by simp) (by simp; omega) (by simp; omega) ?_
        simp -implicitDefEqProofs
        repeat' first | refine aw_W [] @wi trivial ?_ | refine aw_cond rfl (fun h => ?_) (fun h => ?_)
        exact ⟨q - 1, by omega, mkSt [] [(M, (us ++ [n]).map vi)] (M + 1), le_mkSt (by simp) (by simp [List.take_of_length_le, ASt.addSl]) (by simp [ASt.addSl]), i + 1, M, M + 1, by omega, by omega, by rw [hsu], by rw [hsu]; simp⟩
      | false =>
        rw [hm] at hc
        rw [if_neg (by rw [hm]; simp)] at hsu
        repeat' first | refine aw_W [] (And.intro @hlt (And.intro @hlti (And.intro @hn (And.intro @hng (And.intro @hnv (And.intro @wi (And.intro @htk (And.intro @hi1 @h0i)))))))) (And.intro @hh (And.intro @hc trivial)) ?_ | refine aw_cond rfl (fun h => ?_) (fun h => ?_)
        exact ⟨q - 1, by omega, mkSt [] [(b, us.map vi)] M, le_mkSt (by simp) (by simp) (by simp), i + 1, b, M, by omega, by omega, by rw [hsu], by rw [hsu]; simp⟩
    · have hlti : ¬ (i : Int) < (nodesL L).length := by omega
      obtain rfl : i = (nodesL L).length := by omega
      repeat' first | refine aw_V [] (And.intro @hlti @hnv) trivial ?_ | refine aw_cond rfl (fun h => ?_) (fun h => ?_)
      all_goals first | (simp [tupOf, List.take_of_length_le]; done) | trace_state
end Go.AL
/-! Contracts: gridironref12's ready, Order. -/
namespace Go.AL
open Go.Proofs
set_option linter.unusedSimpArgs false
set_option linter.unusedVariables false
def rdyB (L : List Lnk) (cyc told : List Int) (r : Int) : Bool := !(inG L r && !decide (r ∈ cyc) && !decide (r ∈ told))
set_option maxHeartbeats 16000000 in
set_option maxRecDepth 100000 in
theorem rready_ok {L : List Lnk} (hL : GOk L) (x : Lnk) (cyc told : List Int) (hx : x.2.length ≤ 1000) (hcy : cyc.length ≤ 1000) (hto : told.length ≤ 1000) : APure Try.prog 35 [.vsl (lks L), lnk x, .vsl (cyc.map vi), .vsl (told.map vi)] (vb (x.2.all fun r => rdyB L cyc told r)) := by
  obtain ⟨a, l⟩ := x
  have hvl : (l.map vi).length = l.length := List.length_map _
  have hLl := hL.len
  have hlk : lnk (a, l) = .agg [vi a, .vsl (l.map vi)] := rfl
  rw [hlk]
  simp only at hx
  refine apure_in Try.func35 Try.ntmps35 rfl ?_
  repeat' first | refine aw_N [10] trivial trivial ?_ | refine aw_cond rfl (fun h => ?_) (fun h => ?_)
  refine aw_loopW [0, 2, 3, 5, 9] (fun q fr σ => ∃ i M : Nat, i + q = l.length ∧ (∀ y ∈ l.take i, rdyB L cyc told y = true) ∧ σ = mkSt [] [] M ∧ fr = frm 54 [(0, .vsl (lks L)), (2, .vsl (cyc.map vi)), (3, .vsl (told.map vi)), (5, .vel [.agg [vi a, .vsl (l.map vi)]] 0 0), (9, vi (i : Nat))]) l.length ?_ ?_
  · exact ⟨mkSt [] [] 0, le_mkSt (by simp) (by simp) (by simp [σ0]), 0, 0, by omega, by simp, rfl, by simp⟩
  · rintro q fr σ ⟨i, M, hi, hxx, rfl, rfl⟩
    simp -implicitDefEqProofs
    by_cases hlt : i < l.length
    · have hlti : (i : Int) < l.length := by omega
      obtain ⟨t, ht⟩ : ∃ t, l[i] = t := ⟨_, rfl⟩
      have hgt : l[i]? = some t := by rw [List.getElem?_eq_getElem hlt, ht]
      have wi : IntKind.i64.wrap ((i : Int) + 1) = (i : Int) + 1 := wrap_id (by omega) (by omega)
      have hf := rfind_ok L t (by omega)
      have hB := rhas_ok cyc t (by omega)
      have hC := rhas_ok told t (by omega)
      by_cases hm : t ∈ L.map Prod.fst
      · obtain ⟨⟨a2, l2⟩, hp, hpe⟩ := List.mem_map.1 hm
        simp only at hpe
        subst hpe
        have hfv := fndV_some hL.nd hp
        simp only at hfv
        rw [hfv, show lnk (a2, l2) = .agg [vi a2, .vsl (l2.map vi)] from rfl] at hf
        have hu : inG L a2 = true := decide_eq_true hm
        cases hr2 : decide (a2 ∈ cyc) <;> cases hr3 : decide (a2 ∈ told)
        · rw [hr2] at hB
          rw [hr3] at hC
          have hm : (l.all fun r => rdyB L cyc told r) = false := by
            rw [List.all_eq_false]
            refine ⟨a2, List.mem_of_getElem? hgt, ?_⟩
            unfold rdyB
            rw [hu, hr2, hr3]; decide
          rw [hm]
          repeat' first | refine aw_N [10] (And.intro @hlt (And.intro @hlti (And.intro @ht (And.intro @hgt (And.intro @hvl @wi))))) (And.intro @hf (And.intro @hB (And.intro @hC trivial))) ?_ | refine aw_cond rfl (fun h => ?_) (fun h => ?_)
          all_goals first | rfl | (simp [tupOf]; done) | trace_state
        · rw [hr2] at hB
          rw [hr3] at hC
          have hx1 : ∀ y ∈ l.take (i + 1), rdyB L cyc told y = true := by
            rw [List.take_add_one, hgt, Option.toList_some]
            intro y hy
            rcases List.mem_append.1 hy with hy | hy
            · exact hxx y hy
            · obtain rfl := List.mem_singleton.1 hy
              unfold rdyB
              rw [hu, hr2, hr3]; rfl
          repeat' first | refine aw_N [10] (And.intro @hlt (And.intro @hlti (And.intro @ht (And.intro @hgt (And.intro @hvl @wi))))) (And.intro @hf (And.intro @hB (And.intro @hC trivial))) ?_ | refine aw_cond rfl (fun h => ?_) (fun h => ?_)
          exact ⟨q - 1, by omega, mkSt [] [] (M + 1), le_mkSt (by simp) (by simp) (by simp), i + 1, by omega, hx1, ⟨M + 1, rfl⟩, by simp⟩
        · rw [hr2] at hB
          rw [hr3] at hC
          have hx1 : ∀ y ∈ l.take (i + 1), rdyB L cyc told y = true := by
            rw [List.take_add_one, hgt, Option.toList_some]
            intro y hy
            rcases List.mem_append.1 hy with hy | hy
            · exact hxx y hy
            · obtain rfl := List.mem_singleton.1 hy
              unfold rdyB
              rw [hu, hr2, hr3]; rfl
          repeat' first | refine aw_N [10] (And.intro @hlt (And.intro @hlti (And.intro @ht (And.intro @hgt (And.intro @hvl @wi))))) (And.intro @hf (And.intro @hB (And.intro @hC trivial))) ?_ | refine aw_cond rfl (fun h => ?_) (fun h => ?_)
          exact ⟨q - 1, by omega, mkSt [] [] (M + 1), le_mkSt (by simp) (by simp) (by simp), i + 1, by omega, hx1, ⟨M + 1, rfl⟩, by simp⟩
        · rw [hr2] at hB
          rw [hr3] at hC
          have hx1 : ∀ y ∈ l.take (i + 1), rdyB L cyc told y = true := by
            rw [List.take_add_one, hgt, Option.toList_some]
            intro y hy
            rcases List.mem_append.1 hy with hy | hy
            · exact hxx y hy
            · obtain rfl := List.mem_singleton.1 hy
              unfold rdyB
              rw [hu, hr2, hr3]; rfl
          repeat' first | refine aw_N [10] (And.intro @hlt (And.intro @hlti (And.intro @ht (And.intro @hgt (And.intro @hvl @wi))))) (And.intro @hf (And.intro @hB (And.intro @hC trivial))) ?_ | refine aw_cond rfl (fun h => ?_) (fun h => ?_)
          exact ⟨q - 1, by omega, mkSt [] [] (M + 1), le_mkSt (by simp) (by simp) (by simp), i + 1, by omega, hx1, ⟨M + 1, rfl⟩, by simp⟩
      · have hfv := fndV_none hm
        rw [hfv, show lnk0 = .agg [vi 0, .p (.slice none 0 0)] from rfl] at hf
        have hu : inG L t = false := decide_eq_false hm
        cases hr2 : decide (t ∈ cyc) <;> cases hr3 : decide (t ∈ told)
        · rw [hr2] at hB
          rw [hr3] at hC
          have hx1 : ∀ y ∈ l.take (i + 1), rdyB L cyc told y = true := by
            rw [List.take_add_one, hgt, Option.toList_some]
            intro y hy
            rcases List.mem_append.1 hy with hy | hy
            · exact hxx y hy
            · obtain rfl := List.mem_singleton.1 hy
              unfold rdyB
              rw [hu, hr2, hr3]; rfl
          repeat' first | refine aw_N [10] (And.intro @hlt (And.intro @hlti (And.intro @ht (And.intro @hgt (And.intro @hvl @wi))))) (And.intro @hf (And.intro @hB (And.intro @hC trivial))) ?_ | refine aw_cond rfl (fun h => ?_) (fun h => ?_)
          exact ⟨q - 1, by omega, mkSt [] [] (M + 1), le_mkSt (by simp) (by simp) (by simp), i + 1, by omega, hx1, ⟨M + 1, rfl⟩, by simp⟩
        · rw [hr2] at hB
          rw [hr3] at hC
          have hx1 : ∀ y ∈ l.take (i + 1), rdyB L cyc told y = true := by
            rw [List.take_add_one, hgt, Option.toList_some]
            intro y hy
            rcases List.mem_append.1 hy with hy | hy
            · exact hxx y hy
            · obtain rfl := List.mem_singleton.1 hy
              unfold rdyB
              rw [hu, hr2, hr3]; rfl
          repeat' first | refine aw_N [10] (And.intro @hlt (And.intro @hlti (And.intro @ht (And.intro @hgt (And.intro @hvl @wi))))) (And.intro @hf (And.intro @hB (And.intro @hC trivial))) ?_ | refine aw_cond rfl (fun h => ?_) (fun h => ?_)
          exact ⟨q - 1, by omega, mkSt [] [] (M + 1), le_mkSt (by simp) (by simp) (by simp), i + 1, by omega, hx1, ⟨M + 1, rfl⟩, by simp⟩
        · rw [hr2] at hB
          rw [hr3] at hC
          have hx1 : ∀ y ∈ l.take (i + 1), rdyB L cyc told y = true := by
            rw [List.take_add_one, hgt, Option.toList_some]
            intro y hy
            rcases List.mem_append.1 hy with hy | hy
            · exact hxx y hy
            · obtain rfl := List.mem_singleton.1 hy
              unfold rdyB
              rw [hu, hr2, hr3]; rfl
          repeat' first | refine aw_N [10] (And.intro @hlt (And.intro @hlti (And.intro @ht (And.intro @hgt (And.intro @hvl @wi))))) (And.intro @hf (And.intro @hB (And.intro @hC trivial))) ?_ | refine aw_cond rfl (fun h => ?_) (fun h => ?_)
          exact ⟨q - 1, by omega, mkSt [] [] (M + 1), le_mkSt (by simp) (by simp) (by simp), i + 1, by omega, hx1, ⟨M + 1, rfl⟩, by simp⟩
        · rw [hr2] at hB
          rw [hr3] at hC
          have hx1 : ∀ y ∈ l.take (i + 1), rdyB L cyc told y = true := by
            rw [List.take_add_one, hgt, Option.toList_some]
            intro y hy
            rcases List.mem_append.1 hy with hy | hy
            · exact hxx y hy
            · obtain rfl := List.mem_singleton.1 hy
              unfold rdyB
              rw [hu, hr2, hr3]; rfl
          repeat' first | refine aw_N [10] (And.intro @hlt (And.intro @hlti (And.intro @ht (And.intro @hgt (And.intro @hvl @wi))))) (And.intro @hf (And.intro @hB (And.intro @hC trivial))) ?_ | refine aw_cond rfl (fun h => ?_) (fun h => ?_)
          exact ⟨q - 1, by omega, mkSt [] [] (M + 1), le_mkSt (by simp) (by simp) (by simp), i + 1, by omega, hx1, ⟨M + 1, rfl⟩, by simp⟩
    · have hlti : ¬ (i : Int) < l.length := by omega
      rw [List.take_of_length_le (by omega)] at hxx
      have hm : (l.all fun r => rdyB L cyc told r) = true := List.all_eq_true.2 hxx
      rw [hm]
      repeat' first | refine aw_N [10] (And.intro @hlti @hvl) trivial ?_ | refine aw_cond rfl (fun h => ?_) (fun h => ?_)
      all_goals first | rfl | (simp [tupOf]; done) | trace_state
end Go.AL
