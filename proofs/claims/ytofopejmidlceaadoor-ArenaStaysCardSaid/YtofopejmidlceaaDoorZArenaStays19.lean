/- Parts of the proof of ArenaStays: the logic, contracts, plain laws. -/
import Derived.Test.YtofopejmidlceaaDoorZArenaStays18
import Derived.Test.YtofopejmidlceaaDoorZArenaStays11
/-! gridironlaw09.alive: what its acts come to, plainly; memory with the program's arena alone. -/
namespace Go.AL
open Go.Proofs
set_option linter.unusedSimpArgs false
set_option linter.unusedVariables false
theorem put_new {s : PS} {x : Nd} (hA : AI s.M s.N s.c) (hno : ∀ n, gotK s.M n ≠ some (resN s.hs x)) {h0 : Int} (h1 : gotK s.M h0 = none) (h2 : 1 ≤ h0) (h3 : ∀ k, 1 ≤ k → k < h0 → (gotK s.M k).isSome = true) :
    (s.put x).M = putK s.M h0 (resN s.hs x) ∧ (s.put x).hs = s.hs ++ [h0] ∧ (s.put x).gs = s.gs ++ [h0] := by
  obtain ⟨n1, n2, n3, n4⟩ := hA.next
  have hh : hN s.M s.c = h0 := by
    rcases Int.lt_trichotomy (hN s.M s.c) h0 with h | h | h
    · have := h3 _ n1 h
      rw [n3] at this; cases this
    · exact h
    · have := n4 _ h2 h
      rw [h1] at this; cases this
  have hg : gotT s.N (nmB (resN s.hs x)) = none := by
    cases e : gotT s.N (nmB (resN s.hs x)) with
    | none => rfl
    | some k =>
      obtain ⟨y, e1, e2⟩ := hA.bwd _ _ e
      obtain rfl := nmB_inj e2
      exact absurd e1 (hno k)
  unfold PS.put
  rw [hg, hh]
  exact ⟨rfl, rfl, rfl⟩
theorem put_old {s : PS} {x : Nd} (hA : AI s.M s.N s.c) {h : Int} (h1 : gotK s.M h = some (resN s.hs x)) : s.put x = { s with hs := s.hs ++ [h] } := by
  unfold PS.put
  rw [hA.fwd _ _ h1]
theorem livL_is {M : Nods} (hn : (M.map Prod.fst).Nodup) {L : List Int} (h1 : L.Pairwise (· < ·)) (h2 : ∀ x, x ∈ L ↔ (gotK M x).isSome = true) : livL M = L := rise_ext (livL_lt hn) h1 fun x => by rw [mem_livL, h2]
def nA : Nd := ⟨1, [], [], ⟨#[120]⟩⟩
def nB : Nd := ⟨2, [-1, 0], [5], ⟨#[]⟩⟩
def nB' : Nd := ⟨2, [1, 0], [5], ⟨#[]⟩⟩
def nC : Nd := ⟨3, [], [], ⟨#[]⟩⟩
def nD : Nd := ⟨4, [], [], ⟨#[]⟩⟩
def nF : Nd := ⟨0, [3], [], ⟨#[]⟩⟩
def nE : Nd := ⟨7, [1], [], ⟨#[]⟩⟩
theorem okA : NdOk nA := ⟨by decide, by simp [nA], by simp [nA], by simp [nA], by simp [nA], by decide⟩
theorem okB : NdOk nB := ⟨by decide, by simp [nB], by simp [nB], by simp [nB], by simp [nB], by decide⟩
theorem okC : NdOk nC := ⟨by decide, by simp [nC], by simp [nC], by simp [nC], by simp [nC], by decide⟩
theorem okD : NdOk nD := ⟨by decide, by simp [nD], by simp [nD], by simp [nD], by simp [nD], by decide⟩
theorem okF : NdOk nF := ⟨by decide, by simp [nF], by simp [nF], by simp [nF], by simp [nF], by decide⟩
theorem okE : NdOk nE := ⟨by decide, by simp [nE], by simp [nE], by simp [nE], by simp [nE], by decide⟩
theorem lok_of {M : Nods} {N : Nms} {c : Int} (h : AI M N c) (hm : M.length ≤ 10) {l : List Nd} (hl : l.length ≤ 10) (hx : ∀ x ∈ l, NdOk x) : LOk M N c 3 l := ⟨h, by omega, by omega, hx, by omega⟩
def got1 (n : Int) : Option Nd := if n = 1 then some nA else if n = 2 then some nB' else none
theorem alive_s1 : ∃ s, (ps0 [] [] 1).puts [nA, nB, nA] = s ∧ s.hs = [1, 2, 1] ∧ AI s.M s.N s.c ∧ (∀ n, gotK s.M n = got1 n) ∧ s.M.length = 2 := by
  refine ⟨_, rfl, ?_⟩
  have hL := lok_of AI.empty (by simp) (l := [nA, nB, nA]) (by simp) (by intro x hx; simp at hx; rcases hx with rfl | rfl | rfl <;> first | exact okA | exact okB)
  have p1 := (PI.puts hL 1 (by simp)).1
  have p2 := (PI.puts hL 2 (by simp)).1
  have p3 := (PI.puts hL 3 (by simp)).1
  have e1 : (ps0 [] [] 1).puts ([nA, nB, nA].take 1) = (ps0 [] [] 1).put nA := rfl
  have e2 : (ps0 [] [] 1).puts ([nA, nB, nA].take 2) = ((ps0 [] [] 1).put nA).put nB := rfl
  have e3 : (ps0 [] [] 1).puts ([nA, nB, nA].take 3) = (((ps0 [] [] 1).put nA).put nB).put nA := rfl
  have e4 : (ps0 [] [] 1).puts [nA, nB, nA] = (((ps0 [] [] 1).put nA).put nB).put nA := rfl
  rw [e1] at p1
  rw [e2] at p2
  rw [e3] at p3
  rw [e4]
  obtain ⟨a1, a2, a3⟩ := put_new (s := ps0 [] [] 1) (x := nA) AI.empty (fun n => by simp [ps0, gotK]) (h0 := 1) (by simp [ps0, gotK]) (by omega) (fun k h1 h2 => by omega)
  generalize (ps0 [] [] 1).put nA = s1 at *
  have g1 : ∀ n, gotK s1.M n = if 1 = n then some nA else none := fun n => by rw [a1, gotK_put]; rfl
  have r2 : resN s1.hs nB = nB' := by rw [a2]; rfl
  obtain ⟨b1, b2, b3⟩ := put_new (s := s1) (x := nB) p1.ai (fun n => by rw [g1, r2]; split <;> simp [nA, nB']) (h0 := 2) (by rw [g1]; rfl) (by omega) (fun k h1 h2 => by
    obtain rfl : k = 1 := by omega
    rw [g1]; rfl)
  generalize s1.put nB = s2 at *
  have g2 : ∀ n, gotK s2.M n = got1 n := fun n => by
    rw [b1, gotK_put, r2, g1, got1]
    by_cases h1 : n = 1
    · subst h1; rfl
    · by_cases h2 : n = 2
      · subst h2; rfl
      · simp [h1, h2, Ne.symm h1, Ne.symm h2]
  have r3 : resN s2.hs nA = nA := by rfl
  have o3 := put_old (s := s2) (x := nA) p2.ai (h := 1) (by rw [g2, r3]; rfl)
  rw [o3]
  have hl : livL s2.M = [1, 2] := livL_is p2.ai.ndM (by simp) fun x => by
    rw [g2, got1]
    by_cases h1 : x = 1
    · simp [h1]
    · by_cases h2 : x = 2
      · simp [h2]
      · simp [h1, h2]
  refine ⟨by simp [b2, a2, ps0], p2.ai, g2, ?_⟩
  have := livL_len s2.M
  rw [hl] at this
  exact this.symm
theorem alive_s2 {M : Nods} {N : Nms} {c : Int} (hA : AI M N c) (hg : ∀ n, gotK M n = got1 n) (hm : M.length = 2) : ∃ s d, (ps0 M N c).puts [nC, nD] = s ∧ 3 < s.M.length ∧ (⟨s.M, s.N, s.c⟩ : AS).drops s.gs = d ∧ AI d.M d.N d.c ∧ ∀ n, gotK d.M n = got1 n := by
  refine ⟨_, _, rfl, ?_, rfl, ?_⟩
  · have hL := lok_of hA (by omega) (l := [nC, nD]) (by simp) (by intro x hx; simp at hx; rcases hx with rfl | rfl <;> first | exact okC | exact okD)
    have p1 := (PI.puts hL 1 (by simp)).1
    have p2 := (PI.puts hL 2 (by simp)).1
    have e1 : (ps0 M N c).puts ([nC, nD].take 1) = (ps0 M N c).put nC := rfl
    have e2 : (ps0 M N c).puts ([nC, nD].take 2) = ((ps0 M N c).put nC).put nD := rfl
    have e4 : (ps0 M N c).puts [nC, nD] = ((ps0 M N c).put nC).put nD := rfl
    rw [e1] at p1
    rw [e2] at p2
    rw [e4]
    have g0 : ∀ n, gotK (ps0 M N c).M n = got1 n := hg
    have r1 : resN (ps0 M N c).hs nC = nC := rfl
    obtain ⟨a1, a2, a3⟩ := put_new (s := ps0 M N c) (x := nC) hA (fun n => by rw [g0, r1, got1]; split <;> (try split) <;> simp [nA, nB', nC]) (h0 := 3) (by rw [g0]; rfl) (by omega) (fun k h1 h2 => by
      rw [g0, got1]
      by_cases h1 : k = 1
      · simp [h1]
      · simp [show k = 2 by omega])
    generalize (ps0 M N c).put nC = s1 at *
    have g1 : ∀ n, gotK s1.M n = if 3 = n then some nC else got1 n := fun n => by rw [a1, gotK_put, r1, g0]
    have r2 : resN s1.hs nD = nD := rfl
    obtain ⟨b1, b2, b3⟩ := put_new (s := s1) (x := nD) p1.ai (fun n => by rw [g1, r2]; split <;> (try unfold got1) <;> (try split) <;> (try split) <;> simp [nA, nB', nC, nD]) (h0 := 4) (by rw [g1]; rfl) (by omega) (fun k h1 h2 => by
      rw [g1, got1]
      by_cases h1 : k = 1
      · simp [h1]
      · by_cases h2 : k = 2
        · simp [h2]
        · simp [show k = 3 by omega])
    generalize s1.put nD = s2 at *
    have g2 : ∀ n, gotK s2.M n = if 4 = n then some nD else if 3 = n then some nC else got1 n := fun n => by rw [b1, gotK_put, r2, g1]
    have := sub_len [1, 2, 3, 4] (s2.M.map Prod.fst) (by simp) fun x hx => gotK_mem.1 (by
      simp only [List.mem_cons, List.not_mem_nil, or_false] at hx
      rw [g2, got1]
      rcases hx with rfl | rfl | rfl | rfl <;> rfl)
    simp only [List.length_map, List.length_cons, List.length_nil] at this
    omega
  · have hL := lok_of hA (by omega) (l := [nC, nD]) (by simp) (by intro x hx; simp at hx; rcases hx with rfl | rfl <;> first | exact okC | exact okD)
    obtain ⟨b1, b2⟩ := back_got (room := 3) (by exact_mod_cast hL) (s := (ps0 M N c).puts [nC, nD]) rfl rfl
    exact ⟨b1, fun n => by rw [b2, hg]⟩
def got3 (n : Int) : Option Nd := if n = 1 then some nA else none
theorem alive_s3 {M : Nods} {N : Nms} {c : Int} (hA : AI M N c) (hg : ∀ n, gotK M n = got1 n) : ∃ D d, (livL M).filter (fun x => !decide (x ∈ rchL M [1])) = D ∧ D.length = 1 ∧ (⟨M, N, c⟩ : AS).drops D = d ∧ AI d.M d.N d.c ∧ (∀ n, gotK d.M n = got3 n) ∧ d.M.length = 1 := by
  have hl : livL M = [1, 2] := livL_is hA.ndM (by simp) fun x => by
    rw [hg, got1]
    by_cases h1 : x = 1
    · simp [h1]
    · by_cases h2 : x = 2
      · simp [h2]
      · simp [h1, h2]
  have hr : ∀ x, Rch M [1] x → x = 1 := fun x h => by
    induction h with
    | root h hm _ => simpa using hm
    | step h y r _ hy hr _ ih =>
      subst ih
      rw [hg] at hy
      have : y = nA := by simpa [got1] using hy.symm
      subst this
      simp [nA] at hr
  have h1 : Rch M [1] 1 := .root 1 (by simp) (by rw [hg]; rfl)
  have m1 : (1 : Int) ∈ rchL M [1] := mem_rchL.2 h1
  have m2 : ¬ (2 : Int) ∈ rchL M [1] := fun h => by have := hr _ (mem_rchL.1 h); omega
  have hD : (livL M).filter (fun x => !decide (x ∈ rchL M [1])) = [2] := by rw [hl]; simp [List.filter_cons, m1, m2]
  obtain ⟨b1, b2⟩ := swept_got hA (on := [1]) hD rfl
  have b3 : ∀ n, gotK ((⟨M, N, c⟩ : AS).drops [2]).M n = got3 n := fun n => by
    rw [b2, hg]
    by_cases e : n = 1
    · subst e; rw [if_pos m1]; rfl
    · rw [if_neg (fun h => e (hr _ (mem_rchL.1 h)))]; simp [got3, e]
  refine ⟨_, _, hD, rfl, rfl, b1, b3, ?_⟩
  have hl3 : livL ((⟨M, N, c⟩ : AS).drops [2]).M = [1] := livL_is b1.ndM (by simp) fun x => by
    rw [b3, got3]
    by_cases h1 : x = 1
    · simp [h1]
    · simp [h1]
  have := livL_len ((⟨M, N, c⟩ : AS).drops [2]).M
  rw [hl3] at this
  exact this.symm
theorem alive_s4 {M : Nods} {N : Nms} {c : Int} (hA : AI M N c) (hg : ∀ n, gotK M n = got3 n) (hm : M.length = 1) : ∃ s, (ps0 M N c).puts [nE] = s ∧ s.hs = [2] ∧ AI s.M s.N s.c ∧ gotK s.M 2 = some nE ∧ s.M.length = 2 := by
  refine ⟨_, rfl, ?_⟩
  have hL := lok_of hA (by omega) (l := [nE]) (by simp) (by intro x hx; simp at hx; subst hx; exact okE)
  have p1 := (PI.puts hL 1 (by simp)).1
  have e1 : (ps0 M N c).puts ([nE].take 1) = (ps0 M N c).put nE := rfl
  have e4 : (ps0 M N c).puts [nE] = (ps0 M N c).put nE := rfl
  rw [e1] at p1
  rw [e4]
  have g0 : ∀ n, gotK (ps0 M N c).M n = got3 n := hg
  have r1 : resN (ps0 M N c).hs nE = nE := rfl
  obtain ⟨a1, a2, a3⟩ := put_new (s := ps0 M N c) (x := nE) hA (fun n => by rw [g0, r1, got3]; split <;> simp [nA, nE]) (h0 := 2) (by rw [g0]; rfl) (by omega) (fun k h1 h2 => by
    obtain rfl : k = 1 := by omega
    rw [g0]; rfl)
  generalize (ps0 M N c).put nE = s1 at *
  have g1 : ∀ n, gotK s1.M n = if 2 = n then some nE else got3 n := fun n => by rw [a1, gotK_put, r1, g0]
  have hl3 : livL s1.M = [1, 2] := livL_is p1.ai.ndM (by simp) fun x => by
    rw [g1, got3]
    by_cases h1 : x = 1
    · simp [h1]
    · by_cases h2 : x = 2
      · simp [h2]
      · simp [h1, h2, Ne.symm h2]
  have := livL_len s1.M
  rw [hl3] at this
  exact ⟨by simp [a2, ps0], p1.ai, by rw [g1]; rfl, this.symm⟩
end Go.AL
/-! What one holds, said more softly. -/
namespace Go.AL
set_option linter.unusedVariables false
theorem awl_soft {P : Program} {σ : ASt} {D : List Deferred} {Q : Exit → List AV → ASt → Prop} {fr : List AV} {ops : Array Oper} {l : List Oper} (i : Nat) {c c' : AV} (hi : fr[i]? = some c) (hc : ∀ G w v, Rep G w c v → Rep G w c' v) (h : AWL P D ops Q l (fr.set i c') σ) : AWL P D ops Q l fr σ := by
  intro G a w hs
  refine h G a w ⟨⟨by simpa using hs.tmps.1, fun j c1 v h1 hv => ?_⟩, hs.defers, hs.w⟩
  rw [List.getElem?_set] at h1
  split at h1
  · rename_i e
    subst e
    split at h1
    · obtain rfl := Option.some.inj h1
      exact hc G w v (hs.tmps.2 i c v hi hv)
    · cases h1
  · exact hs.tmps.2 j c1 v h1 hv
end Go.AL
/-! gridironlaw09.alive. -/
namespace Go.AL
open Go.Proofs
set_option linter.unusedSimpArgs false
set_option linter.unusedVariables false
/-- The program's arena, number 2 (maps 0 and 1), and some boxes and slices beside it. -/
def laS (room : Int) (es fs : List (AV × AV)) (c : Int) (bs ss : List (Nat × List AV)) (m : Nat) : ASt := ⟨fun i => if i = 2 then some [vi room, .map 0, .map 1, vi c] else lkN bs i, fun i => if i = 0 then some es else if i = 1 then some fs else none, fun i => lkN ss i, m⟩
section
variable (room : Int) (es fs : List (AV × AV)) (c : Int) (bs ss : List (Nat × List AV)) (m i : Nat)
@[simp] theorem laS_bx : (laS room es fs c bs ss m).bx i = if i = 2 then some [vi room, .map 0, .map 1, vi c] else lkN bs i := rfl
@[simp] theorem laS_mp : (laS room es fs c bs ss m).mp i = if i = 0 then some es else if i = 1 then some fs else none := rfl
@[simp] theorem laS_sl : (laS room es fs c bs ss m).sl i = lkN ss i := rfl
@[simp] theorem laS_next : (laS room es fs c bs ss m).next = m := rfl
end
theorem le_laS {room : Int} {es fs : List (AV × AV)} {c : Int} {bs ss : List (Nat × List AV)} {m : Nat} {σ : ASt} (h1 : σ.bx 2 = some [vi room, .map 0, .map 1, vi c]) (h3 : σ.mp 0 = some es) (h4 : σ.mp 1 = some fs) (h5 : ∀ p ∈ ss, σ.sl p.1 = some p.2) (h7 : ∀ p ∈ bs, σ.bx p.1 = some p.2) (h8 : σ.next ≤ m) : (laS room es fs c bs ss m).Le σ where
  bx := fun i cs e => by
    simp only [laS_bx] at e
    split at e
    · rename_i hi; subst hi; rw [h1]; exact e
    · exact h7 _ (lkN_mem e)
  mp := fun i cs e => by
    simp only [laS_mp] at e
    split at e
    · rename_i hi; subst hi; rw [h3]; exact e
    · split at e
      · rename_i hi; subst hi; rw [h4]; exact e
      · cases e
  sl := fun i cs e => h5 _ (lkN_mem e)
  next := h8
section
variable {room : Int} {es fs : List (AV × AV)} {c : Int} {bs ss : List (Nat × List AV)} {m : Nat}
theorem at_laS (h1 : ∀ p ∈ bs, 2 < p.1) (h2 : ∀ p ∈ ss, 2 < p.1) : ArAt (laS room es fs c bs ss m) 2 0 1 room es fs c := by
  have b0 : lkN bs 0 = none := lkN_lo fun p hp => by have := h1 p hp; omega
  have b1 : lkN bs 1 = none := lkN_lo fun p hp => by have := h1 p hp; omega
  have s0 : lkN ss 0 = none := lkN_lo fun p hp => by have := h2 p hp; omega
  have s1 : lkN ss 1 = none := lkN_lo fun p hp => by have := h2 p hp; omega
  have s2 : lkN ss 2 = none := lkN_lo fun p hp => by have := h2 p hp; omega
  exact ⟨by simp, by simp, by simp, by omega, by omega, by omega, by simp [s2], by simp [b0, s0], by simp [b1, s1]⟩
@[simp] theorem laS_ar (es' fs' : List (AV × AV)) (c' : Int) : (laS room es fs c bs ss m).ar 2 0 1 room es' fs' c' = laS room es' fs' c' bs ss m := by
  unfold ASt.ar laS
  congr 1
  · funext i
    by_cases h : i = 2
    · subst h; simp [upd]
    · simp [upd, h]
  · funext i
    by_cases h2 : i = 1
    · subst h2; simp [upd]
    · by_cases h1 : i = 0
      · subst h1; simp [upd]
      · simp [upd, h1, h2]
end
/-- A node as a text has it: what is nil is empty. -/
def ndS (p : Nd × Bool × Bool) : AV := .agg [vi p.1.k, if p.2.1 = true then .p (.slice none 0 0) else .vsl (p.1.refs.map vi), if p.2.2 = true then .p (.slice none 0 0) else .vsl (p.1.nums.map vi), vs p.1.text]
theorem rep_ndS {G : Ghost} {w : World} {l : List (Nd × Bool × Bool)} (h : ∀ p ∈ l, (p.2.1 = true → p.1.refs = []) ∧ (p.2.2 = true → p.1.nums = [])) {v : Value} (hr : Rep G w (.vsl (l.map ndS)) v) : Rep G w (.vsl (l.map fun p => ndA p.1)) v := by
  have soft : ∀ (i j : Nat) c', rowCell (l.map fun p => ndA p.1) i j = some c' → ∃ c, rowCell (l.map ndS) i j = some c ∧ ∀ u, Rep G w c u → Rep G w c' u := by
    intro i j c' hc
    unfold rowCell at hc ⊢
    rw [List.getElem?_map] at hc ⊢
    cases hl : l[i]? with
    | none => rw [hl] at hc; cases hc
    | some p =>
      rw [hl] at hc
      obtain ⟨h1, h2⟩ := h p (List.mem_of_getElem? hl)
      simp only [Option.map_some, Option.bind_some] at hc ⊢
      match j, hc with
      | 0, hc => cases hc; exact ⟨_, rfl, fun u hu => hu⟩
      | 1, hc =>
        cases hc
        refine ⟨_, rfl, fun u hu => ?_⟩
        split at hu
        · rename_i e; rw [h1 e]; exact rep_nil hu
        · exact hu
      | 2, hc =>
        cases hc
        refine ⟨_, rfl, fun u hu => ?_⟩
        split at hu
        · rename_i e; rw [h2 e]; exact rep_nil hu
        · exact hu
      | 3, hc => cases hc; exact ⟨_, rfl, fun u hu => hu⟩
      | j + 4, hc => simp [ndA, AV.cells] at hc
  generalize hx : l.map ndS = xs at hr
  cases hr with
  | vnil a cap =>
    obtain rfl := List.map_eq_nil_iff.1 hx
    exact .vnil a cap
  | vsl _ β o s cap val hcap hs h1 h2 =>
    subst hx
    rw [show (l.map ndS).length = (l.map fun p => ndA p.1).length by simp]
    refine .vsl _ β o s cap val (by simpa using hcap) (fun i x hx => ?_) (fun i j c hc => ?_) (fun i j c hc => ?_)
    · rw [List.getElem?_map] at hx
      obtain ⟨p, hp, rfl⟩ := Option.map_eq_some_iff.1 hx
      have := hs i (ndS p) (by rw [List.getElem?_map, hp]; rfl)
      rw [← this]; rfl
    · obtain ⟨c0, q1, _⟩ := soft i j c hc
      exact h1 i j c0 q1
    · obtain ⟨c0, q1, q2⟩ := soft i j c hc
      exact q2 _ (h2 i j c0 q1)
set_option maxHeartbeats 16000000 in
set_option maxRecDepth 100000 in
theorem alive9_ok : APure Tryd.prog 6 [] (vb true) := by
  obtain ⟨s1, q1, hs1, ai1, g1, m1⟩ := alive_s1
  refine apure_in Tryd.func6 Tryd.ntmps6 rfl ?_
  repeat' first | refine aw_N [13] trivial trivial ?_ | refine aw_cond rfl (fun h => ?_) (fun h => ?_)
  refine awl_cons rfl (opq_call rfl rfl rfl ((anew_ok 3 (by omega) _).mono fun r τ ⟨e1, e2⟩ => ?_))
  subst e1 e2
  refine AWL.less (τ := laS 3 (esK ndA []) (esT vi []) 1 [] [] 3) (le_laS (by simp [ASt.addMp, ASt.addBx, σ0]) (by simp [ASt.addMp, ASt.addBx, σ0, esK, upd]) (by simp [ASt.addMp, ASt.addBx, σ0, esT, upd]) (by simp) (by simp) (by simp [ASt.addMp, ASt.addBx, σ0])) ?_
  refine awl_run' [13] ?_
  simp -implicitDefEqProofs
  repeat' first | refine aw_N [13] trivial trivial ?_ | refine aw_cond rfl (fun h => ?_) (fun h => ?_)
  have c1 := aputOk_ok [] [] 3 1 [nA, nB, nA] (lok_of AI.empty (by simp) (by simp) (by intro x hx; simp at hx; rcases hx with rfl | rfl | rfl <;> first | exact okA | exact okB)) (by decide) s1 q1 (by omega)
  rw [hs1] at c1
  refine awl_soft 26 (c' := .vsl ([nA, nB, nA].map ndA)) rfl (fun G w v h => rep_ndS (l := [(nA, true, true), (nB, false, false), (nA, true, true)]) (by simp [nA, nB, nC, nD, nE, nF]) h) ?_
  simp -implicitDefEqProofs only [List.set]
  refine awl_ar [13] rfl rfl rfl (by kernel_rfl) c1 rfl (cl_one (.vsl _ (cl_nds _))) (cl_tup2 (cl_vis _) (.p _)) (cl_esN _) (cl_esT _) (cl_esN _) (cl_esT _) (at_laS (by simp) (by simp)) ?_
  simp -implicitDefEqProofs
  repeat' first | refine aw_N [13] trivial trivial ?_ | refine aw_cond rfl (fun h => ?_) (fun h => ?_)
  obtain ⟨s2, d2, q2, m2, e2, ai2, g2⟩ := alive_s2 ai1 g1 m1
  have c2 := aputFull_ok s1.M s1.N 3 s1.c [nC, nD] (lok_of ai1 (by omega) (by simp) (by intro x hx; simp at hx; rcases hx with rfl | rfl <;> first | exact okC | exact okD)) (by simp [badL, nC, nD]) s2 q2 (by omega) d2 e2
  refine awl_soft 34 (c' := .vsl ([nC, nD].map ndA)) rfl (fun G w v h => rep_ndS (l := [(nC, true, true), (nD, true, true)]) (by simp [nA, nB, nC, nD, nE, nF]) h) ?_
  simp -implicitDefEqProofs only [List.set]
  refine awl_ar [13] rfl rfl rfl (by kernel_rfl) c2 rfl (cl_one (.vsl _ (cl_nds _))) (cl_tup2 (.p _) (.p _)) (cl_esN _) (cl_esT _) (cl_esN _) (cl_esT _) (at_laS (by simp) (by simp)) ?_
  simp -implicitDefEqProofs
  repeat' first | refine aw_N [13] trivial trivial ?_ | refine aw_cond rfl (fun h => ?_) (fun h => ?_)
  have hm2 : d2.M.length = 2 := by
    have := livL_len d2.M
    rw [livL_is ai2.ndM (L := [1, 2]) (by simp) fun x => by
      rw [g2, got1]
      by_cases h1 : x = 1
      · simp [h1]
      · by_cases h2 : x = 2
        · simp [h2]
        · simp [h1, h2]] at this
    exact this.symm
  have c3 := aputBad_ok d2.M d2.N 3 d2.c [nF, nD] (lok_of ai2 (by omega) (by simp) (by intro x hx; simp at hx; rcases hx with rfl | rfl <;> first | exact okF | exact okD)) (by simp [badL, badR, nF, g2, got1])
  refine awl_soft 43 (c' := .vsl ([nF, nD].map ndA)) rfl (fun G w v h => rep_ndS (l := [(nF, false, true), (nD, true, true)]) (by simp [nA, nB, nC, nD, nE, nF]) h) ?_
  simp -implicitDefEqProofs only [List.set]
  refine awl_ar [13] rfl rfl rfl (by kernel_rfl) c3 rfl (cl_one (.vsl _ (cl_nds _))) (cl_tup2 (.p _) (.p _)) (cl_esN _) (cl_esT _) (cl_esN _) (cl_esT _) (at_laS (by simp) (by simp)) ?_
  simp -implicitDefEqProofs
  repeat' first | refine aw_N [13] trivial trivial ?_ | refine aw_cond rfl (fun h => ?_) (fun h => ?_)
  obtain ⟨D, d3, qD, lD, e3, ai3, g3, m3⟩ := alive_s3 ai2 g2
  have c4 := asweep_ok d2.M d2.N 3 d2.c ai2 [1] (by simp) (by simp [badS, g2, got1]) D qD d3 e3
  rw [lD] at c4
  refine awl_ar [13] rfl rfl rfl (by kernel_rfl) c4 rfl (cl_one (cl_vis [1])) (cl_tup2 (.p _) (.p _)) (cl_esN _) (cl_esT _) (cl_esN _) (cl_esT _) (at_laS (by simp) (by simp)) ?_
  simp -implicitDefEqProofs
  repeat' first | refine aw_N [13] trivial trivial ?_ | refine aw_cond rfl (fun h => ?_) (fun h => ?_)
  obtain ⟨s4, q4, hs4, ai4, g4, m4⟩ := alive_s4 ai3 g3 m3
  have c5 := aputOk_ok d3.M d3.N 3 d3.c [nE] (lok_of ai3 (by omega) (by simp) (by intro x hx; simp at hx; subst hx; exact okE)) (by simp [badL, badR, nE, g3, got3]) s4 q4 (by omega)
  rw [hs4] at c5
  refine awl_soft 57 (c' := .vsl ([nE].map ndA)) rfl (fun G w v h => rep_ndS (l := [(nE, false, true)]) (by simp [nA, nB, nC, nD, nE, nF]) h) ?_
  simp -implicitDefEqProofs only [List.set]
  refine awl_ar [13] rfl rfl rfl (by kernel_rfl) c5 rfl (cl_one (.vsl _ (cl_nds _))) (cl_tup2 (cl_vis _) (.p _)) (cl_esN _) (cl_esT _) (cl_esN _) (cl_esT _) (at_laS (by simp) (by simp)) ?_
  simp -implicitDefEqProofs
  repeat' first | refine aw_N [13] trivial trivial ?_ | refine aw_cond rfl (fun h => ?_) (fun h => ?_)
  have c6 := aget_ok s4.M (esT vi s4.N) (cl_esT _) 3 s4.c 2 nE g4 okE
  rw [show ndA nE = .agg [vi 7, .vsl [vi 1], .vsl [], vs ⟨#[]⟩] from rfl] at c6
  refine awl_ar [13] rfl rfl rfl (by kernel_rfl) c6 rfl (cl_one (.p _)) (cl_tup2 (by have := cl_ndA nE; exact this) (.p _)) (cl_esN _) (cl_esT _) (cl_esN _) (cl_esT _) (at_laS (by simp) (by simp)) ?_
  simp -implicitDefEqProofs
  repeat' first | refine aw_N [13] trivial trivial ?_ | refine aw_cond rfl (fun h => ?_) (fun h => ?_)
  refine awl_unopt 147 (c := .ptr 2 0) rfl ?_
  simp -implicitDefEqProofs only [List.set]
  refine AWL.less (τ := laS 3 (esK ndA s4.M) (esT vi s4.N) s4.c [] [] 4) (le_laS (by simp [upd]) (by simp) (by simp) (by simp) (by simp) (by simp)) ?_
  have c7 := alen_ok s4.M (esT vi s4.N) 3 s4.c
  rw [m4] at c7
  refine awl_ar [13] rfl rfl rfl (by kernel_rfl) c7 rfl (by simp) (.p _) (cl_esN _) (cl_esT _) (cl_esN _) (cl_esT _) (at_laS (by simp) (by simp)) ?_
  simp -implicitDefEqProofs
  repeat' first | refine aw_N [13] trivial trivial ?_ | refine aw_cond rfl (fun h => ?_) (fun h => ?_)
  refine awl_unopt 152 (c := .ptr 2 0) rfl ?_
  simp -implicitDefEqProofs only [List.set]
  refine awl_ar [13] rfl rfl rfl (by kernel_rfl) (aroom_ok _ _ 3 s4.c) rfl (by simp) (.p _) (cl_esN _) (cl_esT _) (cl_esN _) (cl_esT _) (at_laS (by simp) (by simp)) ?_
  simp -implicitDefEqProofs
  repeat' first | refine aw_N [13] trivial trivial ?_ | refine aw_cond rfl (fun h => ?_) (fun h => ?_)
  all_goals first | rfl | (simp [tupOf]; done) | trace_state
end Go.AL
/-! make of a slice, in a region that draws. -/
namespace Go.AL
set_option linter.unusedVariables false
set_option linter.unusedSimpArgs false
variable {P : Program} {σ : ASt} {D : List Deferred} {Q : Exit → List AV → ASt → Prop} {fr : List AV} {o : Oper} {rest : List Oper}
end Go.AL
/-! gridironlaw09.ArenaPlays. -/
namespace Go.AL
open Go.Proofs
set_option linter.unusedSimpArgs false
set_option linter.unusedVariables false
theorem cl_acA (a : Ac) : Cl (acA a) := .agg _ fun c hc => by
  simp only [List.mem_cons, List.not_mem_nil, or_false] at hc
  rcases hc with rfl | rfl | rfl
  · exact .p _
  · exact .vsl _ (cl_nds _)
  · exact cl_vis _
@[simp] theorem cl_acA' (a : Ac) : Cl (acA a) = True := eq_true (cl_acA a)
end Go.AL
/-! ArenaPlays, for its row. -/
namespace Go.AL
open Go.Proofs
set_option linter.unusedSimpArgs false
set_option linter.unusedVariables false
set_option maxRecDepth 100000 in
theorem ints_has {n : Nat} {x : AV} (h : hasF Tryd.prog n 33 x) : ∃ l : List Int, x = .vsl (l.map vi) ∧ l.length ≤ 9223372036854775807 ∧ ∀ z ∈ l, -9223372036854775808 ≤ z ∧ z ≤ 9223372036854775807 := by
  obtain ⟨m, xs, rfl, rfl, hx, hy⟩ := has_slice h Tryd.underlying33
  obtain ⟨l, rfl, hl⟩ := list_of (f := vi) (r := fun z => -9223372036854775808 ≤ z ∧ z ≤ 9223372036854775807) (fun y hy => by
    obtain ⟨z, rfl, hz⟩ := has_i64 hy Tryd.underlying3
    exact ⟨z, rfl, hz.1, hz.2⟩) xs hy
  exact ⟨l, rfl, by simpa using hx, hl⟩
set_option maxRecDepth 100000 in
theorem node_has {n : Nat} {x : AV} (h : hasF Tryd.prog n 40 x) : ∃ y : Nd, x = ndA y ∧ NdIn y := by
  obtain ⟨m, cs, rfl, rfl, hl, hf⟩ := has_struct h Tryd.underlying40
  rw [show Tryd.prog.cellsOf 40 = 4 by kernel_rfl] at hl
  have c1 : Tryd.prog.cellsOf 3 = 1 := by kernel_rfl
  have c2 : Tryd.prog.cellsOf 33 = 1 := by kernel_rfl
  have c3 : Tryd.prog.cellsOf 9 = 1 := by kernel_rfl
  simp only [List.mem_cons, List.not_mem_nil, or_false, forall_eq_or_imp, forall_eq] at hf
  obtain ⟨⟨y0, h0, e0⟩, ⟨y1, h1, e1⟩, ⟨y2, h2, e2⟩, y3, h3, e3⟩ := hf
  obtain ⟨k, rfl, hk⟩ := has_i64 h0 Tryd.underlying3
  obtain ⟨rs, rfl, hr1, hr2⟩ := ints_has h1
  obtain ⟨ns, rfl, hn1, hn2⟩ := ints_has h2
  obtain ⟨s, rfl, hs⟩ := has_str h3 Tryd.underlying9
  match cs, hl with
  | [x0, x1, x2, x3], _ =>
    simp only [c1, c2, c3, List.drop_zero, List.take_succ_cons, List.take_zero, List.drop_succ_cons, List.cons.injEq, and_true, AV.cells] at e0 e1 e2 e3
    subst e0; subst e1; subst e2; subst e3
    exact ⟨⟨k, rs, ns, s⟩, rfl, ⟨hk.1, hk.2⟩, hr2, hn2, hr1, hn1, hs⟩
set_option maxRecDepth 100000 in
theorem act9_has {n : Nat} {x : AV} (h : hasF Tryd.prog n 35 x) : ∃ a : Ac, x = acA a ∧ AcIn a := by
  obtain ⟨m, cs, rfl, rfl, hl, hf⟩ := has_struct h Tryd.underlying35
  rw [show Tryd.prog.cellsOf 35 = 3 by kernel_rfl] at hl
  have c1 : Tryd.prog.cellsOf 5 = 1 := by kernel_rfl
  have c2 : Tryd.prog.cellsOf 33 = 1 := by kernel_rfl
  have c3 : Tryd.prog.cellsOf 32 = 1 := by kernel_rfl
  simp only [List.mem_cons, List.not_mem_nil, or_false, forall_eq_or_imp, forall_eq] at hf
  obtain ⟨⟨y0, h0, e0⟩, ⟨y1, h1, e1⟩, y2, h2, e2⟩ := hf
  obtain ⟨k, rfl, hk⟩ := has_int h0 Tryd.underlying5
  obtain ⟨m', xs, rfl, rfl, hx, hy⟩ := has_slice h1 Tryd.underlying32
  obtain ⟨l, rfl, hl1⟩ := list_of (f := ndA) (r := NdIn) (fun y hy => node_has hy) xs hy
  obtain ⟨rs, rfl, hr1, hr2⟩ := ints_has h2
  match cs, hl with
  | [x0, x1, x2], _ =>
    simp only [c1, c2, c3, List.drop_zero, List.take_succ_cons, List.take_zero, List.drop_succ_cons, List.cons.injEq, and_true, AV.cells] at e0 e1 e2
    subst e0; subst e1; subst e2
    simp only [Lit.wf, IntKind.min, IntKind.max, IntKind.signed, IntKind.bits, Bool.and_eq_true, decide_eq_true_eq] at hk
    simp at hk
    exact ⟨⟨k, l, rs⟩, rfl, ⟨hk.1, by show k < 256; omega⟩, hl1, hr2, by simpa using hx, hr1⟩
theorem acts9_has {x : AV} (h : HasT Tryd.prog 22 x) : ∃ l : List Ac, x = .vsl (l.map acA) ∧ l.length ≤ 9223372036854775807 ∧ ∀ a ∈ l, AcIn a := by
  obtain ⟨n, h⟩ := h
  obtain ⟨m, xs, rfl, rfl, hx, hy⟩ := has_slice h Tryd.underlying22
  obtain ⟨l, rfl, hl⟩ := list_of (f := acA) (r := AcIn) (fun y hy => act9_has hy) xs hy
  exact ⟨l, rfl, by simpa using hx, hl⟩
end Go.AL
/-! The plain law of the program's arena by itself. -/
namespace Go.AL
set_option linter.unusedSimpArgs false
set_option linter.unusedVariables false
structure PaI (room : Nat) (M : Nods) (N : Nms) (c : Int) : Prop where
  ai : AI M N c
  clo : Clo M
  ml : M.length ≤ room
theorem PaI.start (room : Nat) : PaI room [] [] 1 := ⟨AI.empty, (fun h x e => by cases e), by simp⟩
theorem PaI.lok {room : Nat} {M : Nods} {N : Nms} {c : Int} (h : PaI room M N c) (hr : room ≤ 65536) {l : List Nd} (hl : l.length ≤ 1000) (hx : ∀ x ∈ l, NdOk x) : LOk M N c room l :=
  ⟨h.ai, by have := h.ml; omega, by omega, hx, by omega⟩
/-- A batch behind so many of a list. -/
structure PK (M0 : Nods) (l : List Nd) (i : Nat) (s : PS) : Prop where
  pi : PI M0.length s
  po : PO M0 s
  clo : Clo s.M
  hl : s.hs.length = i
  kt : ∀ (k : Nat) (x : Nd), k < i → l[k]? = some x → ∃ h y, s.hs[k]? = some h ∧ gotK s.M h = some y ∧ y.k = x.k ∧ y.text = x.text
theorem PK.put {M0 : Nods} {l : List Nd} {i : Nat} {s : PS} {x : Nd} (h : PK M0 l i s) (hxl : l[i]? = some x) (hx : NdOk (resN s.hs x)) (hl : M0.length + s.hs.length < 100000) (hr : ∀ r ∈ x.refs, r ≤ 0 ∨ (gotK M0 r).isSome = true) (hr2 : ∀ r ∈ x.refs, -1 - r < s.hs.length) : PK M0 l (i + 1) (s.put x) := by
  have hA := h.pi.ai
  obtain ⟨hPI, hPl⟩ := h.pi.put hx hl
  have hPO := h.po.put (x := x) h.pi
  have live0 : ∀ n, (gotK M0 n).isSome = true → (gotK s.M n).isSome = true := fun n hn => by
    by_cases e : n ∈ s.gs
    · rw [h.po.new n e] at hn; cases hn
    · rw [h.po.keep n e]; exact hn
  have hrl : ∀ r ∈ (resN s.hs x).refs, r ≤ 0 ∨ (gotK s.M r).isSome = true := fun r hr0 => by
    obtain ⟨r0, hm, rfl⟩ := List.mem_map.1 hr0
    unfold resR
    split
    · rename_i hneg
      have := hr2 r0 hm
      have hlt : (-1 - r0).toNat < s.hs.length := by omega
      refine .inr (h.pi.hs _ ?_)
      rw [List.getD_eq_getElem?_getD, List.getElem?_eq_getElem hlt]
      exact List.getElem_mem hlt
    · exact (hr r0 hm).imp id (live0 r0)
  have h1 := h.hl
  refine ⟨hPI, hPO, ?_, by omega, ?_⟩
  all_goals
    unfold PS.put
    cases hg : gotT s.N (nmB (resN s.hs x)) with
    | some k => ?_
    | none => ?_
  · exact h.clo
  · have liveP : ∀ n, (gotK s.M n).isSome = true → (gotK (putK s.M (hN s.M s.c) (resN s.hs x)) n).isSome = true := fun n hn => by
      rw [gotK_put]
      split
      · rfl
      · exact hn
    intro k y hk r hr0
    simp only at hk ⊢
    rw [gotK_put] at hk
    split at hk
    · cases hk
      exact (hrl r hr0).imp id (liveP r)
    · exact (h.clo k y hk r hr0).imp id (liveP r)
  · intro j y hj hy
    obtain ⟨z, e1, e2⟩ := hA.bwd _ _ hg
    obtain rfl := nmB_inj e2
    by_cases hji : j < i
    · obtain ⟨a, b, q1, q2, q3⟩ := h.kt j y hji hy
      exact ⟨a, b, by rw [List.getElem?_append_left (by omega)]; exact q1, q2, q3⟩
    · obtain rfl : j = i := by omega
      rw [hxl] at hy
      cases hy
      exact ⟨k, _, by rw [List.getElem?_append_right (by omega), h1]; simp, e1, rfl, rfl⟩
  · intro j y hj hy
    obtain ⟨n1, n2, n3, n4⟩ := hA.next
    by_cases hji : j < i
    · obtain ⟨a, b, q1, q2, q3⟩ := h.kt j y hji hy
      refine ⟨a, b, by rw [List.getElem?_append_left (by omega)]; exact q1, ?_, q3⟩
      simp only
      rw [gotK_put, if_neg (fun e => by rw [e, q2] at n3; cases n3)]
      exact q2
    · obtain rfl : j = i := by omega
      rw [hxl] at hy
      cases hy
      exact ⟨hN s.M s.c, resN s.hs x, by rw [List.getElem?_append_right (by omega), h1]; simp, by simp only; rw [gotK_put, if_pos rfl], rfl, rfl⟩
theorem PK.puts {M : Nods} {N : Nms} {c a : Int} {l : List Nd} (h : LOk M N c a l) (hC : Clo M) (hb : badL M l 0 = false) : ∀ i ≤ l.length, PK M l i ((ps0 M N c).puts (l.take i))
  | 0, _ => ⟨PI.zero h.ai, ⟨fun n _ => rfl, (fun n hn => by cases hn)⟩, hC, rfl, fun k x hk => by omega⟩
  | i + 1, hi => by
    have h1 := PK.puts h hC hb i (by omega)
    obtain ⟨x, hx⟩ : ∃ x, l[i]? = some x := ⟨_, List.getElem?_eq_getElem (by omega)⟩
    have h2 := badL_at M l 0 i x hb hx
    rw [Nat.zero_add] at h2
    obtain ⟨q1, q2⟩ := bad_refs h2
    rw [puts_take hx]
    have h3 := h1.hl
    have h4 := h.len
    have h5 := h.ml
    exact h1.put hx (resN_ok (h.nd x (List.mem_of_getElem? hx)) h1.pi.ok) (by omega) q1 (by rw [h3]; exact q2)
theorem PaI.put {room : Nat} {M : Nods} {N : Nms} {c : Int} (h : PaI room M N c) (hr : room ≤ 65536) {l : List Nd} (hl : l.length ≤ 1000) (hx : ∀ x ∈ l, NdOk x) (hb : badL M l 0 = false) {s : PS} (hs : (ps0 M N c).puts l = s) (hm : s.M.length ≤ room) :
    PaI room s.M s.N s.c ∧ s.hs.length = l.length ∧ ∀ (k : Nat) (x : Nd), l[k]? = some x → ∃ h y, s.hs[k]? = some h ∧ gotK s.M h = some y ∧ y.k = x.k ∧ y.text = x.text := by
  have h1 := PK.puts (h.lok hr hl hx) h.clo hb l.length (Nat.le_refl _)
  rw [List.take_length, hs] at h1
  exact ⟨⟨h1.pi.ai, h1.clo, hm⟩, h1.hl, fun k x hk => h1.kt k x (List.getElem?_eq_some_iff.1 hk).1 hk⟩
theorem len_le {M M' : Nods} (h' : (M'.map Prod.fst).Nodup) (he : ∀ n, (gotK M' n).isSome = true → (gotK M n).isSome = true) : M'.length ≤ M.length := by
  have := sub_len (M'.map Prod.fst) (M.map Prod.fst) h' fun x hx => gotK_mem.1 (he x (gotK_mem.2 hx))
  simpa using this
theorem PaI.full {room : Nat} {M : Nods} {N : Nms} {c : Int} (h : PaI room M N c) (hr : room ≤ 65536) {l : List Nd} (hl : l.length ≤ 1000) (hx : ∀ x ∈ l, NdOk x) {s : PS} (hs : (ps0 M N c).puts l = s) {d : AS} (hd : (⟨s.M, s.N, s.c⟩ : AS).drops s.gs = d) : PaI room d.M d.N d.c := by
  obtain ⟨b1, b2⟩ := back_got (h.lok hr hl hx) hs hd
  refine ⟨b1, fun k x hk r hr0 => ?_, Nat.le_trans (len_le b1.ndM fun n hn => by rw [← b2]; exact hn) h.ml⟩
  rw [b2] at hk ⊢
  exact h.clo k x hk r hr0
theorem PaI.sweep {room : Nat} {M : Nods} {N : Nms} {c : Int} (h : PaI room M N c) {on D : List Int} (hD : (livL M).filter (fun x => !decide (x ∈ rchL M on)) = D) {d : AS} (hd : (⟨M, N, c⟩ : AS).drops D = d) : PaI room d.M d.N d.c := by
  obtain ⟨b1, b2⟩ := swept_got h.ai hD hd
  refine ⟨b1, swept_clo h.clo (fun k x hk => (h.ai.pos k x hk).1) b2, Nat.le_trans (len_le b1.ndM fun n hn => ?_) h.ml⟩
  rw [b2] at hn
  split at hn
  · exact hn
  · cases hn
/-- Behind a sweep, once more. -/
theorem swept_again {M : Nods} {N : Nms} {c : Int} (hA : AI M N c) (hC : Clo M) {on D : List Int} (hon : ∀ r ∈ on, (gotK M r).isSome = true) (hD : (livL M).filter (fun x => !decide (x ∈ rchL M on)) = D) {d : AS} (hd : (⟨M, N, c⟩ : AS).drops D = d) :
    livL d.M = rchL M on ∧ (∀ r ∈ on, (gotK d.M r).isSome = true) ∧ (livL d.M).filter (fun x => !decide (x ∈ rchL d.M on)) = [] := by
  obtain ⟨b1, b2⟩ := swept_got hA hD hd
  have hon2 : ∀ r ∈ on, (gotK d.M r).isSome = true := fun r hr => by
    rw [b2, if_pos (mem_rchL.2 (.root r hr (hon r hr)))]
    exact hon r hr
  have h1 : livL d.M = rchL M on := livL_is b1.ndM (rchL_lt hA.ndM on) fun x => by
    rw [b2]
    by_cases e : x ∈ rchL M on
    · rw [if_pos e]; exact ⟨fun _ => (mem_rchL.1 e).live, fun _ => e⟩
    · rw [if_neg e]; simp [e]
  refine ⟨h1, hon2, ?_⟩
  have key : ∀ x, Rch M on x → Rch d.M on x := fun x hx => by
    induction hx with
    | root r hr hl => exact .root r hr (hon2 r hr)
    | step k y r hk hy hr hl ih =>
      refine .step k y r ih ?_ hr ?_
      · rw [b2, if_pos (mem_rchL.2 hk)]; exact hy
      · rw [b2, if_pos (mem_rchL.2 (.step k y r hk hy hr hl))]; exact hl
  rw [h1, List.filter_eq_nil_iff]
  intro x hx
  simp [mem_rchL.2 (key x (mem_rchL.1 hx))]
end Go.AL
/-! gridironlaw09: nodes off a list of one's own. -/
namespace Go.AL
open Go.Proofs
set_option linter.unusedSimpArgs false
set_option linter.unusedVariables false
theorem aw_soft {P : Program} {σ : ASt} {D : List Deferred} {Q : Exit → List AV → ASt → Prop} {fr : List AV} {c0 : Code} (i : Nat) {c c' : AV} (hi : fr[i]? = some c) (hc : ∀ G w v, Rep G w c v → Rep G w c' v) (h : AW P D c0 Q (fr.set i c') σ) : AW P D c0 Q fr σ := by
  intro r ir G a w hs
  refine h r ir G a w ⟨⟨by simpa using hs.tmps.1, fun j c1 v h1 hv => ?_⟩, hs.defers, hs.w⟩
  rw [List.getElem?_set] at h1
  split at h1
  · rename_i e
    subst e
    split at h1
    · obtain rfl := Option.some.inj h1
      exact hc G w v (hs.tmps.2 i c v hi hv)
    · cases h1
  · exact hs.tmps.2 j c1 v h1 hv
/-- A list of one's own, number 0, and another. -/
def osS (X : List Nd) (ss : List (Nat × List AV)) (m : Nat) : ASt := ⟨fun _ => none, fun _ => none, fun i => if i = 0 then some (X.map ndA) else lkN ss i, m⟩
section
variable (X : List Nd) (ss : List (Nat × List AV)) (m i : Nat)
@[simp] theorem osS_bx : (osS X ss m).bx i = none := rfl
@[simp] theorem osS_mp : (osS X ss m).mp i = none := rfl
@[simp] theorem osS_sl : (osS X ss m).sl i = if i = 0 then some (X.map ndA) else lkN ss i := rfl
@[simp] theorem osS_next : (osS X ss m).next = m := rfl
end
theorem le_osS {X : List Nd} {ss : List (Nat × List AV)} {m : Nat} {σ : ASt} (h1 : σ.sl 0 = some (X.map ndA)) (h2 : ∀ p ∈ ss, σ.sl p.1 = some p.2) (h3 : σ.next ≤ m) : (osS X ss m).Le σ where
  bx := fun i cs e => by cases e
  mp := fun i cs e => by cases e
  sl := fun i cs e => by
    simp only [osS_sl] at e
    split at e
    · rename_i hi; subst hi; rw [h1]; exact e
    · exact h2 _ (lkN_mem e)
  next := h3
def NoI2 (X Z : List Nd) (off n : Nat) (q : Nat) (fr : List AV) (σ : ASt) : Prop := ∃ i ko T : Nat, i + q = n ∧ 0 < ko ∧ ko < T ∧ σ = osS X [(ko, (Z.take i).map ndA)] T ∧ fr = frm 36 [(0, .hsl 0 off n), (3, .hsl ko 0 i), (4, vi (i : Nat))]
set_option maxHeartbeats 8000000 in
set_option maxRecDepth 100000 in
theorem nodesO1_ok (X : List Nd) (off n : Nat) (hX : off + n ≤ X.length) (hl : X.length ≤ 1000000) : ACall Tryd.prog 21 [.hsl 0 off n] (osS X [] 1) fun r τ => r = .vsl (((X.drop off).take n).map ndA) ∧ τ.sl 0 = some (X.map ndA) := by
  obtain ⟨Z, hZ⟩ : ∃ Z, (X.drop off).take n = Z := ⟨_, rfl⟩
  have hdl : Z.length = n := by rw [← hZ]; simp; omega
  rw [hZ]
  refine acall_of Tryd.func21 Tryd.ntmps21 rfl ?_
  simp only [List.length_cons, List.length_nil, List.cons_append, List.nil_append, List.replicate]
  repeat' first | refine aw_W [] trivial trivial ?_ | refine aw_cond rfl (fun h => ?_) (fun h => ?_)
  refine aw_nilH (i := 3) rfl ?_
  simp -implicitDefEqProofs only [List.set]
  refine aw_loopW [0, 3, 4] (fun q fr σ => NoI2 X Z off n q fr σ) n ?_ ?_
  · exact ⟨osS X [(1, [])] 2, le_osS (by simp [ASt.addSl]) (by simp [ASt.addSl]) (by simp [ASt.addSl]), 0, 1, 2, by omega, by omega, by omega, by simp, by simp⟩
  · rintro q fr σ ⟨i, ko, T, hi, hk0, hk, rfl, rfl⟩
    simp -implicitDefEqProofs
    have k0 : ¬ ko = 0 := by omega
    by_cases hlt : i < n
    · have hlti : (i : Int) < n := by omega
      have hoi : off + i < X.length := by omega
      obtain ⟨x, hx1⟩ : ∃ x, X[off + i] = x := ⟨_, rfl⟩
      have hxg : X[off + i]? = some x := by rw [List.getElem?_eq_getElem hoi, hx1]
      have wi : IntKind.i64.wrap ((i : Int) + 1) = (i : Int) + 1 := wrap_id (by omega) (by omega)
      have hnd : ndA x = .agg [vi x.k, .vsl (x.refs.map vi), .vsl (x.nums.map vi), vs x.text] := rfl
      have hXv : (X.map ndA).length = X.length := List.length_map _
      have hxd : Z[i]? = some x := by rw [← hZ, List.getElem?_take, if_pos hlt, List.getElem?_drop]; exact hxg
      have htk : Z.take (i + 1) = Z.take i ++ [x] := by rw [List.take_add_one, hxd]; rfl
      repeat' first | refine aw_W [] (And.intro @hlt (And.intro @hlti (And.intro @hoi (And.intro @hx1 (And.intro @hxg (And.intro @hnd (And.intro @hXv @k0))))))) trivial ?_ | refine aw_cond rfl (fun h => ?_) (fun h => ?_)
      have htl : ((Z.take i).map ndA).length = i := by simp; omega
      refine zl_append (by simp) rfl rfl rfl (b := ko) (xs := (Z.take i).map ndA) (by simp [k0]) (by rw [htl]; omega) rfl (by simp) te54 tet54 tz43 rfl (fun y hy => by obtain ⟨_, _, rfl⟩ := List.mem_map.1 hy; rfl) (by simp [AV.cells]) (by simp; omega) (by simp; omega) ?_
      simp -implicitDefEqProofs [k0]
      refine ⟨by repeat' first | exact .inl (by decide +kernel) | refine And.intro ?_ ?_ | trivial, ?_⟩
      repeat' first | refine aw_W [] @wi trivial ?_ | refine aw_cond rfl (fun h => ?_) (fun h => ?_)
      have k0' : ¬ 0 = ko := by omega
      have kT : ¬ 0 = T := by omega
      exact ⟨q - 1, by omega, osS X [(T, (Z.take (i + 1)).map ndA)] (T + 1), le_osS (by simp [ASt.addSl, ASt.dropSl, upd, k0', kT]) (by rw [htk]; simp [ASt.addSl, ASt.dropSl, hnd, List.take_of_length_le, Nat.min_eq_left (Nat.le_of_lt (show i < Z.length by omega))]) (by simp [ASt.addSl]), i + 1, T, T + 1, by omega, by omega, by omega, rfl, by simp⟩
    · have hlti : ¬ (i : Int) < n := by omega
      have hin : n = i := by omega
      have hZv : (Z.map ndA).length = Z.length := List.length_map _
      rw [List.take_of_length_le (by rw [hZv]; omega)]
      subst hin
      refine aw_freeze (b := ko) (xs := Z.map ndA) (by simp [k0]) ?_
      simp -implicitDefEqProofs [frz, frz1, frz0, List.take_of_length_le, Ne.symm k0]
      repeat' first | refine aw_W [] @hlti trivial ?_ | refine aw_cond rfl (fun h => ?_) (fun h => ?_)
      have k0' : ¬ 0 = ko := by omega
      rw [if_pos (by omega)]
      exact ⟨by simp [tupOf, List.take_of_length_le, hdl], by simp [upd, k0']⟩
/-- From any memory. -/
theorem nodesO_ok {σ : ASt} {kw : Nat} {X : List Nd} (hs : σ.sl kw = some (X.map ndA)) (hb : σ.bx kw = none) (hm : σ.mp kw = none) (off n : Nat) (hX : off + n ≤ X.length) (hl : X.length ≤ 1000000) : ACall Tryd.prog 21 [.hsl kw off n] σ fun r τ => r = .vsl (((X.drop off).take n).map ndA) ∧ τ = σ := by
  refine acall_ok fun hok => ?_
  have hlt : kw < σ.next := by
    rcases Nat.lt_or_ge kw σ.next with h' | h'
    · exact h'
    · rw [hok.sl kw h'] at hs; cases hs
  have hcl : ∀ c ∈ X.map ndA, Cl c := cl_nds X
  have r0 : ridx [kw] σ.next 0 = kw := rfl
  have h0 : ACall Tryd.prog 21 [.hsl 0 off n] (osS X [] 1) fun r τ => r = .vsl (((X.drop off).take n).map ndA) ∧ τ.bx = (osS X [] 1).bx ∧ τ.mp = (osS X [] 1).mp ∧ τ.sl = (osS X [] 1).sl :=
    ACall.low (nodesO1_ok X off n hX hl) fun r τ ⟨e1, e2⟩ => ⟨⟨(osS X [] 1).bx, (osS X [] 1).mp, (osS X [] 1).sl, τ.next⟩, {
      bx := fun i cs e => by cases e
      mp := fun i cs e => by cases e
      sl := fun i cs e => by
        simp only [osS_sl] at e
        split at e
        · rename_i hi; subst hi; rw [e2]; exact e
        · cases e
      next := Nat.le_refl _ }, e1, rfl, rfl, rfl⟩
  have h1 := ACall.frame0 (σ := σ) [kw] rfl ⟨fun _ _ => rfl, fun _ _ => rfl, fun i hi => by
      have : ¬ i = 0 := by have : 1 ≤ i := hi; omega
      simp [this]⟩ (by simp [hlt]) (by simp) (fun i cs e => by cases e) (fun i es e => by cases e) (fun i xs e => by
      simp only [osS_sl] at e
      split at e
      · rename_i hi; subst hi
        obtain rfl := Option.some.inj e
        rw [r0, hs, rens_cl hcl]
      · cases e) h0 (fun r τ ⟨e1, e2, e3, e4⟩ => by
      subst e1
      refine ⟨.vsl _ fun c hc => ?_, fun i cs e => (by rw [e2] at e; cases e), fun i es e => (by rw [e3] at e; cases e), fun i xs e hi => ?_⟩
      · obtain ⟨_, _, rfl⟩ := List.mem_map.1 hc; exact cl_ndA _
      · rw [e4] at e
        simp only [osS_sl] at e
        split at e
        · obtain rfl := Option.some.inj e; exact hcl
        · cases e)
  have ea : rens (ridx [kw] σ.next) [.hsl 0 off n] = [.hsl kw off n] := by simp [rens, ren, r0]
  rw [ea] at h1
  refine h1.mono fun r σ' ⟨τ, ⟨e1, e2, e3, e4⟩, e5⟩ => ⟨e1, ?_⟩
  rw [e5]
  unfold back0
  obtain ⟨sb, sm, ss, sn⟩ := σ
  simp only at *
  congr 1
  · funext x
    simp only [rfind]
    by_cases q : x = kw
    · subst q; simp [e2, hb]
    · simp [q]
  · funext x
    simp only [rfind]
    by_cases q : x = kw
    · subst q; simp [e3, hm]
    · simp [q]
  · funext x
    simp only [rfind]
    by_cases q : x = kw
    · subst q; simp [e4, hs]
    · simp [q]
end Go.AL
