/- Parts of the proof of BranchOthers: the logic, contracts, plain laws. -/
import Derived.Test.YtjldlcakinmajaaZBranchOthers12
import Derived.Test.YtjldlcakinmajaaZBranchOthers9
/-! The plain law of a table: what it holds against a list by names. -/
namespace Go.AL
open Go.Proofs
set_option linter.unusedSimpArgs false
set_option linter.unusedVariables false
abbrev bL (s : ByteArray) : List UInt8 := s.data.toList
theorem bL_inj {a b : ByteArray} (h : bL a = bL b) : a = b := by
  cases a; cases b
  simp [bL] at h
  subst h; rfl
theorem ltS_iff (a b : ByteArray) : ltS a b = true ↔ bL a < bL b := by
  unfold ltS; rw [bytesLess_eq]; simp
theorem gtS_iff (a n : ByteArray) : gtS a n = true ↔ bL n < bL a := by
  unfold gtS
  by_cases h : a = n
  · subst h; simp [List.lt_irrefl]
  · have h1 : ¬ bL a = bL n := fun e => h (bL_inj e)
    by_cases h2 : bL a < bL n
    · have h3 : ¬ bL n < bL a := fun h3 => List.lt_irrefl _ (List.lt_trans h2 h3)
      simp [(ltS_iff a n).2 h2, h3]
    · have h4 : ltS a n = false := by
        cases hq : ltS a n with
        | false => rfl
        | true => exact absurd ((ltS_iff a n).1 hq) h2
      have h3 : bL n < bL a := by
        rcases Classical.em (bL n < bL a) with h3 | h3
        · exact h3
        · exact absurd (List.le_antisymm (List.not_lt.1 h3) (List.not_lt.1 h2)) h1
      simp [h4, h, h3]
theorem gotB_mem {n : ByteArray} {h : Int} : ∀ {L : List Br}, (L.map Prod.fst).Nodup → (gotB L n = some h ↔ (n, h) ∈ L)
  | [], _ => by simp [gotB]
  | (a, g) :: L, nd => by
    rw [List.map_cons, List.nodup_cons] at nd
    have ih := gotB_mem (n := n) (h := h) nd.2
    rw [gotB]
    by_cases e : a = n
    · subst e
      rw [if_pos rfl]
      constructor
      · intro h1; cases h1; exact List.mem_cons_self
      · intro h1
        rcases List.mem_cons.1 h1 with h1 | h1
        · cases h1; rfl
        · exact absurd (List.mem_map.2 ⟨_, h1, rfl⟩) nd.1
    · rw [if_neg e, ih]
      constructor
      · exact List.mem_cons_of_mem _
      · intro h1
        rcases List.mem_cons.1 h1 with h1 | h1
        · cases h1; exact absurd rfl e
        · exact h1
theorem gotB_not {n : ByteArray} : ∀ {L : List Br}, gotB L n = none ↔ n ∉ L.map Prod.fst
  | [] => by simp [gotB]
  | (a, g) :: L => by
    have ih := gotB_not (n := n) (L := L)
    rw [gotB]
    by_cases e : a = n
    · subst e; simp
    · have e' : ¬ n = a := fun h => e h.symm
      rw [if_neg e, ih]; simp [e']
theorem gotB_perm {L M : List Br} (hp : L.Perm M) (nd : (M.map Prod.fst).Nodup) (n : ByteArray) : gotB L n = gotB M n := by
  have nl : (L.map Prod.fst).Nodup := (hp.map _).nodup_iff.2 nd
  refine Option.ext fun h => ?_
  rw [gotB_mem nl, gotB_mem nd, hp.mem_iff]
theorem del_ix (n : ByteArray) : ∀ (L : List Br) (i : Nat), (L.map Prod.fst).Nodup → match ixB L n i with
    | none => dropB L n = L
    | some j => i ≤ j ∧ j - i < L.length ∧ L.eraseIdx (j - i) = dropB L n
  | [], i, _ => rfl
  | (a, h) :: L, i, nd => by
    rw [List.map_cons, List.nodup_cons] at nd
    have ih := del_ix n L (i + 1) nd.2
    rw [ixB]
    by_cases e : a = n
    · subst e
      rw [if_pos rfl]
      have : dropB L a = L := gotB_none (gotB_not.2 nd.1)
      refine ⟨Nat.le_refl _, by simp, ?_⟩
      rw [Nat.sub_self, List.eraseIdx_cons_zero, dropB, List.filter_cons, if_neg (by simp), ← dropB, this]
    · rw [if_neg e]
      have hd : dropB ((a, h) :: L) n = (a, h) :: dropB L n := by
        rw [dropB, List.filter_cons, if_pos (by simp [e])]; rfl
      cases hq : ixB L n (i + 1) with
      | none => rw [hq] at ih; simp only at ih ⊢; rw [hd, ih]
      | some j =>
        rw [hq] at ih
        obtain ⟨h1, h2, h3⟩ := ih
        refine ⟨by omega, by simp; omega, ?_⟩
        rw [show j - i = (j - (i + 1)) + 1 by omega, List.eraseIdx_cons_succ, h3, hd]
theorem delB_eq {L : List Br} (nd : (L.map Prod.fst).Nodup) (n : ByteArray) : delB L n = dropB L n := by
  have := del_ix n L 0 nd
  rw [delB]
  cases hq : ixB L n 0 with
  | none => rw [hq] at this; exact this.symm
  | some j => rw [hq] at this; exact this.2.2
theorem set_perm {α : Type} (x : α) : ∀ (l : List α) (j : Nat), j < l.length → (l.set j x).Perm (x :: l.eraseIdx j)
  | [], _, h => by simp at h
  | a :: l, 0, _ => by simp
  | a :: l, j + 1, h => by
    simp only [List.set_cons_succ, List.eraseIdx_cons_succ]
    exact ((set_perm x l j (by simpa using h)).cons a).trans (List.Perm.swap _ _ _)
theorem putB_perm {L : List Br} (nd : (L.map Prod.fst).Nodup) (n : ByteArray) (h : Int) : (putB L n h).Perm ((n, h) :: dropB L n) := by
  have := del_ix n L 0 nd
  rw [putB]
  cases hq : ixB L n 0 with
  | none => rw [hq] at this; simp only at this ⊢; rw [this]; exact List.perm_append_singleton _ _
  | some j => rw [hq] at this; simp only at this ⊢; rw [← this.2.2]; exact set_perm _ _ _ this.2.1
theorem insB_perm (n : ByteArray) (h : Int) : ∀ M, (insB M n h).Perm ((n, h) :: M)
  | [] => List.Perm.refl _
  | (a, g) :: M => by
    rw [insB]
    split
    · exact List.Perm.refl _
    · exact ((insB_perm n h M).cons _).trans (List.Perm.swap _ _ _)
abbrev SrtB (M : List Br) : Prop := M.Pairwise fun p q => bL p.1 < bL q.1
theorem SrtB.nd {M : List Br} (h : SrtB M) : (M.map Prod.fst).Nodup := by
  rw [List.Nodup, List.pairwise_map]
  exact h.imp fun {p q} h e => by rw [e] at h; exact List.lt_irrefl _ h
theorem SrtB.ins {n : ByteArray} {h : Int} : ∀ {M : List Br}, SrtB M → n ∉ M.map Prod.fst → SrtB (insB M n h)
  | [], _, _ => by rw [insB]; exact List.pairwise_singleton _ _
  | (a, g) :: M, hs, hn => by
    obtain ⟨h1, h2⟩ := List.pairwise_cons.1 hs
    rw [insB]
    split
    · rename_i hg
      have hlt := (gtS_iff a n).1 hg
      refine List.pairwise_cons.2 ⟨fun p hp => ?_, hs⟩
      rcases List.mem_cons.1 hp with rfl | hp
      · exact hlt
      · exact List.lt_trans hlt (h1 p hp)
    · rename_i hg
      simp at hn
      have hle : ¬ bL n < bL a := fun h => hg ((gtS_iff a n).2 h)
      have hlt : bL a < bL n := by
        rcases Classical.em (bL a < bL n) with h3 | h3
        · exact h3
        · exact absurd (bL_inj (List.le_antisymm (List.not_lt.1 h3) (List.not_lt.1 hle))) hn.1
      refine List.pairwise_cons.2 ⟨fun p hp => ?_, SrtB.ins h2 (by simpa using hn.2)⟩
      rcases List.mem_cons.1 ((insB_perm n h M).mem_iff.1 hp) with rfl | hp
      · exact hlt
      · exact h1 p hp
/-- A table's entries, as they came, against those by names. -/
structure RelB (L M : List Br) : Prop where
  perm : L.Perm M
  srt : SrtB M
  sz : ∀ p ∈ M, p.1.size ≤ 100
  len : M.length ≤ 16
variable {L M : List Br}
theorem RelB.nd (r : RelB L M) : (L.map Prod.fst).Nodup := (r.perm.map _).nodup_iff.2 r.srt.nd
theorem RelB.lenL (r : RelB L M) : L.length ≤ 16 := r.perm.length_eq ▸ r.len
theorem RelB.szL (r : RelB L M) : ∀ s ∈ L.map Prod.fst, s.size ≤ 9223372036854775807 := fun s hs => by
  obtain ⟨p, hp, rfl⟩ := List.mem_map.1 hs
  have := r.sz p (r.perm.mem_iff.1 hp)
  omega
theorem RelB.got (r : RelB L M) (n : ByteArray) : gotB L n = gotB M n := gotB_perm r.perm r.srt.nd n
theorem RelB.setE (r : RelB L M) (n : ByteArray) : setE L n = Go.AL.setE M n := by
  unfold Go.AL.setE; rw [r.got, r.perm.length_eq]
theorem RelB.names (r : RelB L M) : namesB L = M.map Prod.fst := by
  rw [namesB, sortS]
  have hp : ((L.map Prod.fst).map fun s => s.data.toList).Perm ((M.map Prod.fst).map fun s => s.data.toList) := (r.perm.map _).map _
  rw [mergeSort_of_perm hp, List.mergeSort_of_pairwise, List.map_map]
  · conv => rhs; rw [← List.map_id (M.map Prod.fst)]
    exact List.map_congr_left fun s _ => rfl
  · rw [List.map_map, List.pairwise_map]
    exact r.srt.imp fun {p q} h => by
      simp only [leB, decide_eq_true_eq]
      exact List.le_of_lt h
theorem RelB.heads (r : RelB L M) : headsB L = M.map Prod.snd := by
  rw [headsB, r.names, List.map_map]
  refine List.map_congr_left fun p hp => ?_
  have := (gotB_mem r.srt.nd (n := p.1) (h := p.2)).2 hp
  simp [r.got, this]
theorem RelB.nil : RelB [] [] := ⟨List.Perm.refl _, List.Pairwise.nil, by simp, by simp⟩
theorem RelB.drop (r : RelB L M) (n : ByteArray) : RelB (delB L n) (dropB M n) := by
  rw [delB_eq r.nd]
  exact ⟨r.perm.filter _, r.srt.filter _, fun p hp => r.sz p (List.mem_filter.1 hp).1, Nat.le_trans (dropB_len M n) r.len⟩
theorem drop_not (M : List Br) (n : ByteArray) : n ∉ (dropB M n).map Prod.fst := fun h => by
  obtain ⟨p, hp, rfl⟩ := List.mem_map.1 h
  have := (List.mem_filter.1 hp).2
  simp at this
theorem RelB.set (r : RelB L M) {n : ByteArray} (hn : n.size ≤ 100) (h : Int) (e : Go.AL.setE M n = 0) : RelB (putB L n h) (insB (dropB M n) n h) := by
  refine ⟨(putB_perm r.nd n h).trans (((r.perm.filter _).cons _).trans (insB_perm n h _).symm), SrtB.ins (r.srt.filter _) (drop_not M n), fun p hp => ?_, ?_⟩
  · rcases List.mem_cons.1 ((insB_perm n h _).mem_iff.1 hp) with rfl | hp
    · exact hn
    · exact r.sz p (List.mem_filter.1 hp).1
  · rw [insB_len]
    unfold Go.AL.setE at e
    split at e
    · cases e
    · split at e
      · cases e
      · rename_i hq
        cases hg : gotB M n with
        | none =>
          have := dropB_len M n
          have : ¬ 16 ≤ M.length := fun h => hq ⟨hg, h⟩
          omega
        | some v =>
          have hm := (gotB_mem r.srt.nd).1 hg
          have : (dropB M n).length < M.length := List.length_filter_lt_length_iff_exists.2 ⟨_, hm, by simp⟩
          have := r.len
          omega
theorem RelB.put (r : RelB L M) {n : ByteArray} (hn : n.size ≤ 100) (h : Int) : RelB (if Go.AL.setE L n = 0 then putB L n h else L) (setB M n h) := by
  rw [r.setE, setB]
  split
  · rename_i e; exact r.set hn h e
  · exact r
end Go.AL
/-! gridironlaw17.BranchPlays. -/
namespace Go.AL
open Go.Proofs
set_option linter.unusedSimpArgs false
set_option linter.unusedVariables false
section
variable {P : Program} {D : List Deferred} {Q : Exit → List AV → ASt → Prop} {fr : List AV} {ops : Array Oper} {o : Oper} {rest : List Oper}
theorem zl_tab2 {mu imp : List Nat} {l : List Oper} {K : List AV → ASt → Prop} {i : Nat} {old : List ASt} {pd : List Pend} {f : Operand} {aa : Array Operand} {ts : Array TypeId} (hz : zst mu imp o = true) (ho : o.op = .call { callee := .value f, args := aa, argTypes := ts }) (hg : o.guard = none)
    {F : FuncId} {args : List AV} {L L' : List Br} {r : AV} (h : TC P F args (hes L) r (hes L')) {first cap : List AV} (hf : acallee (aev fr f) = some (F, first, cap)) (hc : callable P F = true) (he : first ++ aa.toList.map (aev fr) ++ cap = .ptr 1 0 :: args) (ha : ∀ a ∈ args, Cl a) (hr : Cl r)
    (hk2 : pendOk P mu imp l (old.length + 1) (tb2 (hes L')) pd ∧ Shut (ZRun P mu imp l K (i + 1) rest (aput fr o.dst r) (tb2 (hes L')) (tb2 (hes L) :: old) pd)) : ZS P mu imp l K i (o :: rest) fr (tb2 (hes L)) old pd := by
  intro hok
  unfold ZL; rw [if_pos hz]
  refine ⟨_, _, yldT_opq hg fun ρ hρ => ?_, pendOk_yld hok hk2.1, zl_run hk2.2.out hok⟩
  have h1 : ρ f = aev fr f := hρ f (by rw [ho]; simp [Op.operands, Call.operands])
  have h2 : aa.toList.map ρ = aa.toList.map (aev fr) := List.map_congr_left fun x hx => hρ x (by rw [ho]; simp [Op.operands, Call.operands]; right; simpa using hx)
  exact opq_call ho (by rw [h1]; exact hf) hc (by rw [h2, he]; exact (h.call ha hr (cl_hes L) (cl_hes L') (by omega) rfl rfl rfl rfl rfl rfl).mono fun r' τ' ⟨e1, e2⟩ => ⟨e1, by rw [e2, tb2_upd]⟩)
end
theorem fits_all {l : List Act} (h : fitsA l = true) : l.length ≤ 100 ∧ ∀ p ∈ l, p.2.1.size ≤ 100 := by
  simp [fitsA, allA] at h
  exact ⟨h.1, fun p hp => h.2 p.1 p.2.1 p.2.2 hp⟩
end Go.AL
/-! BranchPlays, for its row. -/
namespace Go.AL
open Go.Proofs
set_option linter.unusedSimpArgs false
set_option linter.unusedVariables false
def actIn (p : Act) : Prop := 0 ≤ p.1 ∧ p.1 < 256 ∧ p.2.1.size ≤ 9223372036854775807
set_option maxRecDepth 100000 in
theorem act_has {n : Nat} {x : AV} (h : hasF Try.prog n 59 x) : ∃ p : Act, x = act p ∧ actIn p := by
  obtain ⟨m, cs, rfl, rfl, hl, hf⟩ := has_struct h Try.underlying59
  rw [show Try.prog.cellsOf 59 = 3 by kernel_rfl] at hl
  have c1 : Try.prog.cellsOf 5 = 1 := by kernel_rfl
  have c2 : Try.prog.cellsOf 9 = 1 := by kernel_rfl
  have c3 : Try.prog.cellsOf 3 = 1 := by kernel_rfl
  simp only [List.mem_cons, List.not_mem_nil, or_false, forall_eq_or_imp, forall_eq] at hf
  obtain ⟨⟨y0, h0, e0⟩, ⟨y1, h1, e1⟩, y2, h2, e2⟩ := hf
  obtain ⟨k, rfl, hk⟩ := has_int h0 Try.underlying5
  obtain ⟨w, rfl, hw⟩ := has_str h1 Try.underlying9
  obtain ⟨a, rfl, ha⟩ := has_i64 h2 Try.underlying3
  match cs, hl with
  | [x0, x1, x2], _ =>
    simp only [c1, c2, c3, List.drop_zero, List.take_succ_cons, List.take_zero, List.drop_succ_cons, List.cons.injEq, and_true, AV.cells] at e0 e1 e2
    subst e0; subst e1; subst e2
    simp only [Lit.wf, IntKind.min, IntKind.max, IntKind.signed, IntKind.bits, Bool.and_eq_true, decide_eq_true_eq] at hk
    simp at hk
    exact ⟨(k, w, a), rfl, by omega, by omega, hw⟩
theorem acts_has {x : AV} (h : HasT Try.prog 52 x) : ∃ l : List Act, x = .vsl (acts l) ∧ l.length ≤ 9223372036854775807 ∧ ∀ p ∈ l, actIn p := by
  obtain ⟨n, h⟩ := h
  obtain ⟨m, xs, rfl, rfl, hx, hy⟩ := has_slice h Try.underlying52
  obtain ⟨l, rfl, hl⟩ := list_of (f := act) (r := actIn) (fun y hy => act_has hy) xs hy
  exact ⟨l, rfl, by simpa using hx, hl⟩
end Go.AL
/-! gridironlaw17.BranchOthers. -/
namespace Go.AL
open Go.Proofs
set_option linter.unusedSimpArgs false
set_option linter.unusedVariables false
theorem got_drop (n a : ByteArray) : ∀ L : List Br, gotB (dropB L n) a = if a = n then none else gotB L a
  | [] => by simp [dropB, gotB]
  | (b, h) :: L => by
    have ih := got_drop n a L
    rw [dropB, List.filter_cons]
    by_cases e : b = n
    · subst e
      rw [if_neg (by simp), ← dropB, ih, gotB]
      by_cases e2 : a = b
      · rw [if_pos e2, if_pos e2]
      · rw [if_neg e2, if_neg e2, if_neg (fun h => e2 h.symm)]
    · rw [if_pos (by simp [e]), ← dropB, gotB, gotB, ih]
      by_cases e2 : b = a
      · subst e2; simp [e]
      · simp [e2]
theorem got_put {L : List Br} (nd : (L.map Prod.fst).Nodup) (n a : ByteArray) (h : Int) : gotB (putB L n h) a = if a = n then some h else gotB L a := by
  have nd2 : (((n, h) :: dropB L n).map Prod.fst).Nodup := by
    rw [List.map_cons, List.nodup_cons]
    refine ⟨drop_not L n, ?_⟩
    exact (List.Sublist.map Prod.fst List.filter_sublist).nodup nd
  rw [gotB_perm (putB_perm nd n h) nd2, gotB, got_drop]
  by_cases e : n = a
  · subst e; simp
  · have e' : ¬ a = n := fun h => e h.symm
    simp [e, e']
/-- What an act leaves: every other one, and its own if it failed; its own as the act says. -/
structure ActB (L L' : List Br) (n : ByteArray) (e : Int) (w : Option Int) : Prop where
  other : ∀ a hh, gotB L a = some hh → ¬ (a = n ∧ e = 0) → gotB L' a = some hh
  own : e = 0 → gotB L' n = w
theorem actB_drop {L M : List Br} (r : RelB L M) (n : ByteArray) : ActB L (delB L n) n (if (gotB L n).isSome = true then 0 else 4) none := by
  rw [delB_eq r.nd]
  constructor
  · intro a hh h1 h2
    rw [got_drop]
    by_cases e : a = n
    · subst e
      rw [h1] at h2
      exact absurd ⟨rfl, rfl⟩ h2
    · rw [if_neg e, h1]
  · intro _
    rw [got_drop, if_pos rfl]
theorem actB_set {L M : List Br} (r : RelB L M) (n : ByteArray) (h : Int) : ActB L (if setE L n = 0 then putB L n h else L) n (setE L n) (some h) := by
  constructor
  · intro a hh h1 h2
    split
    · rename_i e0
      rw [got_put r.nd]
      by_cases e : a = n
      · exact absurd ⟨e, e0⟩ h2
      · rw [if_neg e, h1]
    · exact h1
  · intro e0
    rw [if_pos e0, got_put r.nd, if_pos rfl]
theorem gotM {L M : List Br} (r : RelB L M) {i : Nat} {a : ByteArray} {h : Int} (hp : M[i]? = some (a, h)) : gotB L a = some h := by
  rw [r.got]; exact (gotB_mem r.srt.nd).2 (List.mem_of_getElem? hp)
theorem risesM {L M : List Br} (r : RelB L M) {i j : Nat} {a a' : ByteArray} {h h' : Int} (hj : i = j + 1) (hp : M[i]? = some (a, h)) (hp' : M[j]? = some (a', h')) : Op.bytesLess a'.data.toList a.data.toList = true := by
  rw [bytesLess_eq]
  obtain ⟨h1, e1⟩ := List.getElem?_eq_some_iff.1 hp
  obtain ⟨h2, e2⟩ := List.getElem?_eq_some_iff.1 hp'
  have := List.pairwise_iff_getElem.1 r.srt j i h2 h1 (by omega)
  rw [e1, e2] at this
  simpa using this
def OtI (l : List Act) (x : Act) (q : Nat) (fr : List AV) (σ : ASt) : Prop := ∃ (i : Nat) (L M : List Br), i + q = l.length ∧ RelB L M ∧ σ = tb2 (hes L) ∧ fr = frm 188 [(0, .vsl (acts l)), (3, .vel [act x] 0 0), (6, .ptr 1 0), (7, vi (i : Nat))]
set_option maxHeartbeats 16000000 in
set_option maxRecDepth 100000 in
theorem others_ok (l : List Act) (k : Int) (n : ByteArray) (hd : Int) (hw : ∀ p ∈ l, 0 ≤ p.1 ∧ p.1 < 256) (hn : n.size ≤ 9223372036854775807) : APure Try.prog 6 [.vsl (acts l), act (k, n, hd)] (vb true) := by
  have hvl := acts_len l
  have c1 := fits17_ok l
  have c2 := alive17_ok
  have hact : act (k, n, hd) = .agg [.p (.int .u8 k), vs n, vi hd] := rfl
  cases hq : fitsA l with
  | false =>
    rw [hq] at c1
    rw [hact]
    refine apure_in Try.func6 Try.ntmps6 rfl ?_
    repeat' first | refine aw_W [] trivial (And.intro @c1 (And.intro @c2 trivial)) ?_ | refine aw_cond rfl (fun h => ?_) (fun h => ?_)
    refine awl_new2 [] rfl rfl bnewT_ok rfl rfl rfl ?_
    simp -implicitDefEqProofs
    repeat' first | refine aw_W [] trivial (And.intro @c1 (And.intro @c2 trivial)) ?_ | refine aw_cond rfl (fun h => ?_) (fun h => ?_)
    simp [tupOf]
  | true =>
    have hfit := fits_all hq
    rw [hq] at c1
    rw [hact]
    refine apure_in Try.func6 Try.ntmps6 rfl ?_
    repeat' first | refine aw_W [] trivial (And.intro @c1 (And.intro @c2 trivial)) ?_ | refine aw_cond rfl (fun h => ?_) (fun h => ?_)
    refine awl_new2 [] rfl rfl bnewT_ok rfl rfl rfl ?_
    simp -implicitDefEqProofs
    repeat' first | refine aw_W [] trivial (And.intro @c1 (And.intro @c2 trivial)) ?_ | refine aw_cond rfl (fun h => ?_) (fun h => ?_)
    refine aw_loopW [0, 3, 6, 7] (OtI l (k, n, hd)) l.length ?_ ?_
    · refine ⟨_, le_tb2, 0, [], [], by omega, .nil, rfl, ?_⟩
      simp [hact]
    · rintro q fr σ ⟨i, L, M, hi, r, rfl, rfl⟩
      simp -implicitDefEqProofs
      have hM := r.len
      have hL := r.lenL
      by_cases hlt : i < l.length
      · have hlti : (i : Int) < l.length := by omega
        obtain ⟨⟨k', a, hd'⟩, hp⟩ : ∃ p, l[i]? = some p := ⟨_, List.getElem?_eq_getElem hlt⟩
        have hg := acts_get hp
        have wi : IntKind.i64.wrap ((i : Int) + 1) = (i : Int) + 1 := wrap_id (by omega) (by omega)
        have hla : i < (acts l).length := by omega
        have ha : a.size ≤ 100 := hfit.2 _ (List.mem_of_getElem? hp)
        by_cases k3 : k'.tmod 5 = 3
        · have t1 := bdrop_ok L a
          have r' := r.drop a
          generalize (if (gotB L a).isSome = true then (0 : Int) else 4) = e at *
          repeat' first | refine aw_W [] (And.intro @hlti (And.intro @hvl (And.intro @hg (And.intro @hla (And.intro @wi @k3))))) trivial ?_ | refine aw_cond rfl (fun h => ?_) (fun h => ?_)
          refine awl_tab2 [] rfl t1 rfl rfl rfl rfl (by simp) (by simp) ?_
          simp -implicitDefEqProofs
          repeat' first | refine aw_W [] (And.intro @hlti (And.intro @hvl (And.intro @hg (And.intro @hla (And.intro @wi @k3))))) trivial ?_ | refine aw_cond rfl (fun h => ?_) (fun h => ?_)
          exact ⟨q - 1, by omega, _, le_tb2, i + 1, _, _, by omega, r', rfl, by simp [hact]⟩
        · have t1 := bset_ok L (by omega) a (by omega) hd'
          have r' := r.put ha hd'
          generalize (if setE L a = 0 then putB L a hd' else L) = L' at *
          generalize setE L a = e at *
          generalize setB M a hd' = M' at *
          repeat' (first
            | refine aw_seq ?_
            | ((first | refine aw_run [] ?_ | refine aw_ymix [] draws (by decide +kernel) ?_); try simp -implicitDefEqProofs (maxSteps := 1000000) [hlti, hvl, hg, hla, wi, k3])
            | ((first | refine aw_zrun [] [25] draws (by decide +kernel) (by decide +kernel) ?_ | refine zl_skip (by simp) rfl ?_); try simp -implicitDefEqProofs (maxSteps := 1000000) [hlti, hvl, hg, hla, wi, k3]; repeat first | refine zcurL (by decide +kernel) ?_ | refine zcurH (by decide +kernel) ?_ | refine zcurL' (by decide +kernel) ?_ | refine zcurH' (by decide +kernel) ?_)
            | ((first | refine aw_yrun draws (by kernel_rfl) ?_ | refine awl_skip' [] rfl ?_ | refine yl_skip rfl ?_ | refine aw_skip ?_ | refine aw_exit ?_); try simp -implicitDefEqProofs (maxSteps := 1000000) [hlti, hvl, hg, hla, wi, k3])
            | (refine aw_cond rfl (fun h => ?_) (fun h => ?_) <;> try (with_reducible first | exact ff_tt h | exact tt_ff h))
            | refine aw_block ?_
            | refine aw_ret (ret_of (.inr rfl) (by simp [Try.results6]; rfl) (Fin.of ?_))
            | refine ret_of (.inl rfl) (by simp [Try.results6]; rfl) (Fin.of ?_))
          refine zl_tab2 (by simp) rfl rfl t1 rfl (by kernel_rfl) rfl (by simp) (by simp) ?_
          simp -implicitDefEqProofs
          repeat' (first
            | refine aw_seq ?_
            | ((first | refine aw_run [] ?_ | refine aw_ymix [] draws (by decide +kernel) ?_); try simp -implicitDefEqProofs (maxSteps := 1000000) [hlti, hvl, hg, hla, wi])
            | ((first | refine aw_zrun [] [25] draws (by decide +kernel) (by decide +kernel) ?_ | refine zl_skip (by simp) rfl ?_); try simp -implicitDefEqProofs (maxSteps := 1000000) [hlti, hvl, hg, hla, wi]; repeat first | refine zcurL (by decide +kernel) ?_ | refine zcurH (by decide +kernel) ?_ | refine zcurL' (by decide +kernel) ?_ | refine zcurH' (by decide +kernel) ?_)
            | ((first | refine aw_yrun draws (by kernel_rfl) ?_ | refine awl_skip' [] rfl ?_ | refine yl_skip rfl ?_ | refine aw_skip ?_ | refine aw_exit ?_); try simp -implicitDefEqProofs (maxSteps := 1000000) [hlti, hvl, hg, hla, wi])
            | (refine aw_cond rfl (fun h => ?_) (fun h => ?_) <;> try (with_reducible first | exact ff_tt h | exact tt_ff h))
            | refine aw_block ?_
            | refine aw_ret (ret_of (.inr rfl) (by simp [Try.results6]; rfl) (Fin.of ?_))
            | refine ret_of (.inl rfl) (by simp [Try.results6]; rfl) (Fin.of ?_))
          exact ⟨q - 1, by omega, _, le_tb2, i + 1, _, _, by omega, r', rfl, by simp [hact]⟩
      · have hlti : ¬ (i : Int) < l.length := by omega
        obtain ⟨V1, hV1⟩ : ∃ V, V = (M.map Prod.fst).map vs := ⟨_, rfl⟩
        obtain ⟨V2, hV2⟩ : ∃ V, V = (M.map Prod.snd).map vi := ⟨_, rfl⟩
        have b1 : TC Try.prog 30 [] (hes L) (.vsl V1) (hes L) := by
          have := bnames_ok sorts_keys L r.nd r.szL (by omega)
          change TC _ _ _ _ (.vsl ((namesB L).map vs)) _ at this
          rw [r.names, ← hV1] at this
          exact this
        have b2 : TC Try.prog 31 [] (hes L) (.vsl V2) (hes L) := by
          have := bheads_ok sorts_keys L r.nd r.szL (by omega)
          rw [r.heads, ← hV2] at this
          exact this
        have hvn : V1.length = M.length := by simp [hV1]
        have hvh : V2.length = M.length := by simp [hV2]
        have q1 : ∀ c ∈ V1, Cl c := fun c hc => by
          rw [hV1] at hc
          obtain ⟨_, _, rfl⟩ := List.mem_map.1 hc
          exact .p _
        have q2 : ∀ c ∈ V2, Cl c := fun c hc => by
          rw [hV2] at hc
          obtain ⟨_, _, rfl⟩ := List.mem_map.1 hc
          exact .p _
        have hM6 : (M.length : Int) ≤ 16 := by omega
        by_cases k3 : k.tmod 5 = 3
        · have t1 := bdrop_ok L n
          have hA := actB_drop r n
          generalize (if (gotB L n).isSome = true then (0 : Int) else 4) = e at *
          generalize delB L n = L' at *
          repeat' first | refine aw_W [] (And.intro @hlti @hvl) trivial ?_ | refine aw_cond rfl (fun h => ?_) (fun h => ?_)
          refine awl_tab2 [] rfl b1 rfl rfl rfl rfl (by simp) (.vsl _ q1) ?_
          simp -implicitDefEqProofs
          repeat' first | refine aw_W [] @k3 trivial ?_ | refine aw_cond rfl (fun h => ?_) (fun h => ?_)
          refine awl_tab2 [] rfl b2 rfl rfl rfl rfl (by simp) (.vsl _ q2) ?_
          simp -implicitDefEqProofs
          repeat' first | refine aw_W [] @k3 trivial ?_ | refine aw_cond rfl (fun h => ?_) (fun h => ?_)
          refine awl_tab2 [] rfl t1 rfl rfl rfl rfl (by simp) (by simp) ?_
          simp -implicitDefEqProofs
          repeat' first | refine aw_W [] @k3 trivial ?_ | refine aw_cond rfl (fun h => ?_) (fun h => ?_)
          refine aw_loopW [3, 6, 8, 9, 10, 11] (fun q fr σ => ∃ i : Nat, i + q = M.length ∧ σ = tb2 (hes L') ∧ fr = frm 188 [(3, .vel [.agg [.p (.int .u8 k), vs n, vi hd]] 0 0), (6, .ptr 1 0), (8, .vsl V1), (9, .vsl V2), (10, vi e), (11, vi (i : Nat))]) M.length ?_ ?_
          · refine ⟨_, le_tb2, 0, by omega, rfl, ?_⟩
            simp [hact]
          · rintro q fr σ ⟨i, hi, rfl, rfl⟩
            simp -implicitDefEqProofs
            by_cases hlt2 : i < M.length
            · have hlt2i : (i : Int) < M.length := by omega
              obtain ⟨⟨a, hh⟩, hp⟩ : ∃ p, M[i]? = some p := ⟨_, List.getElem?_eq_getElem hlt2⟩
              have hg1 : V1[i]? = some (vs a) := by simp [hV1, hp]
              have hg2 : V2[i]? = some (vi hh) := by simp [hV2, hp]
              have wi : IntKind.i64.wrap ((i : Int) + 1) = (i : Int) + 1 := wrap_id (by omega) (by omega)
              have hl1 : i < V1.length := by omega
              have hl2 : i < V2.length := by omega
              have t4 := bhead_ok L' a
              by_cases ea : a = n
              · subst ea
                by_cases ee : e = 0
                · generalize (gotB L' a).getD 0 = v1 at t4
                  generalize (if (gotB L' a).isSome = true then (0 : Int) else 4) = v2 at t4
                  rcases Nat.eq_zero_or_pos i with hi0 | hi0
                  · have hz : ¬ (0 : Int) < (i : Int) := by omega
                    have hzn : ¬ 0 < i := by omega
                    have wz : IntKind.i64.wrap ((i : Int) - 1) = -1 := by rw [wrap_id (by omega) (by omega)]; omega
                    repeat' first | refine aw_W [] (And.intro @hlt2i (And.intro @hvn (And.intro @hvh (And.intro @hg1 @hl1)))) trivial ?_ | refine aw_cond rfl (fun h => ?_) (fun h => ?_)
                    refine awl_tab2 [] rfl t4 rfl rfl rfl rfl (by simp) (by simp) ?_
                    simp -implicitDefEqProofs
                    repeat' first | refine aw_W [] (And.intro @hvn (And.intro @hvh (And.intro @hg1 (And.intro @hg2 (And.intro @hl1 (And.intro @hl2 (And.intro @wi (And.intro @hz (And.intro @hzn (And.intro @wz @ee)))))))))) trivial ?_ | refine aw_cond rfl (fun h => ?_) (fun h => ?_)
                    exact ⟨q - 1, by omega, _, le_tb2, i + 1, by omega, rfl, by simp⟩
                  · obtain ⟨j, hj⟩ : ∃ j, i = j + 1 := ⟨i - 1, by omega⟩
                    obtain ⟨⟨a', hh'⟩, hp'⟩ : ∃ p, M[j]? = some p := ⟨_, List.getElem?_eq_getElem (by omega)⟩
                    have hz : (0 : Int) < (i : Int) := by omega
                    have wj : IntKind.i64.wrap ((i : Int) - 1) = (j : Int) := by rw [wrap_id (by omega) (by omega)]; omega
                    have hgj : V1[j]? = some (vs a') := by simp [hV1, hp']
                    have hlj : j < V1.length := by omega
                    have hbl := risesM r hj hp hp'
                    repeat' first | refine aw_W [] (And.intro @hlt2i (And.intro @hvn (And.intro @hvh (And.intro @hg1 @hl1)))) trivial ?_ | refine aw_cond rfl (fun h => ?_) (fun h => ?_)
                    refine awl_tab2 [] rfl t4 rfl rfl rfl rfl (by simp) (by simp) ?_
                    simp -implicitDefEqProofs
                    repeat' first | refine aw_W [] (And.intro @hvn (And.intro @hvh (And.intro @hg1 (And.intro @hg2 (And.intro @hl1 (And.intro @hl2 (And.intro @wi (And.intro @hz (And.intro @hi0 (And.intro @wj (And.intro @hgj (And.intro @hlj (And.intro @hbl @ee))))))))))))) trivial ?_ | refine aw_cond rfl (fun h => ?_) (fun h => ?_)
                    exact ⟨q - 1, by omega, _, le_tb2, i + 1, by omega, rfl, by simp⟩
                · rw [hA.other a hh (gotM r hp) (fun h => ee h.2)] at t4
                  simp only [Option.isSome_some, if_true, Option.getD_some] at t4
                  rcases Nat.eq_zero_or_pos i with hi0 | hi0
                  · have hz : ¬ (0 : Int) < (i : Int) := by omega
                    have hzn : ¬ 0 < i := by omega
                    have wz : IntKind.i64.wrap ((i : Int) - 1) = -1 := by rw [wrap_id (by omega) (by omega)]; omega
                    repeat' first | refine aw_W [] (And.intro @hlt2i (And.intro @hvn (And.intro @hvh (And.intro @hg1 @hl1)))) trivial ?_ | refine aw_cond rfl (fun h => ?_) (fun h => ?_)
                    refine awl_tab2 [] rfl t4 rfl rfl rfl rfl (by simp) (by simp) ?_
                    simp -implicitDefEqProofs
                    repeat' first | refine aw_W [] (And.intro @hvn (And.intro @hvh (And.intro @hg1 (And.intro @hg2 (And.intro @hl1 (And.intro @hl2 (And.intro @wi (And.intro @hz (And.intro @hzn (And.intro @wz @ee)))))))))) trivial ?_ | refine aw_cond rfl (fun h => ?_) (fun h => ?_)
                    exact ⟨q - 1, by omega, _, le_tb2, i + 1, by omega, rfl, by simp⟩
                  · obtain ⟨j, hj⟩ : ∃ j, i = j + 1 := ⟨i - 1, by omega⟩
                    obtain ⟨⟨a', hh'⟩, hp'⟩ : ∃ p, M[j]? = some p := ⟨_, List.getElem?_eq_getElem (by omega)⟩
                    have hz : (0 : Int) < (i : Int) := by omega
                    have wj : IntKind.i64.wrap ((i : Int) - 1) = (j : Int) := by rw [wrap_id (by omega) (by omega)]; omega
                    have hgj : V1[j]? = some (vs a') := by simp [hV1, hp']
                    have hlj : j < V1.length := by omega
                    have hbl := risesM r hj hp hp'
                    repeat' first | refine aw_W [] (And.intro @hlt2i (And.intro @hvn (And.intro @hvh (And.intro @hg1 @hl1)))) trivial ?_ | refine aw_cond rfl (fun h => ?_) (fun h => ?_)
                    refine awl_tab2 [] rfl t4 rfl rfl rfl rfl (by simp) (by simp) ?_
                    simp -implicitDefEqProofs
                    repeat' first | refine aw_W [] (And.intro @hvn (And.intro @hvh (And.intro @hg1 (And.intro @hg2 (And.intro @hl1 (And.intro @hl2 (And.intro @wi (And.intro @hz (And.intro @hi0 (And.intro @wj (And.intro @hgj (And.intro @hlj (And.intro @hbl @ee))))))))))))) trivial ?_ | refine aw_cond rfl (fun h => ?_) (fun h => ?_)
                    exact ⟨q - 1, by omega, _, le_tb2, i + 1, by omega, rfl, by simp⟩
              · rw [hA.other a hh (gotM r hp) (fun h => ea h.1)] at t4
                simp only [Option.isSome_some, if_true, Option.getD_some] at t4
                rcases Nat.eq_zero_or_pos i with hi0 | hi0
                · have hz : ¬ (0 : Int) < (i : Int) := by omega
                  have hzn : ¬ 0 < i := by omega
                  have wz : IntKind.i64.wrap ((i : Int) - 1) = -1 := by rw [wrap_id (by omega) (by omega)]; omega
                  repeat' first | refine aw_W [] (And.intro @hlt2i (And.intro @hvn (And.intro @hvh (And.intro @hg1 @hl1)))) trivial ?_ | refine aw_cond rfl (fun h => ?_) (fun h => ?_)
                  refine awl_tab2 [] rfl t4 rfl rfl rfl rfl (by simp) (by simp) ?_
                  simp -implicitDefEqProofs
                  repeat' first | refine aw_W [] (And.intro @hvn (And.intro @hvh (And.intro @hg1 (And.intro @hg2 (And.intro @hl1 (And.intro @hl2 (And.intro @wi (And.intro @hz (And.intro @hzn (And.intro @wz @ea)))))))))) trivial ?_ | refine aw_cond rfl (fun h => ?_) (fun h => ?_)
                  exact ⟨q - 1, by omega, _, le_tb2, i + 1, by omega, rfl, by simp⟩
                · obtain ⟨j, hj⟩ : ∃ j, i = j + 1 := ⟨i - 1, by omega⟩
                  obtain ⟨⟨a', hh'⟩, hp'⟩ : ∃ p, M[j]? = some p := ⟨_, List.getElem?_eq_getElem (by omega)⟩
                  have hz : (0 : Int) < (i : Int) := by omega
                  have wj : IntKind.i64.wrap ((i : Int) - 1) = (j : Int) := by rw [wrap_id (by omega) (by omega)]; omega
                  have hgj : V1[j]? = some (vs a') := by simp [hV1, hp']
                  have hlj : j < V1.length := by omega
                  have hbl := risesM r hj hp hp'
                  repeat' first | refine aw_W [] (And.intro @hlt2i (And.intro @hvn (And.intro @hvh (And.intro @hg1 @hl1)))) trivial ?_ | refine aw_cond rfl (fun h => ?_) (fun h => ?_)
                  refine awl_tab2 [] rfl t4 rfl rfl rfl rfl (by simp) (by simp) ?_
                  simp -implicitDefEqProofs
                  repeat' first | refine aw_W [] (And.intro @hvn (And.intro @hvh (And.intro @hg1 (And.intro @hg2 (And.intro @hl1 (And.intro @hl2 (And.intro @wi (And.intro @hz (And.intro @hi0 (And.intro @wj (And.intro @hgj (And.intro @hlj (And.intro @hbl @ea))))))))))))) trivial ?_ | refine aw_cond rfl (fun h => ?_) (fun h => ?_)
                  exact ⟨q - 1, by omega, _, le_tb2, i + 1, by omega, rfl, by simp⟩
            · have hlt2i : ¬ (i : Int) < M.length := by omega
              have t5 := bhead_ok L' n
              repeat' first | refine aw_W [] (And.intro @hlt2i (And.intro @hvn @hvh)) trivial ?_ | refine aw_cond rfl (fun h => ?_) (fun h => ?_)
              by_cases ee : e = 0
              · rw [hA.own ee] at t5
                simp only [Option.isSome_some, Option.isSome_none, Bool.false_eq_true, if_true, if_false, Option.getD_some, Option.getD_none] at t5
                refine awl_tab2 [] rfl t5 rfl rfl rfl rfl (by simp) (by simp) ?_
                simp -implicitDefEqProofs
                repeat' first | refine aw_W [] (And.intro @k3 (And.intro @hvn (And.intro @hvh (And.intro @hM6 @ee)))) (And.intro @c2 trivial) ?_ | refine aw_cond rfl (fun h => ?_) (fun h => ?_)
                simp [tupOf]
              · generalize (gotB L' n).getD 0 = v1 at t5
                generalize (if (gotB L' n).isSome = true then (0 : Int) else 4) = v2 at t5
                refine awl_tab2 [] rfl t5 rfl rfl rfl rfl (by simp) (by simp) ?_
                simp -implicitDefEqProofs
                repeat' first | refine aw_W [] (And.intro @k3 (And.intro @hvn (And.intro @hvh (And.intro @hM6 @ee)))) (And.intro @c2 trivial) ?_ | refine aw_cond rfl (fun h => ?_) (fun h => ?_)
                simp [tupOf]
        · have t1 := bset_ok L (by omega) n hn hd
          have hA := actB_set r n hd
          generalize (if setE L n = 0 then putB L n hd else L) = L' at *
          generalize setE L n = e at *
          repeat' first | refine aw_W [] (And.intro @hlti @hvl) trivial ?_ | refine aw_cond rfl (fun h => ?_) (fun h => ?_)
          refine awl_tab2 [] rfl b1 rfl rfl rfl rfl (by simp) (.vsl _ q1) ?_
          simp -implicitDefEqProofs
          repeat' first | refine aw_W [] @k3 trivial ?_ | refine aw_cond rfl (fun h => ?_) (fun h => ?_)
          refine awl_tab2 [] rfl b2 rfl rfl rfl rfl (by simp) (.vsl _ q2) ?_
          simp -implicitDefEqProofs
          repeat' first | refine aw_W [] @k3 trivial ?_ | refine aw_cond rfl (fun h => ?_) (fun h => ?_)
          refine awl_tab2 [] rfl t1 rfl rfl rfl rfl (by simp) (by simp) ?_
          simp -implicitDefEqProofs
          repeat' first | refine aw_W [] @k3 trivial ?_ | refine aw_cond rfl (fun h => ?_) (fun h => ?_)
          refine aw_loopW [3, 6, 8, 9, 10, 11] (fun q fr σ => ∃ i : Nat, i + q = M.length ∧ σ = tb2 (hes L') ∧ fr = frm 188 [(3, .vel [.agg [.p (.int .u8 k), vs n, vi hd]] 0 0), (6, .ptr 1 0), (8, .vsl V1), (9, .vsl V2), (10, vi e), (11, vi (i : Nat))]) M.length ?_ ?_
          · refine ⟨_, le_tb2, 0, by omega, rfl, ?_⟩
            simp [hact]
          · rintro q fr σ ⟨i, hi, rfl, rfl⟩
            simp -implicitDefEqProofs
            by_cases hlt2 : i < M.length
            · have hlt2i : (i : Int) < M.length := by omega
              obtain ⟨⟨a, hh⟩, hp⟩ : ∃ p, M[i]? = some p := ⟨_, List.getElem?_eq_getElem hlt2⟩
              have hg1 : V1[i]? = some (vs a) := by simp [hV1, hp]
              have hg2 : V2[i]? = some (vi hh) := by simp [hV2, hp]
              have wi : IntKind.i64.wrap ((i : Int) + 1) = (i : Int) + 1 := wrap_id (by omega) (by omega)
              have hl1 : i < V1.length := by omega
              have hl2 : i < V2.length := by omega
              have t4 := bhead_ok L' a
              by_cases ea : a = n
              · subst ea
                by_cases ee : e = 0
                · generalize (gotB L' a).getD 0 = v1 at t4
                  generalize (if (gotB L' a).isSome = true then (0 : Int) else 4) = v2 at t4
                  rcases Nat.eq_zero_or_pos i with hi0 | hi0
                  · have hz : ¬ (0 : Int) < (i : Int) := by omega
                    have hzn : ¬ 0 < i := by omega
                    have wz : IntKind.i64.wrap ((i : Int) - 1) = -1 := by rw [wrap_id (by omega) (by omega)]; omega
                    repeat' first | refine aw_W [] (And.intro @hlt2i (And.intro @hvn (And.intro @hvh (And.intro @hg1 @hl1)))) trivial ?_ | refine aw_cond rfl (fun h => ?_) (fun h => ?_)
                    refine awl_tab2 [] rfl t4 rfl rfl rfl rfl (by simp) (by simp) ?_
                    simp -implicitDefEqProofs
                    repeat' first | refine aw_W [] (And.intro @hvn (And.intro @hvh (And.intro @hg1 (And.intro @hg2 (And.intro @hl1 (And.intro @hl2 (And.intro @wi (And.intro @hz (And.intro @hzn (And.intro @wz @ee)))))))))) trivial ?_ | refine aw_cond rfl (fun h => ?_) (fun h => ?_)
                    exact ⟨q - 1, by omega, _, le_tb2, i + 1, by omega, rfl, by simp⟩
                  · obtain ⟨j, hj⟩ : ∃ j, i = j + 1 := ⟨i - 1, by omega⟩
                    obtain ⟨⟨a', hh'⟩, hp'⟩ : ∃ p, M[j]? = some p := ⟨_, List.getElem?_eq_getElem (by omega)⟩
                    have hz : (0 : Int) < (i : Int) := by omega
                    have wj : IntKind.i64.wrap ((i : Int) - 1) = (j : Int) := by rw [wrap_id (by omega) (by omega)]; omega
                    have hgj : V1[j]? = some (vs a') := by simp [hV1, hp']
                    have hlj : j < V1.length := by omega
                    have hbl := risesM r hj hp hp'
                    repeat' first | refine aw_W [] (And.intro @hlt2i (And.intro @hvn (And.intro @hvh (And.intro @hg1 @hl1)))) trivial ?_ | refine aw_cond rfl (fun h => ?_) (fun h => ?_)
                    refine awl_tab2 [] rfl t4 rfl rfl rfl rfl (by simp) (by simp) ?_
                    simp -implicitDefEqProofs
                    repeat' first | refine aw_W [] (And.intro @hvn (And.intro @hvh (And.intro @hg1 (And.intro @hg2 (And.intro @hl1 (And.intro @hl2 (And.intro @wi (And.intro @hz (And.intro @hi0 (And.intro @wj (And.intro @hgj (And.intro @hlj (And.intro @hbl @ee))))))))))))) trivial ?_ | refine aw_cond rfl (fun h => ?_) (fun h => ?_)
                    exact ⟨q - 1, by omega, _, le_tb2, i + 1, by omega, rfl, by simp⟩
                · rw [hA.other a hh (gotM r hp) (fun h => ee h.2)] at t4
                  simp only [Option.isSome_some, if_true, Option.getD_some] at t4
                  rcases Nat.eq_zero_or_pos i with hi0 | hi0
                  · have hz : ¬ (0 : Int) < (i : Int) := by omega
                    have hzn : ¬ 0 < i := by omega
                    have wz : IntKind.i64.wrap ((i : Int) - 1) = -1 := by rw [wrap_id (by omega) (by omega)]; omega
                    repeat' first | refine aw_W [] (And.intro @hlt2i (And.intro @hvn (And.intro @hvh (And.intro @hg1 @hl1)))) trivial ?_ | refine aw_cond rfl (fun h => ?_) (fun h => ?_)
                    refine awl_tab2 [] rfl t4 rfl rfl rfl rfl (by simp) (by simp) ?_
                    simp -implicitDefEqProofs
                    repeat' first | refine aw_W [] (And.intro @hvn (And.intro @hvh (And.intro @hg1 (And.intro @hg2 (And.intro @hl1 (And.intro @hl2 (And.intro @wi (And.intro @hz (And.intro @hzn (And.intro @wz @ee)))))))))) trivial ?_ | refine aw_cond rfl (fun h => ?_) (fun h => ?_)
                    exact ⟨q - 1, by omega, _, le_tb2, i + 1, by omega, rfl, by simp⟩
                  · obtain ⟨j, hj⟩ : ∃ j, i = j + 1 := ⟨i - 1, by omega⟩
                    obtain ⟨⟨a', hh'⟩, hp'⟩ : ∃ p, M[j]? = some p := ⟨_, List.getElem?_eq_getElem (by omega)⟩
                    have hz : (0 : Int) < (i : Int) := by omega
                    have wj : IntKind.i64.wrap ((i : Int) - 1) = (j : Int) := by rw [wrap_id (by omega) (by omega)]; omega
                    have hgj : V1[j]? = some (vs a') := by simp [hV1, hp']
                    have hlj : j < V1.length := by omega
                    have hbl := risesM r hj hp hp'
                    repeat' first | refine aw_W [] (And.intro @hlt2i (And.intro @hvn (And.intro @hvh (And.intro @hg1 @hl1)))) trivial ?_ | refine aw_cond rfl (fun h => ?_) (fun h => ?_)
                    refine awl_tab2 [] rfl t4 rfl rfl rfl rfl (by simp) (by simp) ?_
                    simp -implicitDefEqProofs
                    repeat' first | refine aw_W [] (And.intro @hvn (And.intro @hvh (And.intro @hg1 (And.intro @hg2 (And.intro @hl1 (And.intro @hl2 (And.intro @wi (And.intro @hz (And.intro @hi0 (And.intro @wj (And.intro @hgj (And.intro @hlj (And.intro @hbl @ee))))))))))))) trivial ?_ | refine aw_cond rfl (fun h => ?_) (fun h => ?_)
                    exact ⟨q - 1, by omega, _, le_tb2, i + 1, by omega, rfl, by simp⟩
              · rw [hA.other a hh (gotM r hp) (fun h => ea h.1)] at t4
                simp only [Option.isSome_some, if_true, Option.getD_some] at t4
                rcases Nat.eq_zero_or_pos i with hi0 | hi0
                · have hz : ¬ (0 : Int) < (i : Int) := by omega
                  have hzn : ¬ 0 < i := by omega
                  have wz : IntKind.i64.wrap ((i : Int) - 1) = -1 := by rw [wrap_id (by omega) (by omega)]; omega
                  repeat' first | refine aw_W [] (And.intro @hlt2i (And.intro @hvn (And.intro @hvh (And.intro @hg1 @hl1)))) trivial ?_ | refine aw_cond rfl (fun h => ?_) (fun h => ?_)
                  refine awl_tab2 [] rfl t4 rfl rfl rfl rfl (by simp) (by simp) ?_
                  simp -implicitDefEqProofs
                  repeat' first | refine aw_W [] (And.intro @hvn (And.intro @hvh (And.intro @hg1 (And.intro @hg2 (And.intro @hl1 (And.intro @hl2 (And.intro @wi (And.intro @hz (And.intro @hzn (And.intro @wz @ea)))))))))) trivial ?_ | refine aw_cond rfl (fun h => ?_) (fun h => ?_)
                  exact ⟨q - 1, by omega, _, le_tb2, i + 1, by omega, rfl, by simp⟩
                · obtain ⟨j, hj⟩ : ∃ j, i = j + 1 := ⟨i - 1, by omega⟩
                  obtain ⟨⟨a', hh'⟩, hp'⟩ : ∃ p, M[j]? = some p := ⟨_, List.getElem?_eq_getElem (by omega)⟩
                  have hz : (0 : Int) < (i : Int) := by omega
                  have wj : IntKind.i64.wrap ((i : Int) - 1) = (j : Int) := by rw [wrap_id (by omega) (by omega)]; omega
                  have hgj : V1[j]? = some (vs a') := by simp [hV1, hp']
                  have hlj : j < V1.length := by omega
                  have hbl := risesM r hj hp hp'
                  repeat' first | refine aw_W [] (And.intro @hlt2i (And.intro @hvn (And.intro @hvh (And.intro @hg1 @hl1)))) trivial ?_ | refine aw_cond rfl (fun h => ?_) (fun h => ?_)
                  refine awl_tab2 [] rfl t4 rfl rfl rfl rfl (by simp) (by simp) ?_
                  simp -implicitDefEqProofs
                  repeat' first | refine aw_W [] (And.intro @hvn (And.intro @hvh (And.intro @hg1 (And.intro @hg2 (And.intro @hl1 (And.intro @hl2 (And.intro @wi (And.intro @hz (And.intro @hi0 (And.intro @wj (And.intro @hgj (And.intro @hlj (And.intro @hbl @ea))))))))))))) trivial ?_ | refine aw_cond rfl (fun h => ?_) (fun h => ?_)
                  exact ⟨q - 1, by omega, _, le_tb2, i + 1, by omega, rfl, by simp⟩
            · have hlt2i : ¬ (i : Int) < M.length := by omega
              have t5 := bhead_ok L' n
              repeat' first | refine aw_W [] (And.intro @hlt2i (And.intro @hvn @hvh)) trivial ?_ | refine aw_cond rfl (fun h => ?_) (fun h => ?_)
              by_cases ee : e = 0
              · rw [hA.own ee] at t5
                simp only [Option.isSome_some, Option.isSome_none, Bool.false_eq_true, if_true, if_false, Option.getD_some, Option.getD_none] at t5
                refine awl_tab2 [] rfl t5 rfl rfl rfl rfl (by simp) (by simp) ?_
                simp -implicitDefEqProofs
                repeat' first | refine aw_W [] (And.intro @k3 (And.intro @hvn (And.intro @hvh (And.intro @hM6 @ee)))) (And.intro @c2 trivial) ?_ | refine aw_cond rfl (fun h => ?_) (fun h => ?_)
                simp [tupOf]
              · generalize (gotB L' n).getD 0 = v1 at t5
                generalize (if (gotB L' n).isSome = true then (0 : Int) else 4) = v2 at t5
                refine awl_tab2 [] rfl t5 rfl rfl rfl rfl (by simp) (by simp) ?_
                simp -implicitDefEqProofs
                repeat' first | refine aw_W [] (And.intro @k3 (And.intro @hvn (And.intro @hvh (And.intro @hM6 @ee)))) (And.intro @c2 trivial) ?_ | refine aw_cond rfl (fun h => ?_) (fun h => ?_)
                simp [tupOf]
end Go.AL
/-! BranchOthers, for its row. -/
namespace Go.AL
open Go.Proofs
theorem BranchOthers_all (x y : AV) (hx : HasT Try.prog 52 x) (hy : HasT Try.prog 59 y) :
    APure Try.prog 6 [x, y] (vb true) := by
  obtain ⟨l, rfl, hl, hp⟩ := acts_has hx
  obtain ⟨m, hy⟩ := hy
  obtain ⟨⟨k, n, hd⟩, rfl, _, _, hn⟩ := act_has hy
  exact others_ok l k n hd (fun p h => ⟨(hp p h).1, (hp p h).2.1⟩) hn
end Go.AL
