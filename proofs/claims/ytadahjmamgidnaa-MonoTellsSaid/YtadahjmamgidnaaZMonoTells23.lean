/- Parts of the proof of MonoTells: the logic, contracts, plain laws. -/
import Derived.Test.YtadahjmamgidnaaZMonoTells22
/-! Contracts: gridironref05.all, may, Right. -/
namespace Go.AL
open Go.Proofs
set_option linter.unusedSimpArgs false
set_option linter.unusedVariables false
@[simp] def Tree.kind : Tree → Int
  | .mk k _ _ _ _ _ _ _ => k
def passB (sp co may : Bool) (k : Int) : Bool := may && !(!sp && decide (k = 6)) && !(co && !decide (k = 6) && !decide (k = 2))
def isFn (w : ByteArray) : Bool := decide (w = ⟨#[83, 85, 77]⟩) || decide (w = ⟨#[77, 73, 78]⟩) || decide (w = ⟨#[77, 65, 88]⟩) || decide (w = bCOUNT)
mutual
def mayB : Tree → Bool
  | .mk k n a b c d w ks =>
    if k = 0 then onlyB (.mk k n a b c d w ks) 0 && decide (0 ≤ n)
    else if k = 1 then onlyB (.mk k n a b c d w ks) 0 && rightP a b && (decide (a = c) && decide (b = d))
    else if k = 2 then onlyB (.mk k n a b c d w ks) 0
    else if k = 6 then onlyB (.mk k n a b c d w ks) 0 && wholeP a b c d
    else if k = 3 then onlyB (.mk k n a b c d w ks) 1 && allB false false ks
    else if k = 4 then onlyB (.mk k n a b c d w ks) 2 && allB false false ks && decide (0 < lvl w)
    else if k = 5 then (if w = bIF then onlyB (.mk k n a b c d w ks) ks.length && allB (!decide (w = bIF)) (decide (w = bCOUNT)) ks && decide ((ks.length : Int) = 3)
      else if isFn w = true then onlyB (.mk k n a b c d w ks) ks.length && allB (!decide (w = bIF)) (decide (w = bCOUNT)) ks && decide (0 < (ks.length : Int)) else false)
    else false
def allB (sp co : Bool) : List Tree → Bool
  | [] => true
  | t :: ts => passB sp co (mayB t) t.kind && allB sp co ts
end
def keepB (sp co : Bool) (t : Tree) : Bool := passB sp co (mayB t) t.kind
theorem allB_all (sp co : Bool) : ∀ l : List Tree, allB sp co l = l.all (keepB sp co)
  | [] => by simp [allB]
  | t :: ts => by rw [allB, allB_all sp co ts]; rfl
def MayP (t : Tree) : Prop := t.sh → APure Try.prog 54 [t.av] (vb (mayB t))
set_option maxHeartbeats 8000000 in
set_option maxRecDepth 100000 in
theorem all5_ok (k n a b c d : Int) (w : ByteArray) (ks : List Tree) (ih : ∀ t ∈ ks, MayP t) (hlk : ks.length ≤ 9223372036854775807) (hsh : ∀ t ∈ ks, t.sh) (sp co : Bool) :
    APure Try.prog 80 [.agg [vi k, vi n, vi a, vi b, vi c, vi d, vs w, .vsl (avs ks)], vb sp, vb co] (vb (allB sp co ks)) := by
  have hl := avs_len ks
  rw [allB_all]
  refine apure_of Try.func80 Try.ntmps80 rfl ?_
  simp only [List.length_cons, List.length_nil, List.cons_append, List.nil_append, List.replicate]
  repeat' (first
    | refine aw_seq ?_
    | (refine aw_run [8] ?_; try simp -implicitDefEqProofs (maxSteps := 1000000) [hl])
    | ((first | refine awl_skip' [8] rfl ?_ | refine aw_skip ?_ | refine aw_exit ?_); try simp -implicitDefEqProofs (maxSteps := 1000000) [hl])
    | (refine aw_cond rfl (fun h => ?_) (fun h => ?_) <;> try (with_reducible first | exact ff_tt h | exact tt_ff h))
    | refine aw_block ?_
    | refine aw_ret (ret_of (.inr rfl) (by simp [Try.results80]; rfl) (Fin.of ?_))
    | refine ret_of (.inl rfl) (by simp [Try.results80]; rfl) (Fin.of ?_))
  refine aw_loopW [1, 2, 3, 7] (fun q fr σ => ∃ i M : Nat, i + q = ks.length ∧ (ks.take i).all (keepB sp co) = true ∧ σ = mkSt [] [] M ∧ fr = frm 48 [(1, vb sp), (2, vb co), (3, .vel [.agg [vi k, vi n, vi a, vi b, vi c, vi d, vs w, .vsl (avs ks)]] 0 0), (7, vi (i : Nat))]) ks.length ?_ ?_
  · exact ⟨mkSt [] [] 0, le_mkSt (by simp) (by simp) (by simp [σ0]), 0, 0, by omega, by simp, rfl, by simp⟩
  · rintro q fr σ ⟨i, M, hi, hal, rfl, rfl⟩
    simp -implicitDefEqProofs
    by_cases hlt : i < ks.length
    · have hlti : (i : Int) < ks.length := by omega
      obtain ⟨t, ht⟩ : ∃ t, ks[i] = t := ⟨_, rfl⟩
      have hmem : t ∈ ks := ht ▸ List.getElem_mem hlt
      have hr := ih t hmem (hsh t hmem)
      have hg := avs_get hlt
      rw [ht] at hg
      have hla : i < (avs ks).length := by omega
      have wi : IntKind.i64.wrap ((i : Int) + 1) = (i : Int) + 1 := wrap_id (by omega) (by omega)
      have hyes : passB sp co (mayB t) t.kind = true → (ks.take (i + 1)).all (keepB sp co) = true := fun h => all_take (p := keepB sp co) hlt hal (by rw [ht]; exact h)
      have hno : passB sp co (mayB t) t.kind = false → ks.all (keepB sp co) = false := fun h => all_not (p := keepB sp co) hmem h
      generalize mayB t = mb at *
      obtain ⟨tk, tn, ta, tb, tc, td, tw, tks⟩ := t
      rw [Tree.av] at hr hg
      simp only [Tree.kind] at hyes hno
      repeat' (first
        | refine aw_seq ?_
        | (refine aw_run [8] ?_; try simp -implicitDefEqProofs (maxSteps := 1000000) [hl, hlti, hla, hg, wi])
        | ((first | refine awl_skip' [8] rfl ?_ | refine awl_pure_guard [8] rfl rfl rfl (by first | assumption | kernel_rfl) rfl (fun hc => by first | exact hr) (by simp) (by simp) (by simp) ?_ | refine awl_pure' [8] rfl rfl rfl (by first | assumption | kernel_rfl) rfl (by first | exact hr) (by simp) (by simp) ?_ | refine aw_skip ?_ | refine aw_exit ?_); try simp -implicitDefEqProofs (maxSteps := 1000000) [hl, hlti, hla, hg, wi])
        | (refine aw_cond rfl (fun h => ?_) (fun h => ?_) <;> try (with_reducible first | exact ff_tt h | exact tt_ff h))
        | refine aw_block ?_
        | refine aw_ret (ret_of (.inr rfl) (by simp [Try.results80]; rfl) (Fin.of ?_))
        | refine ret_of (.inl rfl) (by simp [Try.results80]; rfl) (Fin.of ?_))
      · rw [hno (by unfold passB; revert h; generalize decide (tk = 6) = x; generalize decide (tk = 2) = y; cases mb <;> cases sp <;> cases co <;> cases x <;> cases y <;> simp)]
        simp [tupOf]
      · have hy := hyes (by unfold passB; revert h; generalize decide (tk = 6) = x; generalize decide (tk = 2) = y; cases mb <;> cases sp <;> cases co <;> cases x <;> cases y <;> simp)
        exact ⟨q - 1, by omega, mkSt [] [] (M + 1), le_mkSt (by simp) (by simp) (by simp), i + 1, by omega, List.all_eq_true.1 hy, ⟨_, rfl⟩, by omega⟩
    · have hlti : ¬ (i : Int) < ks.length := by omega
      rw [List.take_of_length_le (by omega)] at hal
      rw [hal]
      repeat' (first
        | refine aw_seq ?_
        | (refine aw_run [8] ?_; try simp -implicitDefEqProofs (maxSteps := 1000000) [hl, hlti])
        | ((first | refine awl_skip' [8] rfl ?_ | refine aw_skip ?_ | refine aw_exit ?_); try simp -implicitDefEqProofs (maxSteps := 1000000) [hl, hlti])
        | (refine aw_cond rfl (fun h => ?_) (fun h => ?_) <;> try (with_reducible first | exact ff_tt h | exact tt_ff h))
        | refine aw_block ?_
        | refine aw_ret (ret_of (.inr rfl) (by simp [Try.results80]; rfl) (Fin.of ?_))
        | refine ret_of (.inl rfl) (by simp [Try.results80]; rfl) (Fin.of ?_))
      simp [tupOf]
set_option maxHeartbeats 8000000 in
set_option maxRecDepth 100000 in
theorem may5_ok : ∀ t, MayP t := by
  refine Tree.byKids fun k n a b c d w ks ih => ?_
  intro hsh
  rw [Tree.sh, shs_all] at hsh
  obtain ⟨hlk, hsh⟩ := hsh
  have hl := avs_len ks
  have ho := fun m => only_ok (.mk k n a b c d w ks) m
  rw [Tree.av] at ho ⊢
  have ha := fun sp co => all5_ok k n a b c d w ks ih hlk hsh sp co
  rw [mayB]
  have e3 : ∀ x : Int, ((avs ks).length : Int) = x ↔ (ks.length : Int) = x := fun x => by rw [hl]
  by_cases h0 : k = 0
  · rw [if_pos h0]; subst h0
    have ho := ho 0
    generalize onlyB (.mk 0 n a b c d w ks) 0 = ob at *
    refine apure_of Try.func54 Try.ntmps54 rfl ?_
    simp only [List.length_cons, List.length_nil, List.cons_append, List.nil_append, List.replicate]
    repeat' (first
      | refine aw_seq ?_
      | (refine aw_run [] ?_; try simp -implicitDefEqProofs (maxSteps := 1000000) [hl])
      | ((first | refine awl_skip' [] rfl ?_ | refine awl_pure_guard [] rfl rfl rfl (by first | assumption | kernel_rfl) rfl (fun hc => by first | exact ho) (by simp) (by simp) (by simp) ?_ | refine awl_pure' [] rfl rfl rfl (by first | assumption | kernel_rfl) rfl (by first | exact ho) (by simp) (by simp) ?_ | refine aw_skip ?_ | refine aw_exit ?_); try simp -implicitDefEqProofs (maxSteps := 1000000) [hl])
      | (refine aw_cond rfl (fun h => ?_) (fun h => ?_) <;> try (with_reducible first | exact ff_tt h | exact tt_ff h))
      | refine aw_block ?_
      | refine aw_ret (ret_of (.inr rfl) (by simp [Try.results54]; rfl) (Fin.of ?_))
      | refine ret_of (.inl rfl) (by simp [Try.results54]; rfl) (Fin.of ?_))
    all_goals first | (simp [tupOf, Bool.and_assoc]; done) | (simp at *; done) | trace_state
  rw [if_neg h0]
  by_cases h1 : k = 1
  · rw [if_pos h1]; subst h1
    have ho := ho 0
    have hx := rright_ok a b
    generalize onlyB (.mk 1 n a b c d w ks) 0 = ob at *
    generalize rightP a b = rb at *
    refine apure_of Try.func54 Try.ntmps54 rfl ?_
    simp only [List.length_cons, List.length_nil, List.cons_append, List.nil_append, List.replicate]
    repeat' (first
      | refine aw_seq ?_
      | (refine aw_run [] ?_; try simp -implicitDefEqProofs (maxSteps := 1000000) [hl])
      | ((first | refine awl_skip' [] rfl ?_ | refine awl_pure_guard [] rfl rfl rfl (by first | assumption | kernel_rfl) rfl (fun hc => by first | exact ho | exact hx) (by simp) (by simp) (by simp) ?_ | refine awl_pure' [] rfl rfl rfl (by first | assumption | kernel_rfl) rfl (by first | exact ho | exact hx) (by simp) (by simp) ?_ | refine aw_skip ?_ | refine aw_exit ?_); try simp -implicitDefEqProofs (maxSteps := 1000000) [hl])
      | (refine aw_cond rfl (fun h => ?_) (fun h => ?_) <;> try (with_reducible first | exact ff_tt h | exact tt_ff h))
      | refine aw_block ?_
      | refine aw_ret (ret_of (.inr rfl) (by simp [Try.results54]; rfl) (Fin.of ?_))
      | refine ret_of (.inl rfl) (by simp [Try.results54]; rfl) (Fin.of ?_))
    all_goals first | (simp [tupOf, Bool.and_assoc]; done) | (simp at *; done) | trace_state
  rw [if_neg h1]
  by_cases h2 : k = 2
  · rw [if_pos h2]; subst h2
    have ho := ho 0
    generalize onlyB (.mk 2 n a b c d w ks) 0 = ob at *
    refine apure_of Try.func54 Try.ntmps54 rfl ?_
    simp only [List.length_cons, List.length_nil, List.cons_append, List.nil_append, List.replicate]
    repeat' (first
      | refine aw_seq ?_
      | (refine aw_run [] ?_; try simp -implicitDefEqProofs (maxSteps := 1000000) [hl])
      | ((first | refine awl_skip' [] rfl ?_ | refine awl_pure_guard [] rfl rfl rfl (by first | assumption | kernel_rfl) rfl (fun hc => by first | exact ho) (by simp) (by simp) (by simp) ?_ | refine awl_pure' [] rfl rfl rfl (by first | assumption | kernel_rfl) rfl (by first | exact ho) (by simp) (by simp) ?_ | refine aw_skip ?_ | refine aw_exit ?_); try simp -implicitDefEqProofs (maxSteps := 1000000) [hl])
      | (refine aw_cond rfl (fun h => ?_) (fun h => ?_) <;> try (with_reducible first | exact ff_tt h | exact tt_ff h))
      | refine aw_block ?_
      | refine aw_ret (ret_of (.inr rfl) (by simp [Try.results54]; rfl) (Fin.of ?_))
      | refine ret_of (.inl rfl) (by simp [Try.results54]; rfl) (Fin.of ?_))
    all_goals first | (simp [tupOf, Bool.and_assoc]; done) | (simp at *; done) | trace_state
  rw [if_neg h2]
  by_cases h6 : k = 6
  · rw [if_pos h6]; subst h6
    have ho := ho 0
    have hx := rwhole_ok a b c d
    generalize onlyB (.mk 6 n a b c d w ks) 0 = ob at *
    generalize wholeP a b c d = wb at *
    refine apure_of Try.func54 Try.ntmps54 rfl ?_
    simp only [List.length_cons, List.length_nil, List.cons_append, List.nil_append, List.replicate]
    repeat' (first
      | refine aw_seq ?_
      | (refine aw_run [] ?_; try simp -implicitDefEqProofs (maxSteps := 1000000) [hl])
      | ((first | refine awl_skip' [] rfl ?_ | refine awl_pure_guard [] rfl rfl rfl (by first | assumption | kernel_rfl) rfl (fun hc => by first | exact ho | exact hx) (by simp) (by simp) (by simp) ?_ | refine awl_pure' [] rfl rfl rfl (by first | assumption | kernel_rfl) rfl (by first | exact ho | exact hx) (by simp) (by simp) ?_ | refine aw_skip ?_ | refine aw_exit ?_); try simp -implicitDefEqProofs (maxSteps := 1000000) [hl])
      | (refine aw_cond rfl (fun h => ?_) (fun h => ?_) <;> try (with_reducible first | exact ff_tt h | exact tt_ff h))
      | refine aw_block ?_
      | refine aw_ret (ret_of (.inr rfl) (by simp [Try.results54]; rfl) (Fin.of ?_))
      | refine ret_of (.inl rfl) (by simp [Try.results54]; rfl) (Fin.of ?_))
    all_goals first | (simp [tupOf, Bool.and_assoc]; done) | (simp at *; done) | trace_state
  rw [if_neg h6]
  by_cases h3 : k = 3
  · rw [if_pos h3]; subst h3
    have ho := ho 1
    have ha := ha false false
    generalize onlyB (.mk 3 n a b c d w ks) 1 = ob at *
    generalize allB false false ks = ab at *
    refine apure_of Try.func54 Try.ntmps54 rfl ?_
    simp only [List.length_cons, List.length_nil, List.cons_append, List.nil_append, List.replicate]
    repeat' (first
      | refine aw_seq ?_
      | (refine aw_run [] ?_; try simp -implicitDefEqProofs (maxSteps := 1000000) [hl])
      | ((first | refine awl_skip' [] rfl ?_ | refine awl_pure_guard [] rfl rfl rfl (by first | assumption | kernel_rfl) rfl (fun hc => by first | exact ho | exact ha) (by simp) (by simp) (by simp) ?_ | refine awl_pure' [] rfl rfl rfl (by first | assumption | kernel_rfl) rfl (by first | exact ho | exact ha) (by simp) (by simp) ?_ | refine aw_skip ?_ | refine aw_exit ?_); try simp -implicitDefEqProofs (maxSteps := 1000000) [hl])
      | (refine aw_cond rfl (fun h => ?_) (fun h => ?_) <;> try (with_reducible first | exact ff_tt h | exact tt_ff h))
      | refine aw_block ?_
      | refine aw_ret (ret_of (.inr rfl) (by simp [Try.results54]; rfl) (Fin.of ?_))
      | refine ret_of (.inl rfl) (by simp [Try.results54]; rfl) (Fin.of ?_))
    all_goals first | (simp [tupOf, Bool.and_assoc]; done) | (simp at *; done) | trace_state
  rw [if_neg h3]
  by_cases h4 : k = 4
  · rw [if_pos h4]; subst h4
    have ho := ho 2
    have ha := ha false false
    have hx := rlevel_of w
    generalize onlyB (.mk 4 n a b c d w ks) 2 = ob at *
    generalize allB false false ks = ab at *
    generalize lvl w = lw at *
    refine apure_of Try.func54 Try.ntmps54 rfl ?_
    simp only [List.length_cons, List.length_nil, List.cons_append, List.nil_append, List.replicate]
    repeat' (first
      | refine aw_seq ?_
      | (refine aw_run [] ?_; try simp -implicitDefEqProofs (maxSteps := 1000000) [hl])
      | ((first | refine awl_skip' [] rfl ?_ | refine awl_pure_guard [] rfl rfl rfl (by first | assumption | kernel_rfl) rfl (fun hc => by first | exact ho | exact ha | exact hx) (by simp) (by simp) (by simp) ?_ | refine awl_pure' [] rfl rfl rfl (by first | assumption | kernel_rfl) rfl (by first | exact ho | exact ha | exact hx) (by simp) (by simp) ?_ | refine aw_skip ?_ | refine aw_exit ?_); try simp -implicitDefEqProofs (maxSteps := 1000000) [hl])
      | (refine aw_cond rfl (fun h => ?_) (fun h => ?_) <;> try (with_reducible first | exact ff_tt h | exact tt_ff h))
      | refine aw_block ?_
      | refine aw_ret (ret_of (.inr rfl) (by simp [Try.results54]; rfl) (Fin.of ?_))
      | refine ret_of (.inl rfl) (by simp [Try.results54]; rfl) (Fin.of ?_))
    all_goals first | (simp [tupOf, Bool.and_assoc]; done) | (simp at *; done) | trace_state
  rw [if_neg h4]
  by_cases h5 : k = 5
  · rw [if_pos h5]; subst h5
    by_cases w1 : w = bIF
    · subst w1
      rw [if_pos rfl, show (!decide ((bIF : ByteArray) = bIF)) = false by decide, show decide ((bIF : ByteArray) = bCOUNT) = false by decide]
      have ho := ho ks.length
      have ha := ha false false
      generalize onlyB (.mk 5 n a b c d bIF ks) ks.length = ob at *
      generalize allB false false ks = ab at *
      refine apure_of Try.func54 Try.ntmps54 rfl ?_
      simp only [List.length_cons, List.length_nil, List.cons_append, List.nil_append, List.replicate]
      repeat' (first
        | refine aw_seq ?_
        | (refine aw_run [] ?_; try simp -implicitDefEqProofs (maxSteps := 1000000) [hl])
        | ((first | refine awl_skip' [] rfl ?_ | refine awl_pure_guard [] rfl rfl rfl (by first | assumption | kernel_rfl) rfl (fun hc => by first | exact ho | exact ha) (by simp) (by simp) (by simp) ?_ | refine awl_pure' [] rfl rfl rfl (by first | assumption | kernel_rfl) rfl (by first | exact ho | exact ha) (by simp) (by simp) ?_ | refine aw_skip ?_ | refine aw_exit ?_); try simp -implicitDefEqProofs (maxSteps := 1000000) [hl])
        | (refine aw_cond rfl (fun h => ?_) (fun h => ?_) <;> try (with_reducible first | exact ff_tt h | exact tt_ff h))
        | refine aw_block ?_
        | refine aw_ret (ret_of (.inr rfl) (by simp [Try.results54]; rfl) (Fin.of ?_))
        | refine ret_of (.inl rfl) (by simp [Try.results54]; rfl) (Fin.of ?_))
      all_goals first | (simp [tupOf, Bool.and_assoc]; done) | (simp at *; done) | trace_state
    by_cases w2 : w = ⟨#[83, 85, 77]⟩
    · subst w2
      rw [if_neg (by decide), if_pos (by decide), show (!decide ((⟨#[83, 85, 77]⟩ : ByteArray) = bIF)) = true by decide, show decide ((⟨#[83, 85, 77]⟩ : ByteArray) = bCOUNT) = false by decide]
      have ho := ho ks.length
      have ha := ha true false
      generalize onlyB (.mk 5 n a b c d ⟨#[83, 85, 77]⟩ ks) ks.length = ob at *
      generalize allB true false ks = ab at *
      refine apure_of Try.func54 Try.ntmps54 rfl ?_
      simp only [List.length_cons, List.length_nil, List.cons_append, List.nil_append, List.replicate]
      repeat' (first
        | refine aw_seq ?_
        | (refine aw_run [] ?_; try simp -implicitDefEqProofs (maxSteps := 1000000) [hl])
        | ((first | refine awl_skip' [] rfl ?_ | refine awl_pure_guard [] rfl rfl rfl (by first | assumption | kernel_rfl) rfl (fun hc => by first | exact ho | exact ha) (by simp) (by simp) (by simp) ?_ | refine awl_pure' [] rfl rfl rfl (by first | assumption | kernel_rfl) rfl (by first | exact ho | exact ha) (by simp) (by simp) ?_ | refine aw_skip ?_ | refine aw_exit ?_); try simp -implicitDefEqProofs (maxSteps := 1000000) [hl])
        | (refine aw_cond rfl (fun h => ?_) (fun h => ?_) <;> try (with_reducible first | exact ff_tt h | exact tt_ff h))
        | refine aw_block ?_
        | refine aw_ret (ret_of (.inr rfl) (by simp [Try.results54]; rfl) (Fin.of ?_))
        | refine ret_of (.inl rfl) (by simp [Try.results54]; rfl) (Fin.of ?_))
      all_goals first | (simp [tupOf, Bool.and_assoc]; done) | (simp at *; done) | trace_state
    by_cases w3 : w = ⟨#[77, 73, 78]⟩
    · subst w3
      rw [if_neg (by decide), if_pos (by decide), show (!decide ((⟨#[77, 73, 78]⟩ : ByteArray) = bIF)) = true by decide, show decide ((⟨#[77, 73, 78]⟩ : ByteArray) = bCOUNT) = false by decide]
      have ho := ho ks.length
      have ha := ha true false
      generalize onlyB (.mk 5 n a b c d ⟨#[77, 73, 78]⟩ ks) ks.length = ob at *
      generalize allB true false ks = ab at *
      refine apure_of Try.func54 Try.ntmps54 rfl ?_
      simp only [List.length_cons, List.length_nil, List.cons_append, List.nil_append, List.replicate]
      repeat' (first
        | refine aw_seq ?_
        | (refine aw_run [] ?_; try simp -implicitDefEqProofs (maxSteps := 1000000) [hl])
        | ((first | refine awl_skip' [] rfl ?_ | refine awl_pure_guard [] rfl rfl rfl (by first | assumption | kernel_rfl) rfl (fun hc => by first | exact ho | exact ha) (by simp) (by simp) (by simp) ?_ | refine awl_pure' [] rfl rfl rfl (by first | assumption | kernel_rfl) rfl (by first | exact ho | exact ha) (by simp) (by simp) ?_ | refine aw_skip ?_ | refine aw_exit ?_); try simp -implicitDefEqProofs (maxSteps := 1000000) [hl])
        | (refine aw_cond rfl (fun h => ?_) (fun h => ?_) <;> try (with_reducible first | exact ff_tt h | exact tt_ff h))
        | refine aw_block ?_
        | refine aw_ret (ret_of (.inr rfl) (by simp [Try.results54]; rfl) (Fin.of ?_))
        | refine ret_of (.inl rfl) (by simp [Try.results54]; rfl) (Fin.of ?_))
      all_goals first | (simp [tupOf, Bool.and_assoc]; done) | (simp at *; done) | trace_state
    by_cases w4 : w = ⟨#[77, 65, 88]⟩
    · subst w4
      rw [if_neg (by decide), if_pos (by decide), show (!decide ((⟨#[77, 65, 88]⟩ : ByteArray) = bIF)) = true by decide, show decide ((⟨#[77, 65, 88]⟩ : ByteArray) = bCOUNT) = false by decide]
      have ho := ho ks.length
      have ha := ha true false
      generalize onlyB (.mk 5 n a b c d ⟨#[77, 65, 88]⟩ ks) ks.length = ob at *
      generalize allB true false ks = ab at *
      refine apure_of Try.func54 Try.ntmps54 rfl ?_
      simp only [List.length_cons, List.length_nil, List.cons_append, List.nil_append, List.replicate]
      repeat' (first
        | refine aw_seq ?_
        | (refine aw_run [] ?_; try simp -implicitDefEqProofs (maxSteps := 1000000) [hl])
        | ((first | refine awl_skip' [] rfl ?_ | refine awl_pure_guard [] rfl rfl rfl (by first | assumption | kernel_rfl) rfl (fun hc => by first | exact ho | exact ha) (by simp) (by simp) (by simp) ?_ | refine awl_pure' [] rfl rfl rfl (by first | assumption | kernel_rfl) rfl (by first | exact ho | exact ha) (by simp) (by simp) ?_ | refine aw_skip ?_ | refine aw_exit ?_); try simp -implicitDefEqProofs (maxSteps := 1000000) [hl])
        | (refine aw_cond rfl (fun h => ?_) (fun h => ?_) <;> try (with_reducible first | exact ff_tt h | exact tt_ff h))
        | refine aw_block ?_
        | refine aw_ret (ret_of (.inr rfl) (by simp [Try.results54]; rfl) (Fin.of ?_))
        | refine ret_of (.inl rfl) (by simp [Try.results54]; rfl) (Fin.of ?_))
      all_goals first | (simp [tupOf, Bool.and_assoc]; done) | (simp at *; done) | trace_state
    by_cases w5 : w = bCOUNT
    · subst w5
      rw [if_neg (by decide), if_pos (by decide), show (!decide ((bCOUNT : ByteArray) = bIF)) = true by decide, show decide ((bCOUNT : ByteArray) = bCOUNT) = true by decide]
      have ho := ho ks.length
      have ha := ha true true
      generalize onlyB (.mk 5 n a b c d bCOUNT ks) ks.length = ob at *
      generalize allB true true ks = ab at *
      refine apure_of Try.func54 Try.ntmps54 rfl ?_
      simp only [List.length_cons, List.length_nil, List.cons_append, List.nil_append, List.replicate]
      repeat' (first
        | refine aw_seq ?_
        | (refine aw_run [] ?_; try simp -implicitDefEqProofs (maxSteps := 1000000) [hl])
        | ((first | refine awl_skip' [] rfl ?_ | refine awl_pure_guard [] rfl rfl rfl (by first | assumption | kernel_rfl) rfl (fun hc => by first | exact ho | exact ha) (by simp) (by simp) (by simp) ?_ | refine awl_pure' [] rfl rfl rfl (by first | assumption | kernel_rfl) rfl (by first | exact ho | exact ha) (by simp) (by simp) ?_ | refine aw_skip ?_ | refine aw_exit ?_); try simp -implicitDefEqProofs (maxSteps := 1000000) [hl])
        | (refine aw_cond rfl (fun h => ?_) (fun h => ?_) <;> try (with_reducible first | exact ff_tt h | exact tt_ff h))
        | refine aw_block ?_
        | refine aw_ret (ret_of (.inr rfl) (by simp [Try.results54]; rfl) (Fin.of ?_))
        | refine ret_of (.inl rfl) (by simp [Try.results54]; rfl) (Fin.of ?_))
      all_goals first | (simp [tupOf, Bool.and_assoc]; done) | (simp at *; done) | trace_state
    have hnf : ¬ isFn w = true := by simp [isFn, w2, w3, w4, w5]
    rw [if_neg w1, if_neg hnf]
    have ho := ho ks.length
    have ha := ha true false
    generalize onlyB (.mk 5 n a b c d w ks) ks.length = ob at *
    generalize allB true false ks = ab at *
    refine apure_of Try.func54 Try.ntmps54 rfl ?_
    simp only [List.length_cons, List.length_nil, List.cons_append, List.nil_append, List.replicate]
    repeat' (first
      | refine aw_seq ?_
      | (refine aw_run [] ?_; try simp -implicitDefEqProofs (maxSteps := 1000000) [hl, w1, w2, w3, w4, w5])
      | ((first | refine awl_skip' [] rfl ?_ | refine awl_pure_guard [] rfl rfl rfl (by first | assumption | kernel_rfl) rfl (fun hc => by first | exact ho | exact ha) (by simp) (by simp) (by simp) ?_ | refine awl_pure' [] rfl rfl rfl (by first | assumption | kernel_rfl) rfl (by first | exact ho | exact ha) (by simp) (by simp) ?_ | refine aw_skip ?_ | refine aw_exit ?_); try simp -implicitDefEqProofs (maxSteps := 1000000) [hl, w1, w2, w3, w4, w5])
      | (refine aw_cond rfl (fun h => ?_) (fun h => ?_) <;> try (with_reducible first | exact ff_tt h | exact tt_ff h))
      | refine aw_block ?_
      | refine aw_ret (ret_of (.inr rfl) (by simp [Try.results54]; rfl) (Fin.of ?_))
      | refine ret_of (.inl rfl) (by simp [Try.results54]; rfl) (Fin.of ?_))
    all_goals first | (simp [tupOf, Bool.and_assoc]; done) | (simp at *; done) | trace_state
  rw [if_neg h5]
  refine apure_of Try.func54 Try.ntmps54 rfl ?_
  simp only [List.length_cons, List.length_nil, List.cons_append, List.nil_append, List.replicate]
  repeat' (first
    | refine aw_seq ?_
    | (refine aw_run [] ?_; try simp -implicitDefEqProofs (maxSteps := 1000000) [h0, h1, h2, h3, h4, h5, h6])
    | ((first | refine awl_skip' [] rfl ?_ | refine aw_skip ?_ | refine aw_exit ?_); try simp -implicitDefEqProofs (maxSteps := 1000000) [h0, h1, h2, h3, h4, h5, h6])
    | (refine aw_cond rfl (fun h => ?_) (fun h => ?_) <;> try (with_reducible first | exact ff_tt h | exact tt_ff h))
    | refine aw_block ?_
    | refine aw_ret (ret_of (.inr rfl) (by simp [Try.results54]; rfl) (Fin.of ?_))
    | refine ret_of (.inl rfl) (by simp [Try.results54]; rfl) (Fin.of ?_))
  all_goals first | simp [tupOf] | simp at *
end Go.AL
/-! Contracts: gridironref05.Right; gridironref06.Uses, Size, Bads. -/
namespace Go.AL
open Go.Proofs
set_option linter.unusedSimpArgs false
set_option linter.unusedVariables false
def rightB (t : Tree) : Bool := decide (deepT t ≤ 16) && !decide (t.kind = 6) && mayB t
theorem deep_le_size : ∀ t : Tree, deepT t ≤ tszT t := by
  refine Tree.byKids fun k n a b c d w ks ih => ?_
  have : ∀ l : List Tree, (∀ t ∈ l, deepT t ≤ tszT t) → deeps l ≤ tszs l := by
    intro l
    induction l with
    | nil => intro _; simp [deeps]
    | cons t l ih2 => intro h; rw [deeps, tszs]; have h1 := h t (.head _); have h2 := ih2 fun t ht => h t (.tail _ ht); omega
  have := this ks ih
  rw [deepT, tszT]; omega
set_option maxHeartbeats 8000000 in
set_option maxRecDepth 100000 in
theorem rright5_ok (t : Tree) (h : t.sh) (hd : deepT t ≤ 1000000000000000) : APure Try.prog 22 [t.av] (vb (rightB t)) := by
  have hd := deep_ok t h hd
  have hm := may5_ok t h
  unfold rightB
  generalize hz : deepT t = dz at *
  generalize mayB t = mb at *
  obtain ⟨k, n, a, b, c, d, w, ks⟩ := t
  rw [Tree.av] at hd hm ⊢
  simp only [Tree.kind]
  clear hz
  by_cases h16 : dz ≤ 16
  · have hi : ¬ (16 : Int) < dz := by omega
    by_cases h6 : k = 6
    · subst h6
      refine apure_of Try.func22 Try.ntmps22 rfl ?_
      simp only [List.length_cons, List.length_nil, List.cons_append, List.nil_append, List.replicate]
      repeat' (first
        | refine aw_seq ?_
        | (refine aw_run [] ?_; try simp -implicitDefEqProofs (maxSteps := 1000000) [hi])
        | ((first | refine awl_skip' [] rfl ?_ | refine awl_pure_guard [] rfl rfl rfl (by first | assumption | kernel_rfl) rfl (fun hc => by first | exact hd | exact hm) (by simp) (by simp) (by simp) ?_ | refine awl_pure' [] rfl rfl rfl (by first | assumption | kernel_rfl) rfl (by first | exact hd | exact hm) (by simp) (by simp) ?_ | refine aw_skip ?_ | refine aw_exit ?_); try simp -implicitDefEqProofs (maxSteps := 1000000) [hi])
        | (refine aw_cond rfl (fun h => ?_) (fun h => ?_) <;> try (with_reducible first | exact ff_tt h | exact tt_ff h))
        | refine aw_block ?_
        | refine aw_ret (ret_of (.inr rfl) (by simp [Try.results22]; rfl) (Fin.of ?_))
        | refine ret_of (.inl rfl) (by simp [Try.results22]; rfl) (Fin.of ?_))
      all_goals first | (simp [tupOf]; done) | (simp at *; done) | trace_state
    · simp only [h16, h6, decide_true, decide_false, Bool.not_false, Bool.true_and]
      refine apure_of Try.func22 Try.ntmps22 rfl ?_
      simp only [List.length_cons, List.length_nil, List.cons_append, List.nil_append, List.replicate]
      repeat' (first
        | refine aw_seq ?_
        | (refine aw_run [] ?_; try simp -implicitDefEqProofs (maxSteps := 1000000) [hi, h6])
        | ((first | refine awl_skip' [] rfl ?_ | refine awl_pure_guard [] rfl rfl rfl (by first | assumption | kernel_rfl) rfl (fun hc => by first | exact hd | exact hm) (by simp) (by simp) (by simp) ?_ | refine awl_pure' [] rfl rfl rfl (by first | assumption | kernel_rfl) rfl (by first | exact hd | exact hm) (by simp) (by simp) ?_ | refine aw_skip ?_ | refine aw_exit ?_); try simp -implicitDefEqProofs (maxSteps := 1000000) [hi, h6])
        | (refine aw_cond rfl (fun h => ?_) (fun h => ?_) <;> try (with_reducible first | exact ff_tt h | exact tt_ff h))
        | refine aw_block ?_
        | refine aw_ret (ret_of (.inr rfl) (by simp [Try.results22]; rfl) (Fin.of ?_))
        | refine ret_of (.inl rfl) (by simp [Try.results22]; rfl) (Fin.of ?_))
      all_goals first | (simp [tupOf]; done) | (simp at *; done) | trace_state
  · have hi : (16 : Int) < dz := by omega
    simp only [h16, decide_false, Bool.false_and]
    refine apure_of Try.func22 Try.ntmps22 rfl ?_
    simp only [List.length_cons, List.length_nil, List.cons_append, List.nil_append, List.replicate]
    repeat' (first
      | refine aw_seq ?_
      | (refine aw_run [] ?_; try simp -implicitDefEqProofs (maxSteps := 1000000) [hi])
      | ((first | refine awl_skip' [] rfl ?_ | refine awl_pure_guard [] rfl rfl rfl (by first | assumption | kernel_rfl) rfl (fun hc => by first | exact hd | exact hm) (by simp) (by simp) (by simp) ?_ | refine awl_pure' [] rfl rfl rfl (by first | assumption | kernel_rfl) rfl (by first | exact hd | exact hm) (by simp) (by simp) ?_ | refine aw_skip ?_ | refine aw_exit ?_); try simp -implicitDefEqProofs (maxSteps := 1000000) [hi])
      | (refine aw_cond rfl (fun h => ?_) (fun h => ?_) <;> try (with_reducible first | exact ff_tt h | exact tt_ff h))
      | refine aw_block ?_
      | refine aw_ret (ret_of (.inr rfl) (by simp [Try.results22]; rfl) (Fin.of ?_))
      | refine ret_of (.inl rfl) (by simp [Try.results22]; rfl) (Fin.of ?_))
    all_goals first | (simp [tupOf]; done) | (simp at *; done) | trace_state
set_option maxHeartbeats 8000000 in
set_option maxRecDepth 100000 in
theorem rUses_ok (t : Tree) (x y : Int) (h : t.sh) (hs : tszT t ≤ 1000000000) : APure Try.prog 17 [t.av, place x y] (vb (rightB t && usesB x y t)) := by
  have hu := ruses_ok x y t h
  have hr := rright5_ok t h (by have := deep_le_size t; omega)
  generalize rightB t = rb at *
  generalize usesB x y t = ub at *
  obtain ⟨k, n, a, b, c, d, w, ks⟩ := t
  rw [Tree.av] at hr hu ⊢
  refine apure_of Try.func17 Try.ntmps17 rfl ?_
  simp only [List.length_cons, List.length_nil, List.cons_append, List.nil_append, List.replicate]
  repeat' (first
    | refine aw_seq ?_
    | (refine aw_run [] ?_; try simp -implicitDefEqProofs (maxSteps := 1000000))
    | ((first | refine awl_skip' [] rfl ?_ | refine awl_pure_guard [] rfl rfl rfl (by first | assumption | kernel_rfl) rfl (fun hc => by first | exact hr | exact hu) (by simp) (by simp) (by simp) ?_ | refine awl_pure' [] rfl rfl rfl (by first | assumption | kernel_rfl) rfl (by first | exact hr | exact hu) (by simp) (by simp) ?_ | refine aw_skip ?_ | refine aw_exit ?_); try simp -implicitDefEqProofs (maxSteps := 1000000))
    | (refine aw_cond rfl (fun h => ?_) (fun h => ?_) <;> try (with_reducible first | exact ff_tt h | exact tt_ff h))
    | refine aw_block ?_
    | refine aw_ret (ret_of (.inr rfl) (by simp [Try.results17]; rfl) (Fin.of ?_))
    | refine ret_of (.inl rfl) (by simp [Try.results17]; rfl) (Fin.of ?_))
  all_goals first | (simp [tupOf]; done) | trace_state
set_option maxHeartbeats 8000000 in
set_option maxRecDepth 100000 in
theorem rSize_ok (t : Tree) (h : t.sh) (hs : tszT t ≤ 1000000000) : APure Try.prog 21 [t.av] (vi (if rightB t = true then (cntT (-1) t : Nat) else 0)) := by
  have hu := rcount_ok (-1) t h hs
  have hr := rright5_ok t h (by have := deep_le_size t; omega)
  generalize rightB t = rb at *
  generalize cntT (-1) t = ub at *
  obtain ⟨k, n, a, b, c, d, w, ks⟩ := t
  rw [Tree.av] at hr hu ⊢
  cases rb with
  | true =>
    refine apure_of Try.func21 Try.ntmps21 rfl ?_
    simp only [List.length_cons, List.length_nil, List.cons_append, List.nil_append, List.replicate]
    repeat' (first
      | refine aw_seq ?_
      | (refine aw_run [] ?_; try simp -implicitDefEqProofs (maxSteps := 1000000))
      | ((first | refine awl_skip' [] rfl ?_ | refine awl_pure_guard [] rfl rfl rfl (by first | assumption | kernel_rfl) rfl (fun hc => by first | exact hr | exact hu) (by simp) (by simp) (by simp) ?_ | refine awl_pure' [] rfl rfl rfl (by first | assumption | kernel_rfl) rfl (by first | exact hr | exact hu) (by simp) (by simp) ?_ | refine aw_skip ?_ | refine aw_exit ?_); try simp -implicitDefEqProofs (maxSteps := 1000000))
      | (refine aw_cond rfl (fun h => ?_) (fun h => ?_) <;> try (with_reducible first | exact ff_tt h | exact tt_ff h))
      | refine aw_block ?_
      | refine aw_ret (ret_of (.inr rfl) (by simp [Try.results21]; rfl) (Fin.of ?_))
      | refine ret_of (.inl rfl) (by simp [Try.results21]; rfl) (Fin.of ?_))
    all_goals first | (simp [tupOf]; done) | trace_state
  | false =>
    refine apure_of Try.func21 Try.ntmps21 rfl ?_
    simp only [List.length_cons, List.length_nil, List.cons_append, List.nil_append, List.replicate]
    repeat' (first
      | refine aw_seq ?_
      | (refine aw_run [] ?_; try simp -implicitDefEqProofs (maxSteps := 1000000))
      | ((first | refine awl_skip' [] rfl ?_ | refine awl_pure_guard [] rfl rfl rfl (by first | assumption | kernel_rfl) rfl (fun hc => by first | exact hr | exact hu) (by simp) (by simp) (by simp) ?_ | refine awl_pure' [] rfl rfl rfl (by first | assumption | kernel_rfl) rfl (by first | exact hr | exact hu) (by simp) (by simp) ?_ | refine aw_skip ?_ | refine aw_exit ?_); try simp -implicitDefEqProofs (maxSteps := 1000000))
      | (refine aw_cond rfl (fun h => ?_) (fun h => ?_) <;> try (with_reducible first | exact ff_tt h | exact tt_ff h))
      | refine aw_block ?_
      | refine aw_ret (ret_of (.inr rfl) (by simp [Try.results21]; rfl) (Fin.of ?_))
      | refine ret_of (.inl rfl) (by simp [Try.results21]; rfl) (Fin.of ?_))
    all_goals first | (simp [tupOf]; done) | trace_state
set_option maxHeartbeats 8000000 in
set_option maxRecDepth 100000 in
theorem rBads_ok (t : Tree) (h : t.sh) (hs : tszT t ≤ 1000000000) : APure Try.prog 19 [t.av] (vi (if rightB t = true then (cntT 2 t : Nat) else 0)) := by
  have hu := rcount_ok 2 t h hs
  have hr := rright5_ok t h (by have := deep_le_size t; omega)
  generalize rightB t = rb at *
  generalize cntT 2 t = ub at *
  obtain ⟨k, n, a, b, c, d, w, ks⟩ := t
  rw [Tree.av] at hr hu ⊢
  cases rb with
  | true =>
    refine apure_of Try.func19 Try.ntmps19 rfl ?_
    simp only [List.length_cons, List.length_nil, List.cons_append, List.nil_append, List.replicate]
    repeat' (first
      | refine aw_seq ?_
      | (refine aw_run [] ?_; try simp -implicitDefEqProofs (maxSteps := 1000000))
      | ((first | refine awl_skip' [] rfl ?_ | refine awl_pure_guard [] rfl rfl rfl (by first | assumption | kernel_rfl) rfl (fun hc => by first | exact hr | exact hu) (by simp) (by simp) (by simp) ?_ | refine awl_pure' [] rfl rfl rfl (by first | assumption | kernel_rfl) rfl (by first | exact hr | exact hu) (by simp) (by simp) ?_ | refine aw_skip ?_ | refine aw_exit ?_); try simp -implicitDefEqProofs (maxSteps := 1000000))
      | (refine aw_cond rfl (fun h => ?_) (fun h => ?_) <;> try (with_reducible first | exact ff_tt h | exact tt_ff h))
      | refine aw_block ?_
      | refine aw_ret (ret_of (.inr rfl) (by simp [Try.results19]; rfl) (Fin.of ?_))
      | refine ret_of (.inl rfl) (by simp [Try.results19]; rfl) (Fin.of ?_))
    all_goals first | (simp [tupOf]; done) | trace_state
  | false =>
    refine apure_of Try.func19 Try.ntmps19 rfl ?_
    simp only [List.length_cons, List.length_nil, List.cons_append, List.nil_append, List.replicate]
    repeat' (first
      | refine aw_seq ?_
      | (refine aw_run [] ?_; try simp -implicitDefEqProofs (maxSteps := 1000000))
      | ((first | refine awl_skip' [] rfl ?_ | refine awl_pure_guard [] rfl rfl rfl (by first | assumption | kernel_rfl) rfl (fun hc => by first | exact hr | exact hu) (by simp) (by simp) (by simp) ?_ | refine awl_pure' [] rfl rfl rfl (by first | assumption | kernel_rfl) rfl (by first | exact hr | exact hu) (by simp) (by simp) ?_ | refine aw_skip ?_ | refine aw_exit ?_); try simp -implicitDefEqProofs (maxSteps := 1000000))
      | (refine aw_cond rfl (fun h => ?_) (fun h => ?_) <;> try (with_reducible first | exact ff_tt h | exact tt_ff h))
      | refine aw_block ?_
      | refine aw_ret (ret_of (.inr rfl) (by simp [Try.results19]; rfl) (Fin.of ?_))
      | refine ret_of (.inl rfl) (by simp [Try.results19]; rfl) (Fin.of ?_))
    all_goals first | (simp [tupOf]; done) | trace_state
end Go.AL
