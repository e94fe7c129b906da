/- Parts of the proof of ShapeBack: the logic, contracts, plain laws. -/
import Derived.Test.YtadahjmamgidnaaZShapeBack27
import Derived.Test.YtadahjmamgidnaaZShapeBack10
/-! Contracts: gridironref05.text, within, Print. -/
namespace Go.AL
open Go.Proofs
set_option linter.unusedSimpArgs false
set_option linter.unusedVariables false
@[simp] def Tree.word : Tree → ByteArray
  | .mk _ _ _ _ _ _ w _ => w
/-- In brackets, if need be. -/
def wr (t : Tree) (s : ByteArray) (least : Int) : ByteArray := match t with
  | .mk k _ _ _ _ _ w _ => if k = 4 ∧ lvl w < least then (⟨#[40]⟩ ++ s) ++ ⟨#[41]⟩ else s
def joinA (s0 : ByteArray) (l : List ByteArray) : Nat → ByteArray
  | 0 => s0
  | i + 1 => (if 0 < i then joinA s0 l i ++ ⟨#[44]⟩ else joinA s0 l i) ++ l.getD i ⟨#[]⟩
mutual
def textT : Tree → ByteArray
  | .mk k n a b c d w ks =>
    if k = 0 then textI n else if k = 1 then textP a b else if k = 6 then (textP a b ++ ⟨#[58]⟩) ++ textP c d
    else if k = 3 then ⟨#[45]⟩ ++ wr (ks.getD 0 zeroT) ((textsT ks).getD 0 ⟨#[]⟩) 4
    else if k = 4 then (wr (ks.getD 0 zeroT) ((textsT ks).getD 0 ⟨#[]⟩) (lvl w) ++ w) ++ wr (ks.getD 1 zeroT) ((textsT ks).getD 1 ⟨#[]⟩) (lvl w + 1)
    else if k = 5 then joinA (w ++ ⟨#[40]⟩) (textsT ks) ks.length ++ ⟨#[41]⟩
    else ⟨#[35, 82, 69, 70]⟩
def textsT : List Tree → List ByteArray
  | [] => []
  | t :: ts => textT t :: textsT ts
end
theorem textsT_map : ∀ l, textsT l = l.map textT
  | [] => rfl
  | t :: ts => by rw [textsT, textsT_map ts]; rfl
mutual
/-- It has kids enough to be written. -/
def OkT : Tree → Prop
  | .mk k n a b c d w ks => In64 n ∧ w.size ≤ 8 ∧ (k = 3 → 1 ≤ ks.length) ∧ (k = 4 → 2 ≤ ks.length) ∧ OkTs ks
def OkTs : List Tree → Prop
  | [] => True
  | t :: ts => OkT t ∧ OkTs ts
end
theorem OkTs_all : ∀ l : List Tree, OkTs l ↔ ∀ t ∈ l, OkT t
  | [] => by simp [OkTs]
  | t :: ts => by rw [OkTs, OkTs_all ts]; simp
theorem textI_size {a : Int} (h1 : -9223372036854775808 ≤ a) (h2 : a ≤ 9223372036854775807) : (textI a).size ≤ 21 := by
  have hl := figs_len a.natAbs (by omega)
  unfold textI
  split
  · rw [ByteArray.size_append]
    have e : (⟨#[45]⟩ : ByteArray).size = 1 := rfl
    omega
  · omega
theorem textP_size (c r : Int) : (textP c r).size ≤ 22 := by
  unfold textP
  split
  · rename_i h
    have := rightP_iff'.1 h
    rw [ByteArray.size_append]
    have h1 := textI_size (a := r + 1) (by omega) (by omega)
    have h2 : (letters.extract c.toNat (c.toNat + 1)).size ≤ 1 := by rw [ByteArray.size_extract]; omega
    omega
  · decide
theorem wr_size (t : Tree) (s : ByteArray) (l : Int) : (wr t s l).size ≤ s.size + 2 := by
  obtain ⟨k, n, a, b, c, d, w, ks⟩ := t
  rw [wr]
  split
  · rw [ByteArray.size_append, ByteArray.size_append]
    have e : (⟨#[40]⟩ : ByteArray).size = 1 := rfl
    have e2 : (⟨#[41]⟩ : ByteArray).size = 1 := rfl
    omega
  · omega
theorem joinA_size (s0 : ByteArray) (ks : List Tree) (h : ∀ t ∈ ks, (textT t).size + 8 ≤ 64 * tszT t) : ∀ i, i ≤ ks.length → (joinA s0 (textsT ks) i).size ≤ s0.size + 64 * tszs (ks.take i)
  | 0, _ => by simp [joinA]
  | i + 1, hi => by
    have ih := joinA_size s0 ks h i (by omega)
    have hk := h ks[i] (List.getElem_mem _)
    rw [joinA, tszs_take (by omega)]
    have hg : (textsT ks).getD i ⟨#[]⟩ = textT ks[i] := by simp [textsT_map, List.getD, show i < ks.length by omega]
    rw [hg, ByteArray.size_append]
    have e : (⟨#[44]⟩ : ByteArray).size = 1 := rfl
    split
    · rw [ByteArray.size_append]; omega
    · omega
theorem textT_size : ∀ t, OkT t → (textT t).size + 8 ≤ 64 * tszT t := by
  refine Tree.byKids fun k n a b c d w ks ih => ?_
  intro hok
  rw [OkT, OkTs_all] at hok
  obtain ⟨hn, hw, o3, o4, hok⟩ := hok
  have hk : ∀ t ∈ ks, (textT t).size + 8 ≤ 64 * tszT t := fun t ht => ih t ht (hok t ht)
  rw [textT, tszT]
  by_cases h0 : k = 0
  · rw [if_pos h0]; have := textI_size hn.1 hn.2; omega
  rw [if_neg h0]
  by_cases h1 : k = 1
  · rw [if_pos h1]; have := textP_size a b; omega
  rw [if_neg h1]
  by_cases h6 : k = 6
  · rw [if_pos h6]; have := textP_size a b; have := textP_size c d
    rw [ByteArray.size_append, ByteArray.size_append]
    have e : (⟨#[58]⟩ : ByteArray).size = 1 := rfl
    omega
  rw [if_neg h6]
  by_cases h3 : k = 3
  · rw [if_pos h3]
    match ks, o3 h3, hk with
    | t0 :: rest, _, hk =>
      have h7 := hk t0 List.mem_cons_self
      have h8 := wr_size t0 (textT t0) 4
      simp only [List.getD_cons_zero, textsT, tszs]
      rw [ByteArray.size_append]
      have e : (⟨#[45]⟩ : ByteArray).size = 1 := rfl
      omega
  rw [if_neg h3]
  by_cases h4 : k = 4
  · rw [if_pos h4]
    match ks, o4 h4, hk with
    | t0 :: t1 :: rest, _, hk =>
      have h7 := hk t0 List.mem_cons_self
      have h9 := hk t1 (List.mem_cons_of_mem _ List.mem_cons_self)
      have h8 := wr_size t0 (textT t0) (lvl w)
      have h10 := wr_size t1 (textT t1) (lvl w + 1)
      simp only [List.getD_cons_zero, List.getD_cons_succ, textsT, tszs]
      rw [ByteArray.size_append, ByteArray.size_append]
      omega
  rw [if_neg h4]
  by_cases h5 : k = 5
  · rw [if_pos h5]
    have h7 := joinA_size (w ++ ⟨#[40]⟩) ks hk ks.length (Nat.le_refl _)
    rw [List.take_length] at h7
    rw [ByteArray.size_append] at h7 ⊢
    have e : (⟨#[40]⟩ : ByteArray).size = 1 := rfl
    have e2 : (⟨#[41]⟩ : ByteArray).size = 1 := rfl
    omega
  rw [if_neg h5]
  have e : (⟨#[35, 82, 69, 70]⟩ : ByteArray).size = 4 := rfl
  omega
theorem lvl_b (w : ByteArray) : 0 ≤ lvl w ∧ lvl w ≤ 3 := by
  unfold lvl
  repeat' split
  all_goals omega
def TextP (t : Tree) : Prop := t.sh → tszT t ≤ 1000000000 → OkT t → APure Try.prog 68 [t.av] (vs (textT t))
set_option maxHeartbeats 8000000 in
set_option maxRecDepth 100000 in
theorem rwithin_ok (t : Tree) (least : Int) (h : APure Try.prog 68 [t.av] (vs (textT t))) (hz : (textT t).size ≤ 100000000000000) : APure Try.prog 99 [t.av, vi least] (vs (wr t (textT t) least)) := by
  obtain ⟨s, hs⟩ : ∃ s, s = textT t := ⟨_, rfl⟩
  rw [← hs] at h hz ⊢
  obtain ⟨k, n, a, b, c, d, w, ks⟩ := t
  rw [wr]
  have hx := rlevel_of w
  rw [Tree.av] at h ⊢
  obtain ⟨lw, hlw⟩ : ∃ lw, lw = lvl w := ⟨_, rfl⟩
  rw [← hlw] at hx ⊢
  have e1 : (⟨#[40]⟩ : ByteArray).size = 1 := rfl
  have e2 : (⟨#[41]⟩ : ByteArray).size = 1 := rfl
  have z1 : 1 + s.size ≤ 9223372036854775807 := by omega
  have z2 : 1 + s.size + 1 ≤ 9223372036854775807 := by omega
  by_cases hk : k = 4
  · subst hk
    by_cases hl : lw < least
    · rw [if_pos ⟨rfl, hl⟩]
      refine apure_of Try.func99 Try.ntmps99 rfl ?_
      simp only [List.length_cons, List.length_nil, List.cons_append, List.nil_append, List.replicate]
      repeat' (first
        | refine aw_seq ?_
        | (refine aw_run [] ?_; try simp -implicitDefEqProofs (maxSteps := 1000000) [hl, e1, e2, z1, z2])
        | ((first | refine awl_skip' [] rfl ?_ | refine awl_pure_guard [] rfl rfl rfl (by first | assumption | kernel_rfl) rfl (fun hc => by first | exact h | exact hx) (by simp) (by simp) (by simp) ?_ | refine awl_pure' [] rfl rfl rfl (by first | assumption | kernel_rfl) rfl (by first | exact h | exact hx) (by simp) (by simp) ?_ | refine aw_skip ?_ | refine aw_exit ?_); try simp -implicitDefEqProofs (maxSteps := 1000000) [hl, e1, e2, z1, z2])
        | (refine aw_cond rfl (fun h => ?_) (fun h => ?_) <;> try (with_reducible first | exact ff_tt h | exact tt_ff h))
        | refine aw_block ?_
        | refine aw_ret (ret_of (.inr rfl) (by simp [Try.results99]; rfl) (Fin.of ?_))
        | refine ret_of (.inl rfl) (by simp [Try.results99]; rfl) (Fin.of ?_))
      all_goals first | rfl | (simp [tupOf]; done) | trace_state
    · rw [if_neg fun h => hl h.2]
      refine apure_of Try.func99 Try.ntmps99 rfl ?_
      simp only [List.length_cons, List.length_nil, List.cons_append, List.nil_append, List.replicate]
      repeat' (first
        | refine aw_seq ?_
        | (refine aw_run [] ?_; try simp -implicitDefEqProofs (maxSteps := 1000000) [hl])
        | ((first | refine awl_skip' [] rfl ?_ | refine awl_pure_guard [] rfl rfl rfl (by first | assumption | kernel_rfl) rfl (fun hc => by first | exact h | exact hx) (by simp) (by simp) (by simp) ?_ | refine awl_pure' [] rfl rfl rfl (by first | assumption | kernel_rfl) rfl (by first | exact h | exact hx) (by simp) (by simp) ?_ | refine aw_skip ?_ | refine aw_exit ?_); try simp -implicitDefEqProofs (maxSteps := 1000000) [hl])
        | (refine aw_cond rfl (fun h => ?_) (fun h => ?_) <;> try (with_reducible first | exact ff_tt h | exact tt_ff h))
        | refine aw_block ?_
        | refine aw_ret (ret_of (.inr rfl) (by simp [Try.results99]; rfl) (Fin.of ?_))
        | refine ret_of (.inl rfl) (by simp [Try.results99]; rfl) (Fin.of ?_))
      all_goals first | rfl | (simp [tupOf]; done) | trace_state
  · rw [if_neg fun h => hk h.1]
    refine apure_of Try.func99 Try.ntmps99 rfl ?_
    simp only [List.length_cons, List.length_nil, List.cons_append, List.nil_append, List.replicate]
    repeat' (first
      | refine aw_seq ?_
      | (refine aw_run [] ?_; try simp -implicitDefEqProofs (maxSteps := 1000000) [hk])
      | ((first | refine awl_skip' [] rfl ?_ | refine awl_pure_guard [] rfl rfl rfl (by first | assumption | kernel_rfl) rfl (fun hc => by first | exact h | exact hx) (by simp) (by simp) (by simp) ?_ | refine awl_pure' [] rfl rfl rfl (by first | assumption | kernel_rfl) rfl (by first | exact h | exact hx) (by simp) (by simp) ?_ | refine aw_skip ?_ | refine aw_exit ?_); try simp -implicitDefEqProofs (maxSteps := 1000000) [hk])
      | (refine aw_cond rfl (fun h => ?_) (fun h => ?_) <;> try (with_reducible first | exact ff_tt h | exact tt_ff h))
      | refine aw_block ?_
      | refine aw_ret (ret_of (.inr rfl) (by simp [Try.results99]; rfl) (Fin.of ?_))
      | refine ret_of (.inl rfl) (by simp [Try.results99]; rfl) (Fin.of ?_))
    all_goals first | rfl | (simp [tupOf]; done) | trace_state
set_option maxHeartbeats 8000000 in
set_option maxRecDepth 100000 in
theorem rtext5_ok : ∀ t, TextP t := by
  refine Tree.byKids fun k n a b c d w ks ih => ?_
  intro hsh htz hok
  have hfull := textT_size _ hok
  rw [tszT] at htz hfull
  rw [Tree.sh, shs_all] at hsh
  obtain ⟨hlk, hsh⟩ := hsh
  rw [OkT, OkTs_all] at hok
  obtain ⟨hn, hw, o3, o4, hok⟩ := hok
  have hl := avs_len ks
  have hkz : ∀ t ∈ ks, (textT t).size + 8 ≤ 64 * tszT t := fun t ht => textT_size t (hok t ht)
  have hkid : ∀ t ∈ ks, APure Try.prog 68 [t.av] (vs (textT t)) := fun t h => ih _ h (hsh _ h) (by have := tszs_mem h; omega) (hok _ h)
  rw [Tree.av, textT]
  by_cases h0 : k = 0
  · rw [if_pos h0]; subst h0
    have hx := rtext1_ok n hn.1 hn.2
    refine apure_of Try.func68 Try.ntmps68 rfl ?_
    simp only [List.length_cons, List.length_nil, List.cons_append, List.nil_append, List.replicate]
    repeat' (first
      | refine aw_seq ?_
      | ((first | refine aw_run [] ?_ | refine aw_ymix [] draws (by decide +kernel) ?_); try simp -implicitDefEqProofs (maxSteps := 1000000) [hl])
      | ((first | refine aw_zrun [] [] draws (by decide +kernel) (by decide +kernel) ?_ | refine zl_skip (by simp) rfl ?_ | refine zl_pure_guard (by simp) rfl rfl rfl (by first | assumption | kernel_rfl) rfl (fun hc => by first | exact hx) (by simp) (by simp) (by simp) ?_ | refine zl_pure (by simp) rfl rfl rfl (by first | assumption | kernel_rfl) rfl (by first | exact hx) (by simp) (by simp) ?_); try simp -implicitDefEqProofs (maxSteps := 1000000) [hl]; repeat first | refine zcurL (by decide +kernel) ?_ | refine zcurH (by decide +kernel) ?_ | refine zcurL' (by decide +kernel) ?_ | refine zcurH' (by decide +kernel) ?_)
      | ((first | refine aw_yrun draws (by kernel_rfl) ?_ | refine awl_skip' [] rfl ?_ | refine yl_skip rfl ?_ | refine awl_pure_guard [] rfl rfl rfl (by first | assumption | kernel_rfl) rfl (fun hc => by first | exact hx) (by simp) (by simp) (by simp) ?_ | refine yl_pureG rfl rfl rfl (by first | assumption | kernel_rfl) rfl (fun hc => by first | exact hx) (by simp) (by simp) (by simp) ?_ | refine awl_pure' [] rfl rfl rfl (by first | assumption | kernel_rfl) rfl (by first | exact hx) (by simp) (by simp) ?_ | refine yl_pure rfl rfl rfl (by first | assumption | kernel_rfl) rfl (by first | exact hx) (by simp) (by simp) ?_ | refine aw_skip ?_ | refine aw_exit ?_); try simp -implicitDefEqProofs (maxSteps := 1000000) [hl])
      | (refine aw_cond rfl (fun h => ?_) (fun h => ?_) <;> try (with_reducible first | exact ff_tt h | exact tt_ff h))
      | refine aw_block ?_
      | refine aw_ret (ret_of (.inr rfl) (by simp [Try.results68]; rfl) (Fin.of ?_))
      | refine ret_of (.inl rfl) (by simp [Try.results68]; rfl) (Fin.of ?_))
    all_goals first | rfl | (simp [tupOf]; done) | trace_state
  rw [if_neg h0]
  by_cases h1 : k = 1
  · rw [if_pos h1]; subst h1
    have hx := rtext_ok a b
    refine apure_of Try.func68 Try.ntmps68 rfl ?_
    simp only [List.length_cons, List.length_nil, List.cons_append, List.nil_append, List.replicate]
    repeat' (first
      | refine aw_seq ?_
      | ((first | refine aw_run [] ?_ | refine aw_ymix [] draws (by decide +kernel) ?_); try simp -implicitDefEqProofs (maxSteps := 1000000) [hl])
      | ((first | refine aw_zrun [] [] draws (by decide +kernel) (by decide +kernel) ?_ | refine zl_skip (by simp) rfl ?_ | refine zl_pure_guard (by simp) rfl rfl rfl (by first | assumption | kernel_rfl) rfl (fun hc => by first | exact hx) (by simp) (by simp) (by simp) ?_ | refine zl_pure (by simp) rfl rfl rfl (by first | assumption | kernel_rfl) rfl (by first | exact hx) (by simp) (by simp) ?_); try simp -implicitDefEqProofs (maxSteps := 1000000) [hl]; repeat first | refine zcurL (by decide +kernel) ?_ | refine zcurH (by decide +kernel) ?_ | refine zcurL' (by decide +kernel) ?_ | refine zcurH' (by decide +kernel) ?_)
      | ((first | refine aw_yrun draws (by kernel_rfl) ?_ | refine awl_skip' [] rfl ?_ | refine yl_skip rfl ?_ | refine awl_pure_guard [] rfl rfl rfl (by first | assumption | kernel_rfl) rfl (fun hc => by first | exact hx) (by simp) (by simp) (by simp) ?_ | refine yl_pureG rfl rfl rfl (by first | assumption | kernel_rfl) rfl (fun hc => by first | exact hx) (by simp) (by simp) (by simp) ?_ | refine awl_pure' [] rfl rfl rfl (by first | assumption | kernel_rfl) rfl (by first | exact hx) (by simp) (by simp) ?_ | refine yl_pure rfl rfl rfl (by first | assumption | kernel_rfl) rfl (by first | exact hx) (by simp) (by simp) ?_ | refine aw_skip ?_ | refine aw_exit ?_); try simp -implicitDefEqProofs (maxSteps := 1000000) [hl])
      | (refine aw_cond rfl (fun h => ?_) (fun h => ?_) <;> try (with_reducible first | exact ff_tt h | exact tt_ff h))
      | refine aw_block ?_
      | refine aw_ret (ret_of (.inr rfl) (by simp [Try.results68]; rfl) (Fin.of ?_))
      | refine ret_of (.inl rfl) (by simp [Try.results68]; rfl) (Fin.of ?_))
    all_goals first | rfl | (simp [tupOf]; done) | trace_state
  rw [if_neg h1]
  by_cases h6 : k = 6
  · rw [if_pos h6]; subst h6
    have hx := rtext_ok a b
    have hx2 := rtext_ok c d
    have p1 := textP_size a b
    have p2 := textP_size c d
    have e1 : (⟨#[58]⟩ : ByteArray).size = 1 := rfl
    generalize textP a b = s1 at *
    generalize textP c d = s2 at *
    have z1 : s1.size + 1 ≤ 9223372036854775807 := by omega
    have z2 : s1.size + 1 + s2.size ≤ 9223372036854775807 := by omega
    refine apure_of Try.func68 Try.ntmps68 rfl ?_
    simp only [List.length_cons, List.length_nil, List.cons_append, List.nil_append, List.replicate]
    repeat' (first
      | refine aw_seq ?_
      | ((first | refine aw_run [] ?_ | refine aw_ymix [] draws (by decide +kernel) ?_); try simp -implicitDefEqProofs (maxSteps := 1000000) [hl, e1, z1, z2])
      | ((first | refine aw_zrun [] [] draws (by decide +kernel) (by decide +kernel) ?_ | refine zl_skip (by simp) rfl ?_ | refine zl_pure_guard (by simp) rfl rfl rfl (by first | assumption | kernel_rfl) rfl (fun hc => by first | exact hx | exact hx2) (by simp) (by simp) (by simp) ?_ | refine zl_pure (by simp) rfl rfl rfl (by first | assumption | kernel_rfl) rfl (by first | exact hx | exact hx2) (by simp) (by simp) ?_); try simp -implicitDefEqProofs (maxSteps := 1000000) [hl, e1, z1, z2]; repeat first | refine zcurL (by decide +kernel) ?_ | refine zcurH (by decide +kernel) ?_ | refine zcurL' (by decide +kernel) ?_ | refine zcurH' (by decide +kernel) ?_)
      | ((first | refine aw_yrun draws (by kernel_rfl) ?_ | refine awl_skip' [] rfl ?_ | refine yl_skip rfl ?_ | refine awl_pure_guard [] rfl rfl rfl (by first | assumption | kernel_rfl) rfl (fun hc => by first | exact hx | exact hx2) (by simp) (by simp) (by simp) ?_ | refine yl_pureG rfl rfl rfl (by first | assumption | kernel_rfl) rfl (fun hc => by first | exact hx | exact hx2) (by simp) (by simp) (by simp) ?_ | refine awl_pure' [] rfl rfl rfl (by first | assumption | kernel_rfl) rfl (by first | exact hx | exact hx2) (by simp) (by simp) ?_ | refine yl_pure rfl rfl rfl (by first | assumption | kernel_rfl) rfl (by first | exact hx | exact hx2) (by simp) (by simp) ?_ | refine aw_skip ?_ | refine aw_exit ?_); try simp -implicitDefEqProofs (maxSteps := 1000000) [hl, e1, z1, z2])
      | (refine aw_cond rfl (fun h => ?_) (fun h => ?_) <;> try (with_reducible first | exact ff_tt h | exact tt_ff h))
      | refine aw_block ?_
      | refine aw_ret (ret_of (.inr rfl) (by simp [Try.results68]; rfl) (Fin.of ?_))
      | refine ret_of (.inl rfl) (by simp [Try.results68]; rfl) (Fin.of ?_))
    all_goals first | rfl | (simp [tupOf]; done) | trace_state
  rw [if_neg h6]
  by_cases h3 : k = 3
  · rw [if_pos h3]; subst h3
    match ks, o3 rfl, hkid, hkz, htz, hl with
    | t0 :: rest, _, hkid, hkz, htz, hl =>
      have hz0 := hkz t0 List.mem_cons_self
      rw [tszs] at htz
      have hx := rwithin_ok t0 4 (hkid t0 List.mem_cons_self) (by omega)
      have hws := wr_size t0 (textT t0) 4
      simp only [List.getD_cons_zero, textsT, avs]
      have e1 : (⟨#[45]⟩ : ByteArray).size = 1 := rfl
      have z1 : 1 + (wr t0 (textT t0) 4).size ≤ 9223372036854775807 := by omega
      generalize wr t0 (textT t0) 4 = s0 at *
      obtain ⟨tk, tn, ta, tb, tc, td, tw, tks⟩ := t0
      rw [Tree.av] at hx ⊢
      refine apure_of Try.func68 Try.ntmps68 rfl ?_
      simp only [List.length_cons, List.length_nil, List.cons_append, List.nil_append, List.replicate]
      repeat' (first
        | refine aw_seq ?_
        | ((first | refine aw_run [] ?_ | refine aw_ymix [] draws (by decide +kernel) ?_); try simp -implicitDefEqProofs (maxSteps := 1000000) [e1, z1])
        | ((first | refine aw_zrun [] [] draws (by decide +kernel) (by decide +kernel) ?_ | refine zl_skip (by simp) rfl ?_ | refine zl_pure_guard (by simp) rfl rfl rfl (by first | assumption | kernel_rfl) rfl (fun hc => by first | exact hx) (by simp) (by simp) (by simp) ?_ | refine zl_pure (by simp) rfl rfl rfl (by first | assumption | kernel_rfl) rfl (by first | exact hx) (by simp) (by simp) ?_); try simp -implicitDefEqProofs (maxSteps := 1000000) [e1, z1]; repeat first | refine zcurL (by decide +kernel) ?_ | refine zcurH (by decide +kernel) ?_ | refine zcurL' (by decide +kernel) ?_ | refine zcurH' (by decide +kernel) ?_)
        | ((first | refine aw_yrun draws (by kernel_rfl) ?_ | refine awl_skip' [] rfl ?_ | refine yl_skip rfl ?_ | refine awl_pure_guard [] rfl rfl rfl (by first | assumption | kernel_rfl) rfl (fun hc => by first | exact hx) (by simp) (by simp) (by simp) ?_ | refine yl_pureG rfl rfl rfl (by first | assumption | kernel_rfl) rfl (fun hc => by first | exact hx) (by simp) (by simp) (by simp) ?_ | refine awl_pure' [] rfl rfl rfl (by first | assumption | kernel_rfl) rfl (by first | exact hx) (by simp) (by simp) ?_ | refine yl_pure rfl rfl rfl (by first | assumption | kernel_rfl) rfl (by first | exact hx) (by simp) (by simp) ?_ | refine aw_skip ?_ | refine aw_exit ?_); try simp -implicitDefEqProofs (maxSteps := 1000000) [e1, z1])
        | (refine aw_cond rfl (fun h => ?_) (fun h => ?_) <;> try (with_reducible first | exact ff_tt h | exact tt_ff h))
        | refine aw_block ?_
        | refine aw_ret (ret_of (.inr rfl) (by simp [Try.results68]; rfl) (Fin.of ?_))
        | refine ret_of (.inl rfl) (by simp [Try.results68]; rfl) (Fin.of ?_))
      all_goals first | rfl | (simp [tupOf]; done) | trace_state
  rw [if_neg h3]
  by_cases h4 : k = 4
  · rw [if_pos h4]; subst h4
    have hlv := rlevel_of w
    have hlb := lvl_b w
    have wl : IntKind.i64.wrap (lvl w + 1) = lvl w + 1 := wrap_id (by omega) (by omega)
    match ks, o4 rfl, hkid, hkz, htz, hl with
    | t0 :: t1 :: rest, _, hkid, hkz, htz, hl =>
      have hz0 := hkz t0 List.mem_cons_self
      have hz1 := hkz t1 (List.mem_cons_of_mem _ List.mem_cons_self)
      rw [tszs, tszs] at htz
      have hx := rwithin_ok t0 (lvl w) (hkid t0 List.mem_cons_self) (by omega)
      have hx2 := rwithin_ok t1 (lvl w + 1) (hkid t1 (List.mem_cons_of_mem _ List.mem_cons_self)) (by omega)
      have hws := wr_size t0 (textT t0) (lvl w)
      have hws1 := wr_size t1 (textT t1) (lvl w + 1)
      simp only [List.getD_cons_zero, List.getD_cons_succ, textsT, avs]
      have z1 : (wr t0 (textT t0) (lvl w)).size + w.size ≤ 9223372036854775807 := by omega
      have z2 : (wr t0 (textT t0) (lvl w)).size + w.size + (wr t1 (textT t1) (lvl w + 1)).size ≤ 9223372036854775807 := by omega
      generalize wr t0 (textT t0) (lvl w) = s0 at *
      generalize wr t1 (textT t1) (lvl w + 1) = s1 at *
      generalize lvl w = lw at *
      obtain ⟨tk, tn, ta, tb, tc, td, tw, tks⟩ := t0
      obtain ⟨uk, un, ua, ub, uc, ud, uw, uks⟩ := t1
      rw [Tree.av] at hx hx2
      rw [Tree.av, Tree.av]
      refine apure_of Try.func68 Try.ntmps68 rfl ?_
      simp only [List.length_cons, List.length_nil, List.cons_append, List.nil_append, List.replicate]
      repeat' (first
        | refine aw_seq ?_
        | ((first | refine aw_run [] ?_ | refine aw_ymix [] draws (by decide +kernel) ?_); try simp -implicitDefEqProofs (maxSteps := 1000000) [wl, z1, z2])
        | ((first | refine aw_zrun [] [] draws (by decide +kernel) (by decide +kernel) ?_ | refine zl_skip (by simp) rfl ?_ | refine zl_pure_guard (by simp) rfl rfl rfl (by first | assumption | kernel_rfl) rfl (fun hc => by first | exact hlv | exact hx | exact hx2) (by simp) (by simp) (by simp) ?_ | refine zl_pure (by simp) rfl rfl rfl (by first | assumption | kernel_rfl) rfl (by first | exact hlv | exact hx | exact hx2) (by simp) (by simp) ?_); try simp -implicitDefEqProofs (maxSteps := 1000000) [wl, z1, z2]; repeat first | refine zcurL (by decide +kernel) ?_ | refine zcurH (by decide +kernel) ?_ | refine zcurL' (by decide +kernel) ?_ | refine zcurH' (by decide +kernel) ?_)
        | ((first | refine aw_yrun draws (by kernel_rfl) ?_ | refine awl_skip' [] rfl ?_ | refine yl_skip rfl ?_ | refine awl_pure_guard [] rfl rfl rfl (by first | assumption | kernel_rfl) rfl (fun hc => by first | exact hlv | exact hx | exact hx2) (by simp) (by simp) (by simp) ?_ | refine yl_pureG rfl rfl rfl (by first | assumption | kernel_rfl) rfl (fun hc => by first | exact hlv | exact hx | exact hx2) (by simp) (by simp) (by simp) ?_ | refine awl_pure' [] rfl rfl rfl (by first | assumption | kernel_rfl) rfl (by first | exact hlv | exact hx | exact hx2) (by simp) (by simp) ?_ | refine yl_pure rfl rfl rfl (by first | assumption | kernel_rfl) rfl (by first | exact hlv | exact hx | exact hx2) (by simp) (by simp) ?_ | refine aw_skip ?_ | refine aw_exit ?_); try simp -implicitDefEqProofs (maxSteps := 1000000) [wl, z1, z2])
        | (refine aw_cond rfl (fun h => ?_) (fun h => ?_) <;> try (with_reducible first | exact ff_tt h | exact tt_ff h))
        | refine aw_block ?_
        | refine aw_ret (ret_of (.inr rfl) (by simp [Try.results68]; rfl) (Fin.of ?_))
        | refine ret_of (.inl rfl) (by simp [Try.results68]; rfl) (Fin.of ?_))
      all_goals first | rfl | (simp [tupOf]; done) | trace_state
  rw [if_neg h4]
  by_cases h5 : k = 5
  · rw [if_pos h5]; subst h5
    have e1 : (⟨#[40]⟩ : ByteArray).size = 1 := rfl
    have e2 : (⟨#[41]⟩ : ByteArray).size = 1 := rfl
    have e3 : (⟨#[44]⟩ : ByteArray).size = 1 := rfl
    have z0 : w.size + 1 ≤ 9223372036854775807 := by omega
    refine apure_of Try.func68 Try.ntmps68 rfl ?_
    simp only [List.length_cons, List.length_nil, List.cons_append, List.nil_append, List.replicate]
    repeat' (first
      | refine aw_seq ?_
      | ((first | refine aw_run [] ?_ | refine aw_ymix [] draws (by decide +kernel) ?_); try simp -implicitDefEqProofs (maxSteps := 1000000) [hl, e1, z0])
      | ((first | refine aw_zrun [] [] draws (by decide +kernel) (by decide +kernel) ?_ | refine zl_skip (by simp) rfl ?_); try simp -implicitDefEqProofs (maxSteps := 1000000) [hl, e1, z0]; repeat first | refine zcurL (by decide +kernel) ?_ | refine zcurH (by decide +kernel) ?_ | refine zcurL' (by decide +kernel) ?_ | refine zcurH' (by decide +kernel) ?_)
      | ((first | refine aw_yrun draws (by kernel_rfl) ?_ | refine awl_skip' [] rfl ?_ | refine yl_skip rfl ?_ | refine aw_skip ?_ | refine aw_exit ?_); try simp -implicitDefEqProofs (maxSteps := 1000000) [hl, e1, z0])
      | (refine aw_cond rfl (fun h => ?_) (fun h => ?_) <;> try (with_reducible first | exact ff_tt h | exact tt_ff h))
      | refine aw_block ?_
      | refine aw_ret (ret_of (.inr rfl) (by simp [Try.results68]; rfl) (Fin.of ?_))
      | refine ret_of (.inl rfl) (by simp [Try.results68]; rfl) (Fin.of ?_))
    refine aw_loopW [1, 6, 7] (fun q fr σ => ∃ i M : Nat, i + q = ks.length ∧ σ = mkSt [] [] M ∧ fr = frm 91 [(1, .vel [.agg [vi 5, vi n, vi a, vi b, vi c, vi d, vs w, .vsl (avs ks)]] 0 0), (6, vs (joinA (w ++ ⟨#[40]⟩) (textsT ks) i)), (7, vi (i : Nat))]) ks.length ?_ ?_
    · exact ⟨_, le_mkSt (bs := []) (ss := []) (n := 0) (by simp) (by simp) (by simp [σ0]), 0, 0, by omega, rfl, by simp [joinA]⟩
    · rintro q fr σ ⟨i, M, hi, rfl, rfl⟩
      simp -implicitDefEqProofs
      have hjs := joinA_size (w ++ ⟨#[40]⟩) ks hkz i (by omega)
      have htl : tszs (ks.take i) ≤ tszs ks := tszs_le_take
      rw [ByteArray.size_append, e1] at hjs
      by_cases hlt : i < ks.length
      · have hlti : (i : Int) < ks.length := by omega
        obtain ⟨t, ht⟩ : ∃ t, ks[i] = t := ⟨_, rfl⟩
        have hmem : t ∈ ks := ht ▸ List.getElem_mem hlt
        have hr := hkid t hmem
        have hzt := hkz t hmem
        have hts := tszs_mem hmem
        have hg := avs_get hlt
        rw [ht] at hg
        have hgt : (textsT ks).getD i ⟨#[]⟩ = textT t := by simp [textsT_map, List.getD, hlt, ht]
        have hla : i < (avs ks).length := by omega
        have wi : IntKind.i64.wrap ((i : Int) + 1) = (i : Int) + 1 := wrap_id (by omega) (by omega)
        have hjn : joinA (w ++ ⟨#[40]⟩) (textsT ks) (i + 1) = (if 0 < i then joinA (w ++ ⟨#[40]⟩) (textsT ks) i ++ ⟨#[44]⟩ else joinA (w ++ ⟨#[40]⟩) (textsT ks) i) ++ textT t := by rw [joinA, hgt]
        generalize joinA (w ++ ⟨#[40]⟩) (textsT ks) i = s1 at *
        generalize textT t = s2 at *
        have z1 : s1.size + 1 ≤ 9223372036854775807 := by omega
        have z2 : s1.size + 1 + s2.size ≤ 9223372036854775807 := by omega
        have z3 : s1.size + s2.size ≤ 9223372036854775807 := by omega
        obtain ⟨tk, tn, ta, tb, tc, td, tw, tks⟩ := t
        rw [Tree.av] at hr hg
        by_cases hip : 0 < i
        · have hipi : 0 < (i : Int) := by omega
          rw [if_pos hip] at hjn
          repeat' (first
            | refine aw_seq ?_
            | ((first | refine aw_run [] ?_ | refine aw_ymix [] draws (by decide +kernel) ?_); try simp -implicitDefEqProofs (maxSteps := 1000000) [hl, hlti, hla, hg, wi, hipi, hip, e3, z1, z2, z3])
            | ((first | refine aw_zrun [] [] draws (by decide +kernel) (by decide +kernel) ?_ | refine zl_skip (by simp) rfl ?_ | refine zl_pure_guard (by simp) rfl rfl rfl (by first | assumption | kernel_rfl) rfl (fun hc => by first | exact hr) (by simp) (by simp) (by simp) ?_ | refine zl_pure (by simp) rfl rfl rfl (by first | assumption | kernel_rfl) rfl (by first | exact hr) (by simp) (by simp) ?_); try simp -implicitDefEqProofs (maxSteps := 1000000) [hl, hlti, hla, hg, wi, hipi, hip, e3, z1, z2, z3]; repeat first | refine zcurL (by decide +kernel) ?_ | refine zcurH (by decide +kernel) ?_ | refine zcurL' (by decide +kernel) ?_ | refine zcurH' (by decide +kernel) ?_)
            | ((first | refine aw_yrun draws (by kernel_rfl) ?_ | refine awl_skip' [] rfl ?_ | refine yl_skip rfl ?_ | refine awl_pure_guard [] rfl rfl rfl (by first | assumption | kernel_rfl) rfl (fun hc => by first | exact hr) (by simp) (by simp) (by simp) ?_ | refine yl_pureG rfl rfl rfl (by first | assumption | kernel_rfl) rfl (fun hc => by first | exact hr) (by simp) (by simp) (by simp) ?_ | refine awl_pure' [] rfl rfl rfl (by first | assumption | kernel_rfl) rfl (by first | exact hr) (by simp) (by simp) ?_ | refine yl_pure rfl rfl rfl (by first | assumption | kernel_rfl) rfl (by first | exact hr) (by simp) (by simp) ?_ | refine aw_skip ?_ | refine aw_exit ?_); try simp -implicitDefEqProofs (maxSteps := 1000000) [hl, hlti, hla, hg, wi, hipi, hip, e3, z1, z2, z3])
            | (refine aw_cond rfl (fun h => ?_) (fun h => ?_) <;> try (with_reducible first | exact ff_tt h | exact tt_ff h))
            | refine aw_block ?_
            | refine aw_ret (ret_of (.inr rfl) (by simp [Try.results68]; rfl) (Fin.of ?_))
            | refine ret_of (.inl rfl) (by simp [Try.results68]; rfl) (Fin.of ?_))
          exact ⟨q - 1, by omega, mkSt [] [] M, le_mkSt (by simp) (by simp) (Nat.le_refl _), i + 1, by omega, ⟨_, rfl⟩, hjn.symm, by omega⟩
        · have hipi : ¬ 0 < (i : Int) := by omega
          rw [if_neg hip] at hjn
          repeat' (first
            | refine aw_seq ?_
            | ((first | refine aw_run [] ?_ | refine aw_ymix [] draws (by decide +kernel) ?_); try simp -implicitDefEqProofs (maxSteps := 1000000) [hl, hlti, hla, hg, wi, hipi, hip, e3, z1, z2, z3])
            | ((first | refine aw_zrun [] [] draws (by decide +kernel) (by decide +kernel) ?_ | refine zl_skip (by simp) rfl ?_ | refine zl_pure_guard (by simp) rfl rfl rfl (by first | assumption | kernel_rfl) rfl (fun hc => by first | exact hr) (by simp) (by simp) (by simp) ?_ | refine zl_pure (by simp) rfl rfl rfl (by first | assumption | kernel_rfl) rfl (by first | exact hr) (by simp) (by simp) ?_); try simp -implicitDefEqProofs (maxSteps := 1000000) [hl, hlti, hla, hg, wi, hipi, hip, e3, z1, z2, z3]; repeat first | refine zcurL (by decide +kernel) ?_ | refine zcurH (by decide +kernel) ?_ | refine zcurL' (by decide +kernel) ?_ | refine zcurH' (by decide +kernel) ?_)
            | ((first | refine aw_yrun draws (by kernel_rfl) ?_ | refine awl_skip' [] rfl ?_ | refine yl_skip rfl ?_ | refine awl_pure_guard [] rfl rfl rfl (by first | assumption | kernel_rfl) rfl (fun hc => by first | exact hr) (by simp) (by simp) (by simp) ?_ | refine yl_pureG rfl rfl rfl (by first | assumption | kernel_rfl) rfl (fun hc => by first | exact hr) (by simp) (by simp) (by simp) ?_ | refine awl_pure' [] rfl rfl rfl (by first | assumption | kernel_rfl) rfl (by first | exact hr) (by simp) (by simp) ?_ | refine yl_pure rfl rfl rfl (by first | assumption | kernel_rfl) rfl (by first | exact hr) (by simp) (by simp) ?_ | refine aw_skip ?_ | refine aw_exit ?_); try simp -implicitDefEqProofs (maxSteps := 1000000) [hl, hlti, hla, hg, wi, hipi, hip, e3, z1, z2, z3])
            | (refine aw_cond rfl (fun h => ?_) (fun h => ?_) <;> try (with_reducible first | exact ff_tt h | exact tt_ff h))
            | refine aw_block ?_
            | refine aw_ret (ret_of (.inr rfl) (by simp [Try.results68]; rfl) (Fin.of ?_))
            | refine ret_of (.inl rfl) (by simp [Try.results68]; rfl) (Fin.of ?_))
          exact ⟨q - 1, by omega, mkSt [] [] M, le_mkSt (by simp) (by simp) (Nat.le_refl _), i + 1, by omega, ⟨_, rfl⟩, hjn.symm, by omega⟩
      · have hlti : ¬ (i : Int) < ks.length := by omega
        obtain rfl : i = ks.length := by omega
        generalize joinA (w ++ ⟨#[40]⟩) (textsT ks) ks.length = s1 at *
        have z1 : s1.size + 1 ≤ 9223372036854775807 := by omega
        repeat' (first
          | refine aw_seq ?_
          | ((first | refine aw_run [] ?_ | refine aw_ymix [] draws (by decide +kernel) ?_); try simp -implicitDefEqProofs (maxSteps := 1000000) [hl, hlti, e2, z1])
          | ((first | refine aw_zrun [] [] draws (by decide +kernel) (by decide +kernel) ?_ | refine zl_skip (by simp) rfl ?_); try simp -implicitDefEqProofs (maxSteps := 1000000) [hl, hlti, e2, z1]; repeat first | refine zcurL (by decide +kernel) ?_ | refine zcurH (by decide +kernel) ?_ | refine zcurL' (by decide +kernel) ?_ | refine zcurH' (by decide +kernel) ?_)
          | ((first | refine aw_yrun draws (by kernel_rfl) ?_ | refine awl_skip' [] rfl ?_ | refine yl_skip rfl ?_ | refine aw_skip ?_ | refine aw_exit ?_); try simp -implicitDefEqProofs (maxSteps := 1000000) [hl, hlti, e2, z1])
          | (refine aw_cond rfl (fun h => ?_) (fun h => ?_) <;> try (with_reducible first | exact ff_tt h | exact tt_ff h))
          | refine aw_block ?_
          | refine aw_ret (ret_of (.inr rfl) (by simp [Try.results68]; rfl) (Fin.of ?_))
          | refine ret_of (.inl rfl) (by simp [Try.results68]; rfl) (Fin.of ?_))
        all_goals first | rfl | (simp [tupOf]; done) | trace_state
  rw [if_neg h5]
  refine apure_of Try.func68 Try.ntmps68 rfl ?_
  simp only [List.length_cons, List.length_nil, List.cons_append, List.nil_append, List.replicate]
  repeat' (first
    | refine aw_seq ?_
    | ((first | refine aw_run [] ?_ | refine aw_ymix [] draws (by decide +kernel) ?_); try simp -implicitDefEqProofs (maxSteps := 1000000) [h0, h1, h6, h3, h4, h5])
    | ((first | refine aw_zrun [] [] draws (by decide +kernel) (by decide +kernel) ?_ | refine zl_skip (by simp) rfl ?_); try simp -implicitDefEqProofs (maxSteps := 1000000) [h0, h1, h6, h3, h4, h5]; repeat first | refine zcurL (by decide +kernel) ?_ | refine zcurH (by decide +kernel) ?_ | refine zcurL' (by decide +kernel) ?_ | refine zcurH' (by decide +kernel) ?_)
    | ((first | refine aw_yrun draws (by kernel_rfl) ?_ | refine awl_skip' [] rfl ?_ | refine yl_skip rfl ?_ | refine aw_skip ?_ | refine aw_exit ?_); try simp -implicitDefEqProofs (maxSteps := 1000000) [h0, h1, h6, h3, h4, h5])
    | (refine aw_cond rfl (fun h => ?_) (fun h => ?_) <;> try (with_reducible first | exact ff_tt h | exact tt_ff h))
    | refine aw_block ?_
    | refine aw_ret (ret_of (.inr rfl) (by simp [Try.results68]; rfl) (Fin.of ?_))
    | refine ret_of (.inl rfl) (by simp [Try.results68]; rfl) (Fin.of ?_))
  all_goals first | rfl | (simp [tupOf]; done) | trace_state
/-- Its text, if it may be. -/
def printT (t : Tree) : ByteArray := if rightB t = true then textT t else ⟨#[]⟩
set_option maxHeartbeats 8000000 in
set_option maxRecDepth 100000 in
theorem rPrint_ok (t : Tree) (h : t.sh) (hs : tszT t ≤ 1000000000) (ho : rightB t = true → OkT t) : APure Try.prog 40 [t.av] (vs (printT t)) := by
  have hr := rright5_ok t h (by have := deep_le_size t; omega)
  have hx := fun hb => rtext5_ok t h hs (ho hb)
  unfold printT
  generalize rightB t = rb at *
  generalize textT t = s at *
  obtain ⟨k, n, a, b, c, d, w, ks⟩ := t
  rw [Tree.av] at hr hx ⊢
  cases rb with
  | true =>
    have hx := hx rfl
    rw [if_pos rfl]
    refine apure_of Try.func40 Try.ntmps40 rfl ?_
    simp only [List.length_cons, List.length_nil, List.cons_append, List.nil_append, List.replicate]
    repeat' (first
      | refine aw_seq ?_
      | (refine aw_run [] ?_; try simp -implicitDefEqProofs (maxSteps := 1000000))
      | ((first | refine awl_skip' [] rfl ?_ | refine awl_pure_guard [] rfl rfl rfl (by first | assumption | kernel_rfl) rfl (fun hc => by first | exact hr | exact hx) (by simp) (by simp) (by simp) ?_ | refine awl_pure' [] rfl rfl rfl (by first | assumption | kernel_rfl) rfl (by first | exact hr | exact hx) (by simp) (by simp) ?_ | refine aw_skip ?_ | refine aw_exit ?_); try simp -implicitDefEqProofs (maxSteps := 1000000))
      | (refine aw_cond rfl (fun h => ?_) (fun h => ?_) <;> try (with_reducible first | exact ff_tt h | exact tt_ff h))
      | refine aw_block ?_
      | refine aw_ret (ret_of (.inr rfl) (by simp [Try.results40]; rfl) (Fin.of ?_))
      | refine ret_of (.inl rfl) (by simp [Try.results40]; rfl) (Fin.of ?_))
    all_goals first | rfl | (simp [tupOf]; done) | trace_state
  | false =>
    rw [if_neg (by decide)]
    refine apure_of Try.func40 Try.ntmps40 rfl ?_
    simp only [List.length_cons, List.length_nil, List.cons_append, List.nil_append, List.replicate]
    repeat' (first
      | refine aw_seq ?_
      | (refine aw_run [] ?_; try simp -implicitDefEqProofs (maxSteps := 1000000))
      | ((first | refine awl_skip' [] rfl ?_ | refine awl_pure_guard [] rfl rfl rfl (by first | assumption | kernel_rfl) rfl (fun hc => by first | exact hr) (by simp) (by simp) (by simp) ?_ | refine awl_pure' [] rfl rfl rfl (by first | assumption | kernel_rfl) rfl (by first | exact hr) (by simp) (by simp) ?_ | refine aw_skip ?_ | refine aw_exit ?_); try simp -implicitDefEqProofs (maxSteps := 1000000))
      | (refine aw_cond rfl (fun h => ?_) (fun h => ?_) <;> try (with_reducible first | exact ff_tt h | exact tt_ff h))
      | refine aw_block ?_
      | refine aw_ret (ret_of (.inr rfl) (by simp [Try.results40]; rfl) (Fin.of ?_))
      | refine ret_of (.inl rfl) (by simp [Try.results40]; rfl) (Fin.of ?_))
    all_goals first | rfl | (simp [tupOf]; done) | trace_state
end Go.AL
/-! The program's 'right' is the document's. -/
namespace Go.AL
open Go.Proofs
set_option linter.unusedSimpArgs false
set_option linter.unusedVariables false
theorem str_lvl (w : ByteArray) : strT w < 3 ↔ 0 < lvl w := by
  have e0 : 0 ≤ idxS w mk0 0 ↔ w = ⟨#[60]⟩ ∨ w = ⟨#[60, 61]⟩ ∨ w = ⟨#[61]⟩ ∨ w = ⟨#[60, 62]⟩ ∨ w = ⟨#[62, 61]⟩ ∨ w = ⟨#[62]⟩ := by rw [idxS_iff]; simp [mk0]
  have e1 : 0 ≤ idxS w mk1 0 ↔ w = ⟨#[43]⟩ ∨ w = ⟨#[45]⟩ := by rw [idxS_iff]; simp [mk1]
  have e2 : 0 ≤ idxS w mk2 0 ↔ w = ⟨#[42]⟩ ∨ w = ⟨#[47]⟩ := by rw [idxS_iff]; simp [mk2]
  unfold strT lvl
  by_cases h0 : 0 ≤ idxS w mk0 0
  · rw [if_pos h0, if_pos (e0.1 h0)]; decide
  rw [if_neg h0, if_neg (fun h => h0 (e0.2 h))]
  by_cases h1 : 0 ≤ idxS w mk1 0
  · rw [if_pos h1, if_pos (e1.1 h1)]; decide
  rw [if_neg h1, if_neg (fun h => h1 (e1.2 h))]
  by_cases h2 : 0 ≤ idxS w mk2 0
  · rw [if_pos h2, if_pos (e2.1 h2)]; decide
  · rw [if_neg h2, if_neg (fun h => h2 (e2.2 h))]; decide
def Base (k n a b c d : Int) (w : ByteArray) : Prop := (k = 0 ∨ n = 0) ∧ (k = 1 ∨ k = 6 ∨ (a = 0 ∧ b = 0 ∧ c = 0 ∧ d = 0)) ∧ (k = 4 ∨ k = 5 ∨ w = ⟨#[]⟩)
theorem only_iff (k n a b c d : Int) (w : ByteArray) (ks : List Tree) (m : Int) : onlyB (.mk k n a b c d w ks) m = true ↔ Base k n a b c d w ∧ (ks.length : Int) = m := by
  simp only [onlyB, Base, Bool.and_eq_true, Bool.or_eq_true, decide_eq_true_eq]
  constructor
  · rintro ⟨⟨⟨h1, h2⟩, h3⟩, h4⟩
    refine ⟨⟨h1, ?_, ?_⟩, h4⟩
    · rcases h2 with (h | h) | h
      · exact .inl h
      · exact .inr (.inl h)
      · exact .inr (.inr ⟨h.1.1.1, h.1.1.2, h.1.2, h.2⟩)
    · rcases h3 with (h | h) | h
      · exact .inl h
      · exact .inr (.inl h)
      · exact .inr (.inr h)
  · rintro ⟨⟨h1, h2, h3⟩, h4⟩
    refine ⟨⟨⟨h1, ?_⟩, ?_⟩, h4⟩
    · rcases h2 with h | h | h
      · exact .inl (.inl h)
      · exact .inl (.inr h)
      · exact .inr ⟨⟨⟨h.1, h.2.1⟩, h.2.2.1⟩, h.2.2.2⟩
    · rcases h3 with h | h | h
      · exact .inl (.inl h)
      · exact .inl (.inr h)
      · exact .inr h
theorem bare_iff (k n a b c d : Int) (w : ByteArray) (ks : List Tree) : (bareT (.mk k n a b c d w ks)).words = (n, (a, b, c, d), w) ↔ Base k n a b c d w := by
  simp only [bareT, Tree.words, Prod.mk.injEq, Base]
  by_cases h0 : k = 0 <;> by_cases h1 : k = 1 <;> by_cases h6 : k = 6 <;> by_cases h4 : k = 4 <;> by_cases h5 : k = 5 <;> simp [h0, h1, h6, h4, h5, eq_comm] <;> (try omega) <;> (try (constructor <;> (intro h; simp_all)))
theorem own_iff (k n a b c d : Int) (w : ByteArray) (ks : List Tree) : ownK (.mk k n a b c d w ks) = true ↔ Base k n a b c d w ∧
    (if k = 0 then ks.length = 0 ∧ 0 ≤ n
    else if k = 1 then ks.length = 0 ∧ rightP a b = true ∧ a = c ∧ b = d
    else if k = 2 then ks.length = 0
    else if k = 6 then ks.length = 0 ∧ wholeP a b c d = true
    else if k = 3 then ks.length = 1
    else if k = 4 then ks.length = 2 ∧ 0 < lvl w
    else k = 5 ∧ (if w = bIF then ks.length = 3 else isFn w = true ∧ 0 < ks.length)) := by
  rw [ownK]
  by_cases hb : (bareT (.mk k n a b c d w ks)).words = (n, (a, b, c, d), w)
  · rw [if_neg (by simpa using hb)]
    have hB := (bare_iff k n a b c d w ks).1 hb
    simp only [hB, true_and]
    by_cases h0 : k = 0
    · simp [h0]
    rw [if_neg h0, if_neg h0]
    by_cases h1 : k = 1
    · simp [h1, and_assoc]
    rw [if_neg h1, if_neg h1]
    by_cases h2 : k = 2
    · simp [h2]
    rw [if_neg h2, if_neg h2]
    by_cases h6 : k = 6
    · simp [h6]
    rw [if_neg h6, if_neg h6]
    by_cases h3 : k = 3
    · simp [h3]
    rw [if_neg h3, if_neg h3]
    by_cases h4 : k = 4
    · simp [h4, str_lvl]
    rw [if_neg h4, if_neg h4]
    by_cases hw : w = bIF
    · simp [hw]
    rw [if_neg hw, if_neg hw]
    by_cases hf : isFn w = true
    · simp [hf]
    · simp [hf]
  · rw [if_pos (by simpa using hb)]
    exact ⟨fun h => (by cases h), fun h => absurd ((bare_iff k n a b c d w ks).2 h.1) hb⟩
theorem pass_iff (sp co m : Bool) (k : Int) : passB sp co m k = true ↔ m = true ∧ (sp = true ∨ k ≠ 6) ∧ (co = false ∨ k = 6 ∨ k = 2) := by
  unfold passB
  cases sp <;> cases co <;> cases m <;> by_cases h6 : k = 6 <;> by_cases h2 : k = 2 <;> simp [h6, h2]
theorem may_own (k n a b c d : Int) (w : ByteArray) (ks : List Tree) : mayB (.mk k n a b c d w ks) = true ↔ ownK (.mk k n a b c d w ks) = true ∧ ∀ u ∈ ks, fitsK (.mk k n a b c d w ks) u = true ∧ mayB u = true := by
  have hall : ∀ sp co, allB sp co ks = true ↔ ∀ u ∈ ks, mayB u = true ∧ (sp = true ∨ u.kind ≠ 6) ∧ (co = false ∨ u.kind = 6 ∨ u.kind = 2) := fun sp co => by
    rw [allB_all, List.all_eq_true]
    exact forall_congr' fun u => imp_congr_right fun _ => pass_iff _ _ _ _
  have hnil : ks.length = 0 → ∀ u ∈ ks, fitsK (.mk k n a b c d w ks) u = true ∧ mayB u = true := fun h u hu => by
    rw [List.length_eq_zero_iff.1 h] at hu; cases hu
  have hlen : ∀ m : Nat, ((ks.length : Int) = m) ↔ ks.length = m := fun m => by omega
  rw [own_iff, mayB]
  by_cases h0 : k = 0
  · rw [if_pos h0, if_pos h0, Bool.and_eq_true, only_iff, decide_eq_true_eq]
    exact ⟨fun h => ⟨⟨h.1.1, by have := h.1.2; omega, h.2⟩, hnil (by have := h.1.2; omega)⟩, fun h => ⟨⟨h.1.1, by have := h.1.2.1; omega⟩, h.1.2.2⟩⟩
  rw [if_neg h0, if_neg h0]
  by_cases h1 : k = 1
  · rw [if_pos h1, if_pos h1]
    simp only [Bool.and_eq_true, only_iff, decide_eq_true_eq]
    exact ⟨fun h => ⟨⟨h.1.1.1, by have := h.1.1.2; omega, h.1.2, h.2⟩, hnil (by have := h.1.1.2; omega)⟩, fun h => ⟨⟨⟨h.1.1, by have := h.1.2.1; omega⟩, h.1.2.2.1⟩, h.1.2.2.2⟩⟩
  rw [if_neg h1, if_neg h1]
  by_cases h2 : k = 2
  · rw [if_pos h2, if_pos h2, only_iff]
    exact ⟨fun h => ⟨⟨h.1, by have := h.2; omega⟩, hnil (by have := h.2; omega)⟩, fun h => ⟨h.1.1, by have := h.1.2; omega⟩⟩
  rw [if_neg h2, if_neg h2]
  by_cases h6 : k = 6
  · rw [if_pos h6, if_pos h6]
    simp only [Bool.and_eq_true, only_iff]
    exact ⟨fun h => ⟨⟨h.1.1, by have := h.1.2; omega, h.2⟩, hnil (by have := h.1.2; omega)⟩, fun h => ⟨⟨h.1.1, by have := h.1.2.1; omega⟩, h.1.2.2⟩⟩
  rw [if_neg h6, if_neg h6]
  have hfit : k ≠ 5 → ∀ u, fitsK (.mk k n a b c d w ks) u = true ↔ u.kind ≠ 6 := fun h5 u => by
    rw [fitsK, if_neg (fun h => h5 h.1), if_neg (fun h => h5 h.1)]; simp only [Bool.not_eq_true', decide_eq_false_iff_not, ne_eq]
  by_cases h3 : k = 3
  · rw [if_pos h3, if_pos h3]
    simp only [Bool.and_eq_true, only_iff, hall, hfit (by omega)]
    exact ⟨fun h => ⟨⟨h.1.1, by have := h.1.2; omega⟩, fun u hu => ⟨((h.2 u hu).2.1).resolve_left (by decide), (h.2 u hu).1⟩⟩, fun h => ⟨⟨h.1.1, by have := h.1.2; omega⟩, fun u hu => ⟨(h.2 u hu).2, .inr (h.2 u hu).1, Or.inl (by trivial)⟩⟩⟩
  rw [if_neg h3, if_neg h3]
  by_cases h4 : k = 4
  · rw [if_pos h4, if_pos h4]
    simp only [Bool.and_eq_true, only_iff, hall, hfit (by omega), decide_eq_true_eq]
    exact ⟨fun h => ⟨⟨h.1.1.1, by have := h.1.1.2; omega, h.2⟩, fun u hu => ⟨((h.1.2 u hu).2.1).resolve_left (by decide), (h.1.2 u hu).1⟩⟩, fun h => ⟨⟨⟨h.1.1, by have := h.1.2.1; omega⟩, fun u hu => ⟨(h.2 u hu).2, .inr (h.2 u hu).1, Or.inl (by trivial)⟩⟩, h.1.2.2⟩⟩
  rw [if_neg h4, if_neg h4]
  by_cases h5 : k = 5
  · rw [if_pos h5]
    simp only [h5, true_and]
    by_cases hw : w = bIF
    · have hc : ¬ w = bCOUNT := by rw [hw]; decide
      rw [if_pos hw, if_pos hw]
      have hf : ∀ u, fitsK (.mk 5 n a b c d w ks) u = true ↔ u.kind ≠ 6 := fun u => by
        rw [fitsK, if_neg (fun h => hc h.2), if_neg (fun h => h.2 hw)]; simp only [Bool.not_eq_true', decide_eq_false_iff_not, ne_eq]
      simp only [Bool.and_eq_true, only_iff, hall, hf, decide_eq_true_eq, h5]
      have e1 : (!decide (w = bIF)) = false := by simp [hw]
      have e2 : decide (w = bCOUNT) = false := by simp [hc]
      rw [e1, e2]
      exact ⟨fun h => ⟨⟨h.1.1.1, by have := h.2; omega⟩, fun u hu => ⟨((h.1.2 u hu).2.1).resolve_left (by decide), (h.1.2 u hu).1⟩⟩, fun h => ⟨⟨⟨h.1.1, trivial⟩, fun u hu => ⟨(h.2 u hu).2, .inr (h.2 u hu).1, Or.inl (by trivial)⟩⟩, by have := h.1.2; omega⟩⟩
    · rw [if_neg hw, if_neg hw]
      by_cases hfn : isFn w = true
      · rw [if_pos hfn]
        have e1 : (!decide (w = bIF)) = true := by simp [hw]
        simp only [Bool.and_eq_true, only_iff, hall, decide_eq_true_eq, h5, hfn, true_and]
        rw [e1]
        by_cases hc : w = bCOUNT
        · have e2 : decide (w = bCOUNT) = true := by simp [hc]
          have hf : ∀ u, fitsK (.mk 5 n a b c d w ks) u = true ↔ u.kind = 6 ∨ u.kind = 2 := fun u => by
            rw [fitsK, if_pos ⟨rfl, hc⟩]; simp only [Bool.or_eq_true, decide_eq_true_eq]
          rw [e2]
          simp only [hf]
          exact ⟨fun h => ⟨⟨h.1.1.1, by have := h.2; omega⟩, fun u hu => ⟨((h.1.2 u hu).2.2).resolve_left (by decide), (h.1.2 u hu).1⟩⟩, fun h => ⟨⟨⟨h.1.1, trivial⟩, fun u hu => ⟨(h.2 u hu).2, Or.inl (by trivial), .inr (h.2 u hu).1⟩⟩, by have := h.1.2; omega⟩⟩
        · have e2 : decide (w = bCOUNT) = false := by simp [hc]
          have hf : ∀ u, fitsK (.mk 5 n a b c d w ks) u = true := fun u => by
            rw [fitsK, if_neg (fun h => hc h.2), if_pos ⟨rfl, hw⟩]
          rw [e2]
          simp only [hf]
          exact ⟨fun h => ⟨⟨h.1.1.1, by have := h.2; omega⟩, fun u hu => ⟨trivial, (h.1.2 u hu).1⟩⟩, fun h => ⟨⟨⟨h.1.1, trivial⟩, fun u hu => ⟨(h.2 u hu).2, Or.inl (by trivial), Or.inl (by trivial)⟩⟩, by have := h.1.2; omega⟩⟩
      · rw [if_neg hfn]
        simp [hfn]
  · rw [if_neg h5]
    simp [h5]
theorem deeps_le {l : List Tree} {d : Nat} : deeps l ≤ d ↔ ∀ u ∈ l, deepT u ≤ d := by
  induction l with
  | nil => simp [deeps]
  | cons t l ih => rw [deeps]; simp only [List.mem_cons, forall_eq_or_imp, ← ih]; omega
theorem right_may : ∀ (d : Nat) (t : Tree), rightK d t = true ↔ deepT t ≤ d ∧ mayB t = true := by
  intro d
  induction d with
  | zero =>
    intro t
    obtain ⟨k, n, a, b, c, e, w, ks⟩ := t
    rw [rightK, deepT]; simp
  | succ d ih =>
    intro t
    obtain ⟨k, n, a, b, c, e, w, ks⟩ := t
    rw [rightK, Bool.and_eq_true, List.all_eq_true, may_own, deepT]
    simp only [Bool.and_eq_true, ih, Tree.kids]
    have : deeps ks + 1 ≤ d + 1 ↔ ∀ u ∈ ks, deepT u ≤ d := by rw [← deeps_le]; omega
    rw [this]
    exact ⟨fun h => ⟨fun u hu => (h.2 u hu).2.1, h.1, fun u hu => ⟨(h.2 u hu).1, (h.2 u hu).2.2⟩⟩, fun h => ⟨h.2.1, fun u hu => ⟨(h.2.2 u hu).1, h.1 u hu, (h.2.2 u hu).2⟩⟩⟩
/-- The program's answer is the document's. -/
theorem rightK_B (t : Tree) : (!decide (t.kind = 6) && rightK 16 t) = rightB t := by
  apply Bool.eq_iff_iff.2
  unfold rightB
  simp only [Bool.and_eq_true, decide_eq_true_eq, right_may]
  constructor
  · rintro ⟨h1, h2, h3⟩; exact ⟨⟨h2, h1⟩, h3⟩
  · rintro ⟨⟨h2, h1⟩, h3⟩; exact ⟨h1, h2, h3⟩
end Go.AL
/-! What the program's shapes are, and the document's: the same. -/
namespace Go.AL
open Go.Proofs
set_option linter.unusedSimpArgs false
set_option linter.unusedVariables false
theorem may_leaf {k n a b c d : Int} {w : ByteArray} {ks : List Tree} (h : mayB (.mk k n a b c d w ks) = true) (hk : k = 1 ∨ k = 6) : ks = [] := by
  have h1 := ((own_iff _ _ _ _ _ _ _ _).1 ((may_own _ _ _ _ _ _ _ _).1 h).1).2
  rcases hk with rfl | rfl
  · exact List.length_eq_zero_iff.1 h1.1
  · exact List.length_eq_zero_iff.1 h1.1
theorem may_kids {k n a b c d : Int} {w : ByteArray} {ks : List Tree} (h : mayB (.mk k n a b c d w ks) = true) : ∀ u ∈ ks, mayB u = true := fun u hu => (((may_own _ _ _ _ _ _ _ _).1 h).2 u hu).2
theorem any_flat {α β : Type} (l : List α) (f : α → List β) (p : β → Bool) : (l.flatMap f).any p = l.any fun x => (f x).any p := by
  induction l with
  | nil => rfl
  | cons x l ih => rw [List.flatMap_cons, List.any_append, List.any_cons, ih]
theorem partsTs_flat : ∀ l, partsTs l = l.flatMap partsT
  | [] => rfl
  | t :: ts => by rw [partsTs, partsTs_flat ts]; rfl
theorem uses_parts (x y : Int) : ∀ t, mayB t = true → (partsT t).any (partU x y) = usesB x y t := by
  refine Tree.byKids fun k n a b c d w ks ih => ?_
  intro hm
  rw [partsT, usesB, List.any_cons, partU]
  by_cases hk : k = 1 ∨ k = 6
  · rw [if_pos hk, may_leaf hm hk]
    have : (decide (k = 1) || decide (k = 6)) = true := by simpa using hk
    rw [this]; simp [partsTs]
  · rw [if_neg hk]
    have : (decide (k = 1) || decide (k = 6)) = false := by simpa using hk
    rw [this, usesBs_any, partsTs_flat, any_flat]
    simp only [Bool.false_and, Bool.false_or]
    apply Bool.eq_iff_iff.2
    simp only [List.any_eq_true]
    exact ⟨fun ⟨u, hu, h⟩ => ⟨u, hu, by rw [← ih u hu (may_kids hm u hu)]; simpa using h⟩, fun ⟨u, hu, h⟩ => ⟨u, hu, by rw [← ih u hu (may_kids hm u hu)] at h; simpa using h⟩⟩
theorem rightB_may {t : Tree} (h : rightB t = true) : mayB t = true := by
  unfold rightB at h
  simp only [Bool.and_eq_true] at h
  exact h.2
theorem uses_eq (t : Tree) (x y : Int) : (partsR (rightB t) t).any (partU x y) = (rightB t && usesB x y t) := by
  unfold partsR
  by_cases h : rightB t = true
  · rw [if_pos h, h, uses_parts x y t (rightB_may h)]; rfl
  · rw [if_neg h, eq_false_of_ne_true h]; rfl
theorem count_parts (kd : Int) (hk : 0 ≤ kd) : ∀ t, (partsT t).countP (fun u => decide (u.kind = kd)) = cntT kd t := by
  refine Tree.byKids fun k n a b c d w ks ih => ?_
  rw [partsT, cntT, List.countP_cons]
  have hs : (partsTs ks).countP (fun u => decide (u.kind = kd)) = cnts kd ks := by
    induction ks with
    | nil => rfl
    | cons u l ih2 => rw [partsTs, cnts, List.countP_append, ih u List.mem_cons_self, ih2 fun t ht => ih t (List.mem_cons_of_mem _ ht)]
  rw [hs, Nat.add_comm]
  congr 1
  have h0 : ¬ kd < 0 := by omega
  by_cases h : k = kd
  · rw [if_pos (show decide ((Tree.mk k n a b c d w ks).kind = kd) = true from decide_eq_true h), if_pos (.inr h)]
  · rw [if_neg (show ¬ decide ((Tree.mk k n a b c d w ks).kind = kd) = true from fun e => h (of_decide_eq_true e)), if_neg (fun e => e.elim h0 h)]
theorem bads_eq (t : Tree) : (((partsR (rightB t) t).countP fun u => decide (u.kind = 2) : Nat) : Int) = (if rightB t = true then ((cntT 2 t : Nat) : Int) else (0 : Int)) := by
  unfold partsR
  by_cases h : rightB t = true
  · rw [if_pos h, if_pos h, count_parts 2 (by decide)]
  · rw [if_neg h, if_neg h]; rfl
theorem size_parts : ∀ t, (partsT t).length = cntT (-1) t := by
  refine Tree.byKids fun k n a b c d w ks ih => ?_
  rw [partsT, cntT, List.length_cons, if_pos (.inl (by decide)), Nat.add_comm]
  congr 1
  induction ks with
  | nil => rfl
  | cons u l ih2 => rw [partsTs, cnts, List.length_append, ih u List.mem_cons_self, ih2 fun t ht => ih t (List.mem_cons_of_mem _ ht)]
theorem size_eq (t : Tree) : (((partsR (rightB t) t).length : Nat) : Int) = (if rightB t = true then ((cntT (-1) t : Nat) : Int) else (0 : Int)) := by
  unfold partsR
  by_cases h : rightB t = true
  · rw [if_pos h, if_pos h, size_parts]
  · rw [if_neg h, if_neg h]; rfl
theorem mem_gridL {a b c d : Int} {p : Int × Int} : p ∈ gridL a b c d ↔ hasP a b c d p.1 p.2 = true := by
  unfold gridL hasP
  by_cases hw : wholeP a b c d = true
  · rw [if_pos hw, hw]
    simp only [gridN, rowN, List.mem_flatMap, List.mem_map, List.mem_range, Bool.true_and, withinP, Bool.and_eq_true, decide_eq_true_eq]
    constructor
    · rintro ⟨j, hj, i, hi, rfl⟩
      have := whole_iff.1 hw
      simp only
      omega
    · intro h
      have := whole_iff.1 hw
      refine ⟨(p.2 - b).toNat, by omega, (p.1 - a).toNat, by omega, ?_⟩
      have e1 : a + ((p.1 - a).toNat : Int) = p.1 := by omega
      have e2 : b + ((p.2 - b).toNat : Int) = p.2 := by omega
      rw [e1, e2]
  · rw [if_neg hw, eq_false_of_ne_true hw]; simp
theorem at_idx {i : Nat} (h : i < 1024) : InP (atC (i : Int), atR (i : Int)) ∧ pidx (atC (i : Int), atR (i : Int)) = i := by
  have h2 : 0 ≤ (i : Int) ∧ (i : Int) < 1024 := by omega
  unfold InP rightP pidx atC atR
  simp only [if_pos h2, Bool.and_eq_true, decide_eq_true_eq]
  omega
theorem idx_at {p : Int × Int} (h : InP p) : atC ((pidx p : Nat) : Int) = p.1 ∧ atR ((pidx p : Nat) : Int) = p.2 := by
  have h1 := h.lt
  unfold InP rightP at h
  simp only [Bool.and_eq_true, decide_eq_true_eq] at h
  unfold atC atR
  have h2 : 0 ≤ ((pidx p : Nat) : Int) ∧ ((pidx p : Nat) : Int) < 1024 := by omega
  rw [if_pos h2, if_pos h2]
  unfold pidx
  omega
set_option maxRecDepth 100000 in
theorem partL_at (u : Tree) {i : Nat} (h : i < 1024) : ((partL u).any fun p => decide (pidx p = i)) = partU (atC (i : Int)) (atR (i : Int)) u := by
  obtain ⟨k, n, a, b, c, d, w, ks⟩ := u
  rw [partL, partU]
  by_cases hk : k = 1 ∨ k = 6
  · have : (decide (k = 1) || decide (k = 6)) = true := by simpa using hk
    rw [if_pos hk, this, Bool.true_and]
    apply Bool.eq_iff_iff.2
    simp only [List.any_eq_true, decide_eq_true_eq]
    constructor
    · rintro ⟨p, hp, rfl⟩
      have := idx_at (gridL_in p hp)
      rw [this.1, this.2]; exact mem_gridL.1 hp
    · intro hh
      have hi := (at_idx h).2
      exact ⟨(atC (i : Int), atR (i : Int)), mem_gridL.2 hh, hi⟩
  · have : (decide (k = 1) || decide (k = 6)) = false := by simpa using hk
    rw [if_neg hk, this]; rfl
theorem gridP_cong {p q : Nat → Bool} {n : Nat} (h : ∀ i, i < n → p i = q i) : gridP p n = gridP q n := by
  unfold gridP
  rw [List.filter_congr fun i hi => h i (List.mem_range.1 hi)]
theorem gridP_none (n : Nat) : gridP (fun _ => false) n = [] := by simp [gridP]
theorem reads_eq (t : Tree) : gridP (readAt (partsR (rightB t) t)) 1024 = if rightB t = true then gridP (usesN t) 1024 else [] := by
  unfold partsR
  by_cases h : rightB t = true
  · rw [if_pos h, if_pos h]
    refine gridP_cong fun i hi => ?_
    unfold readAt usesN
    rw [any_flat, ← uses_parts _ _ t (rightB_may h)]
    congr 1
    funext u
    exact partL_at u hi
  · rw [if_neg h, if_neg h]
    exact gridP_none 1024
end Go.AL
