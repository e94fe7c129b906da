/- Parts of the proof of ShapeTells: the logic, contracts, plain laws. -/
import Derived.Test.YtadahjmamgidnaaZShapeTells28
import Derived.Test.YtadahjmamgidnaaZShapeTells25
/-! Contracts: gridironlaw06.alive. -/
namespace Go.AL
open Go.Proofs
set_option linter.unusedSimpArgs false
set_option linter.unusedVariables false
def aSum : ByteArray := ⟨#[83, 85, 77]⟩
/-- SUM(B2:C2,B2)+A1*#REF -/
def aText : ByteArray := ⟨#[83, 85, 77, 40, 66, 50, 58, 67, 50, 44, 66, 50, 41, 43, 65, 49, 42, 35, 82, 69, 70]⟩
def aTree : Tree := .mk 4 0 0 0 0 0 ⟨#[43]⟩ [.mk 5 0 0 0 0 0 ⟨#[83, 85, 77]⟩ [.mk 6 0 1 1 2 1 ⟨#[]⟩ [], .mk 1 0 1 1 1 1 ⟨#[]⟩ []], .mk 4 0 0 0 0 0 ⟨#[42]⟩ [.mk 1 0 0 0 0 0 ⟨#[]⟩ [], .mk 2 0 0 0 0 0 ⟨#[]⟩ []]]
def uTree : Tree := .mk 4 0 0 0 0 0 ⟨#[43]⟩ [.mk 5 0 0 0 0 0 ⟨#[83, 85, 77]⟩ [.mk 6 0 1 0 2 0 ⟨#[]⟩ [], .mk 1 0 1 0 1 0 ⟨#[]⟩ []], .mk 4 0 0 0 0 0 ⟨#[42]⟩ [.mk 2 0 0 0 0 0 ⟨#[]⟩ [], .mk 2 0 0 0 0 0 ⟨#[]⟩ []]]
set_option maxRecDepth 1000000 in
theorem aparse : parse5 aText = (aTree, 0, 0) := by kernel_rfl
set_option maxRecDepth 1000000 in
theorem aright : rightB aTree = true := by kernel_rfl
set_option maxRecDepth 1000000 in
theorem amoved : movedT 0 (-1) aTree = uTree := by kernel_rfl
set_option maxRecDepth 1000000 in
theorem uright : rightB uTree = true := by kernel_rfl
set_option maxRecDepth 1000000 in
theorem areads : gridP (usesN aTree) 1024 = [(0, 0), (1, 1), (2, 1)] := by kernel_rfl
set_option maxRecDepth 1000000 in
theorem utext : textT uTree = ⟨#[83, 85, 77, 40, 66, 49, 58, 67, 49, 44, 66, 49, 41, 43, 35, 82, 69, 70, 42, 35, 82, 69, 70]⟩ := by kernel_rfl
theorem acounts : cntT 2 uTree = 2 ∧ cntT (-1) uTree = 7 ∧ usesB 1 1 aTree = true := by decide +kernel
theorem sRightD (t : Tree) (h : t.sh) : APure Try.prog 41 [t.av] (vb (rightB t)) := by rw [← rightK_B]; exact sRight_ok t h
theorem sReadsD (t : Tree) (h : t.sh) : APure Try.prog 14 [t.av] (.vsl ((if rightB t = true then gridP (usesN t) 1024 else []).map pl)) := by rw [← reads_eq]; exact shReads_ok t _ (sRightD t h) h
theorem sUsesD (t : Tree) (x y : Int) (h : t.sh) : APure Try.prog 16 [t.av, place x y] (vb (rightB t && usesB x y t)) := by rw [← uses_eq]; exact shUses_ok t _ x y (sRightD t h) h
theorem sBadsD (t : Tree) (h : t.sh) (hs : tszT t ≤ 1000000000) : APure Try.prog 18 [t.av] (vi (if rightB t = true then (cntT 2 t : Nat) else 0)) := by
  have := shBads_ok t _ (sRightD t h) h hs
  rw [bads_eq] at this; exact this
theorem sSizeD (t : Tree) (h : t.sh) (hs : tszT t ≤ 1000000000) : APure Try.prog 20 [t.av] (vi (if rightB t = true then (cntT (-1) t : Nat) else 0)) := by
  have := shSize_ok t _ (sRightD t h) h hs
  rw [size_eq] at this; exact this
theorem sShiftD (t : Tree) (x y : Int) (hx : In64 x) (hy : In64 y) (h : t.sh) (hs : tszT t ≤ 1000000000) : APure Try.prog 10 [t.av, place x y] (.tup [(if rightB t = true then movedT x y t else zeroT).av, vi (if rightB t = true then 0 else 1)]) := sShift_ok t x y hx hy h hs _ (sRightD t h)
theorem ash : aTree.sh := by simp [aTree, Tree.sh, shs]
theorem ush : uTree.sh := by simp [uTree, Tree.sh, shs]
theorem uok : OkT uTree := by
  simp only [uTree, OkT, OkTs, In64]
  refine ⟨by decide, by decide, by decide, by decide, ?_⟩
  repeat' constructor
  all_goals decide
set_option maxHeartbeats 8000000 in
set_option maxRecDepth 100000 in
theorem alive6_ok : APure Try.prog 9 [] (vb true) := by
  have hP := rparse5_ok aText (by decide)
  rw [aparse] at hP
  have hR := sReadsD aTree ash
  rw [if_pos aright, areads] at hR
  have hS := sShiftD aTree 0 (-1) ⟨by decide, by decide⟩ ⟨by decide, by decide⟩ ash (by decide)
  rw [if_pos aright, if_pos aright, amoved] at hS
  have hT := rPrint_ok uTree ush (by decide) fun _ => uok
  rw [printT, if_pos uright, utext] at hT
  have hB := sBadsD uTree ush (by decide)
  rw [if_pos uright, acounts.1] at hB
  have hZ := sSizeD uTree ush (by decide)
  rw [if_pos uright, acounts.2.1] at hZ
  have hU := sUsesD aTree 1 1 ash
  rw [aright, acounts.2.2] at hU
  obtain ⟨ks0, hk0⟩ : ∃ ks0, aTree = .mk 4 0 0 0 0 0 ⟨#[43]⟩ ks0 := ⟨_, rfl⟩
  obtain ⟨ks1, hk1⟩ : ∃ ks1, uTree = .mk 4 0 0 0 0 0 ⟨#[43]⟩ ks1 := ⟨_, rfl⟩
  rw [hk0] at hP hR hS hU
  rw [hk1] at hS hT hB hZ
  rw [Tree.av] at hP hR hS hU hT hB hZ
  rw [Tree.av] at hS
  simp only [List.map_cons, List.map_nil, pl] at hR
  simp only [aText] at hP
  refine apure_of Try.func9 Try.ntmps9 rfl ?_
  simp only [List.length_cons, List.length_nil, List.cons_append, List.nil_append, List.replicate]
  repeat' (first
    | refine aw_seq ?_
    | ((first | refine aw_run [1, 5] ?_ | refine aw_ymix [1, 5] draws (by decide +kernel) ?_); try simp -implicitDefEqProofs (maxSteps := 1000000))
    | ((first | refine aw_zrun [1, 5] [] draws (by decide +kernel) (by decide +kernel) ?_ | refine zl_skip (by simp) rfl ?_ | refine zl_pure_guard (by simp) rfl rfl rfl (by first | assumption | kernel_rfl) rfl (fun hc => by first | exact hP | exact hR | exact hS | exact hT | exact hB | exact hZ | exact hU) (by simp) (by simp) (by simp) ?_ | refine zl_pure (by simp) rfl rfl rfl (by first | assumption | kernel_rfl) rfl (by first | exact hP | exact hR | exact hS | exact hT | exact hB | exact hZ | exact hU) (by simp) (by simp) ?_); try simp -implicitDefEqProofs (maxSteps := 1000000); repeat first | refine zcurL (by decide +kernel) ?_ | refine zcurH (by decide +kernel) ?_ | refine zcurL' (by decide +kernel) ?_ | refine zcurH' (by decide +kernel) ?_)
    | ((first | refine aw_yrun draws (by kernel_rfl) ?_ | refine awl_skip' [1, 5] rfl ?_ | refine yl_skip rfl ?_ | refine awl_pure_guard [1, 5] rfl rfl rfl (by first | assumption | kernel_rfl) rfl (fun hc => by first | exact hP | exact hR | exact hS | exact hT | exact hB | exact hZ | exact hU) (by simp) (by simp) (by simp) ?_ | refine yl_pureG rfl rfl rfl (by first | assumption | kernel_rfl) rfl (fun hc => by first | exact hP | exact hR | exact hS | exact hT | exact hB | exact hZ | exact hU) (by simp) (by simp) (by simp) ?_ | refine awl_pure' [1, 5] rfl rfl rfl (by first | assumption | kernel_rfl) rfl (by first | exact hP | exact hR | exact hS | exact hT | exact hB | exact hZ | exact hU) (by simp) (by simp) ?_ | refine yl_pure rfl rfl rfl (by first | assumption | kernel_rfl) rfl (by first | exact hP | exact hR | exact hS | exact hT | exact hB | exact hZ | exact hU) (by simp) (by simp) ?_ | refine aw_skip ?_ | refine aw_exit ?_); try simp -implicitDefEqProofs (maxSteps := 1000000))
    | (refine aw_cond rfl (fun h => ?_) (fun h => ?_) <;> try (with_reducible first | exact ff_tt h | exact tt_ff h))
    | refine aw_block ?_
    | refine aw_ret (ret_of (.inr rfl) (by simp [Try.results9]; rfl) (Fin.of ?_))
    | refine ret_of (.inl rfl) (by simp [Try.results9]; rfl) (Fin.of ?_))
  simp [tupOf]
end Go.AL
/-! Contracts: gridironref02.Same. -/
namespace Go.AL
open Go.Proofs
set_option linter.unusedSimpArgs false
set_option linter.unusedVariables false
set_option maxRecDepth 100000 in
theorem rsame_ok (l m : List (Int × Int)) (hl : (l.length : Int) < 2 ^ 47) : APure Try.prog 13 [.vsl (l.map pl), .vsl (m.map pl)] (vb (decide (l = m))) := by
  refine apure_of Try.func13 Try.ntmps13 rfl ?_
  simp only [List.length_cons, List.length_nil, List.cons_append, List.nil_append, List.replicate]
  refine aw_seq (aw_run [] ?_)
  simp -implicitDefEqProofs
  refine aw_seq (aw_seq (aw_run [] ?_))
  simp -implicitDefEqProofs
  refine aw_cond rfl (fun h => ?_) (fun h => aw_skip ?_)
  · repeat' (first
      | refine aw_seq ?_
      | ((first | refine aw_run [] ?_ | refine aw_ymix [] draws (by decide +kernel) ?_); try simp -implicitDefEqProofs (maxSteps := 1000000))
      | ((first | refine aw_zrun [] [] draws (by decide +kernel) (by decide +kernel) ?_ | refine zl_skip (by simp) rfl ?_); try simp -implicitDefEqProofs (maxSteps := 1000000); repeat first | refine zcurL (by decide +kernel) ?_ | refine zcurH (by decide +kernel) ?_ | refine zcurL' (by decide +kernel) ?_ | refine zcurH' (by decide +kernel) ?_)
      | ((first | refine aw_yrun draws (by kernel_rfl) ?_ | refine awl_skip' [] rfl ?_ | refine yl_skip rfl ?_ | refine aw_skip ?_ | refine aw_exit ?_); try simp -implicitDefEqProofs (maxSteps := 1000000))
      | (refine aw_cond rfl (fun h => ?_) (fun h => ?_) <;> try (with_reducible first | exact ff_tt h | exact tt_ff h))
      | refine aw_block ?_
      | refine aw_ret (ret_of (.inr rfl) (by simp [Try.results13]; rfl) (Fin.of ?_))
      | refine ret_of (.inl rfl) (by simp [Try.results13]; rfl) (Fin.of ?_))
    simp [tupOf] at h ⊢
    rintro rfl; exact h rfl
  · have hlen : m.length = l.length := by simp at h; omega
    simp -implicitDefEqProofs
    refine aw_seq (aw_seq (aw_run [] ?_))
    simp -implicitDefEqProofs
    refine aw_block (aw_loopK [0, 1, 4, 5] (fun n fr σ => σ = σ0 ∧ ∃ i : Nat, i + n = l.length ∧ l.take i = m.take i ∧ fr = frm 26 [(0, .vsl (l.map pl)), (1, .vsl (m.map pl)), (4, vb false), (5, vi i)]) l.length ?_ ?_)
    · simp
    · rintro n fr σ ⟨rfl, i, hi, ht, rfl⟩
      simp
      refine aw_seq (aw_seq (aw_run [] ?_))
      simp -implicitDefEqProofs
      refine aw_cond rfl (fun h => aw_skip ?_) (fun h => aw_exit ?_)
      · have hlt : i < l.length := by simp at h; omega
        obtain ⟨u, hu⟩ : ∃ u, l[i]? = some u := ⟨l[i], by simp [hlt]⟩
        obtain ⟨v, hv⟩ : ∃ u, m[i]? = some u := ⟨m[i], by simp⟩
        simp -implicitDefEqProofs
        refine aw_seq (aw_block (aw_seq (aw_yrun draws (by kernel_rfl) ?_)))
        simp -implicitDefEqProofs [hu, hv, pl]
        refine aw_cond rfl (fun h2 => ?_) (fun h2 => aw_skip ?_)
        · repeat' (first
            | refine aw_seq ?_
            | ((first | refine aw_run [] ?_ | refine aw_ymix [] draws (by decide +kernel) ?_); try simp -implicitDefEqProofs (maxSteps := 1000000))
            | ((first | refine aw_zrun [] [] draws (by decide +kernel) (by decide +kernel) ?_ | refine zl_skip (by simp) rfl ?_); try simp -implicitDefEqProofs (maxSteps := 1000000); repeat first | refine zcurL (by decide +kernel) ?_ | refine zcurH (by decide +kernel) ?_ | refine zcurL' (by decide +kernel) ?_ | refine zcurH' (by decide +kernel) ?_)
            | ((first | refine aw_yrun draws (by kernel_rfl) ?_ | refine awl_skip' [] rfl ?_ | refine yl_skip rfl ?_ | refine aw_skip ?_ | refine aw_exit ?_); try simp -implicitDefEqProofs (maxSteps := 1000000))
            | (refine aw_cond rfl (fun h => ?_) (fun h => ?_) <;> try (with_reducible first | exact ff_tt h | exact tt_ff h))
            | refine aw_block ?_
            | refine aw_ret (ret_of (.inr rfl) (by simp [Try.results13]; rfl) (Fin.of ?_))
            | refine ret_of (.inl rfl) (by simp [Try.results13]; rfl) (Fin.of ?_))
          simp [tupOf] at h2 ⊢
          rintro rfl
          rw [hu] at hv
          obtain rfl := Option.some.inj hv
          simp at h2
        · simp -implicitDefEqProofs
          refine aw_run [] ?_
          simp -implicitDefEqProofs
          refine ⟨n - 1, by omega, i + 1, by omega, ?_, ?_⟩
          · have e : u = v := by simp at h2; exact Prod.ext h2.1 h2.2
            rw [List.take_add_one, List.take_add_one, ht, hu, hv, e]
          · rw [wrap_id (by omega) (by omega)]; simp [pl]
      · have : i = l.length := by simp at h; omega
        simp -implicitDefEqProofs
        repeat' (first
          | refine aw_seq ?_
          | ((first | refine aw_run [] ?_ | refine aw_ymix [] draws (by decide +kernel) ?_); try simp -implicitDefEqProofs (maxSteps := 1000000))
          | ((first | refine aw_zrun [] [] draws (by decide +kernel) (by decide +kernel) ?_ | refine zl_skip (by simp) rfl ?_); try simp -implicitDefEqProofs (maxSteps := 1000000); repeat first | refine zcurL (by decide +kernel) ?_ | refine zcurH (by decide +kernel) ?_ | refine zcurL' (by decide +kernel) ?_ | refine zcurH' (by decide +kernel) ?_)
          | ((first | refine aw_yrun draws (by kernel_rfl) ?_ | refine awl_skip' [] rfl ?_ | refine yl_skip rfl ?_ | refine aw_skip ?_ | refine aw_exit ?_); try simp -implicitDefEqProofs (maxSteps := 1000000))
          | (refine aw_cond rfl (fun h => ?_) (fun h => ?_) <;> try (with_reducible first | exact ff_tt h | exact tt_ff h))
          | refine aw_block ?_
          | refine aw_ret (ret_of (.inr rfl) (by simp [Try.results13]; rfl) (Fin.of ?_))
          | refine ret_of (.inl rfl) (by simp [Try.results13]; rfl) (Fin.of ?_))
        subst this
        simp [tupOf] at ht ⊢
        rw [ht, ← hlen]
        simp
end Go.AL
/-! gridironlaw06.ShapeTells. -/
namespace Go.AL
open Go.Proofs
set_option linter.unusedSimpArgs false
set_option linter.unusedVariables false
mutual
theorem moved_sh (x y : Int) : ∀ t : Tree, t.sh → (movedT x y t).sh
  | .mk k n a b c d w ks, h => by
    rw [Tree.sh, shs_all] at h
    have hm : (moveds x y ks).length ≤ 9223372036854775807 ∧ shs (moveds x y ks) := ⟨by rw [moveds_map, List.length_map]; exact h.1, moveds_sh x y ks h.2⟩
    rw [movedT]
    split
    · split
      · rw [Tree.sh]; exact hm
      · simp [badT, Tree.sh, shs]
    · rw [Tree.sh]; exact hm
theorem moveds_sh (x y : Int) : ∀ l : List Tree, (∀ t ∈ l, t.sh) → shs (moveds x y l)
  | [], _ => trivial
  | t :: ts, h => ⟨moved_sh x y t (h t List.mem_cons_self), moveds_sh x y ts fun u hu => h u (List.mem_cons_of_mem _ hu)⟩
end
theorem zero_sh : zeroT.sh := by simp [zeroT, Tree.sh, shs]
theorem gridP_small (p : Nat → Bool) : ((gridP p 1024).length : Int) < 2 ^ 47 := by have := gridP_len p 1024; omega
theorem reads_small (t : Tree) : ((if rightB t = true then gridP (usesN t) 1024 else []).length : Int) < 2 ^ 47 := by
  by_cases h : rightB t = true
  · rw [if_pos h]; exact gridP_small _
  · rw [if_neg h]; decide
set_option maxHeartbeats 16000000 in
set_option maxRecDepth 100000 in
theorem shapeTells_ok (t : Tree) (bx by_ px py : Int) (h : t.sh) (hb : In64 bx) (hc : In64 by_) : APure Try.prog 3 [t.av, place bx by_, place px py] (vb true) := by
  have hA := alive6_ok
  have hF := fits5_ok t h
  by_cases hf : fitsB t = true
  · rw [hf] at hF
    have hz : tszT t ≤ 1000000000 := by
      unfold fitsB at hf
      simp only [Bool.and_eq_true, decide_eq_true_eq] at hf
      omega
    have hS := sShiftD t bx by_ hb hc h hz
    have hS' := rShift_ok t bx by_ h hz
    have hR := sReadsD t h
    have hR' := rReads_ok t h hz
    have hu : (if rightB t = true then movedT bx by_ t else zeroT).sh := by split <;> first | exact moved_sh _ _ _ h | exact zero_sh
    have hE := rsame5_ok _ hu (if rightB t = true then movedT bx by_ t else zeroT)
    rw [sameB_iff.2 rfl] at hE
    have hG := rsame_ok (if rightB t = true then gridP (usesN t) 1024 else []) (if rightB t = true then gridP (usesN t) 1024 else []) (reads_small t)
    rw [decide_eq_true rfl] at hG
    have hU := sUsesD t px py h
    have hU' := rUses_ok t px py h hz
    have hB := sBadsD t h hz
    have hB' := rBads_ok t h hz
    have hZ := sSizeD t h hz
    have hZ' := rSize_ok t h hz
    generalize (if rightB t = true then movedT bx by_ t else zeroT) = u at *
    generalize (if rightB t = true then gridP (usesN t) 1024 else []) = l at *
    generalize (if rightB t = true then (0 : Int) else 1) = e at *
    generalize (rightB t && usesB px py t) = us at *
    generalize (if rightB t = true then ((cntT 2 t : Nat) : Int) else 0) = bd at *
    generalize (if rightB t = true then ((cntT (-1) t : Nat) : Int) else 0) = sz at *
    obtain ⟨k, n, a, b, c, d, w, ks⟩ := t
    obtain ⟨uk, un, ua, ub, uc, ud, uw, uks⟩ := u
    rw [Tree.av] at hF hS hS' hR hR' hU hU' hB hB' hZ hZ' hE ⊢
    rw [Tree.av] at hS hS'
    refine apure_of Try.func3 Try.ntmps3 rfl ?_
    simp only [List.length_cons, List.length_nil, List.cons_append, List.nil_append, List.replicate]
    repeat' (first
      | refine aw_seq ?_
      | ((first | refine aw_run [8, 10] ?_ | refine aw_ymix [8, 10] draws (by decide +kernel) ?_); try simp -implicitDefEqProofs (maxSteps := 1000000))
      | ((first | refine aw_zrun [8, 10] [] draws (by decide +kernel) (by decide +kernel) ?_ | refine zl_skip (by simp) rfl ?_ | refine zl_pure_guard (by simp) rfl rfl rfl (by first | assumption | kernel_rfl) rfl (fun hc => by first | exact hF | exact hA | exact hS | exact hS' | exact hR | exact hR' | exact hE | exact hG | exact hU | exact hU' | exact hB | exact hB' | exact hZ | exact hZ') (by simp) (by simp) (by simp) ?_ | refine zl_pure (by simp) rfl rfl rfl (by first | assumption | kernel_rfl) rfl (by first | exact hF | exact hA | exact hS | exact hS' | exact hR | exact hR' | exact hE | exact hG | exact hU | exact hU' | exact hB | exact hB' | exact hZ | exact hZ') (by simp) (by simp) ?_); try simp -implicitDefEqProofs (maxSteps := 1000000); repeat first | refine zcurL (by decide +kernel) ?_ | refine zcurH (by decide +kernel) ?_ | refine zcurL' (by decide +kernel) ?_ | refine zcurH' (by decide +kernel) ?_)
      | ((first | refine aw_yrun draws (by kernel_rfl) ?_ | refine awl_skip' [8, 10] rfl ?_ | refine yl_skip rfl ?_ | refine awl_pure_guard [8, 10] rfl rfl rfl (by first | assumption | kernel_rfl) rfl (fun hc => by first | exact hF | exact hA | exact hS | exact hS' | exact hR | exact hR' | exact hE | exact hG | exact hU | exact hU' | exact hB | exact hB' | exact hZ | exact hZ') (by simp) (by simp) (by simp) ?_ | refine yl_pureG rfl rfl rfl (by first | assumption | kernel_rfl) rfl (fun hc => by first | exact hF | exact hA | exact hS | exact hS' | exact hR | exact hR' | exact hE | exact hG | exact hU | exact hU' | exact hB | exact hB' | exact hZ | exact hZ') (by simp) (by simp) (by simp) ?_ | refine awl_pure' [8, 10] rfl rfl rfl (by first | assumption | kernel_rfl) rfl (by first | exact hF | exact hA | exact hS | exact hS' | exact hR | exact hR' | exact hE | exact hG | exact hU | exact hU' | exact hB | exact hB' | exact hZ | exact hZ') (by simp) (by simp) ?_ | refine yl_pure rfl rfl rfl (by first | assumption | kernel_rfl) rfl (by first | exact hF | exact hA | exact hS | exact hS' | exact hR | exact hR' | exact hE | exact hG | exact hU | exact hU' | exact hB | exact hB' | exact hZ | exact hZ') (by simp) (by simp) ?_ | refine aw_skip ?_ | refine aw_exit ?_); try simp -implicitDefEqProofs (maxSteps := 1000000))
      | (refine aw_cond rfl (fun h => ?_) (fun h => ?_) <;> try (with_reducible first | exact ff_tt h | exact tt_ff h))
      | refine aw_block ?_
      | refine aw_ret (ret_of (.inr rfl) (by simp [Try.results3]; rfl) (Fin.of ?_))
      | refine ret_of (.inl rfl) (by simp [Try.results3]; rfl) (Fin.of ?_))
    all_goals first | (simp [tupOf]; done) | trace_state
  · rw [eq_false_of_ne_true hf] at hF
    obtain ⟨k, n, a, b, c, d, w, ks⟩ := t
    rw [Tree.av] at hF ⊢
    refine apure_of Try.func3 Try.ntmps3 rfl ?_
    simp only [List.length_cons, List.length_nil, List.cons_append, List.nil_append, List.replicate]
    repeat' (first
      | refine aw_seq ?_
      | ((first | refine aw_run [8, 10] ?_ | refine aw_ymix [8, 10] draws (by decide +kernel) ?_); try simp -implicitDefEqProofs (maxSteps := 1000000))
      | ((first | refine aw_zrun [8, 10] [] draws (by decide +kernel) (by decide +kernel) ?_ | refine zl_skip (by simp) rfl ?_ | refine zl_pure_guard (by simp) rfl rfl rfl (by first | assumption | kernel_rfl) rfl (fun hc => by first | exact hF | exact hA) (by simp) (by simp) (by simp) ?_ | refine zl_pure (by simp) rfl rfl rfl (by first | assumption | kernel_rfl) rfl (by first | exact hF | exact hA) (by simp) (by simp) ?_); try simp -implicitDefEqProofs (maxSteps := 1000000); repeat first | refine zcurL (by decide +kernel) ?_ | refine zcurH (by decide +kernel) ?_ | refine zcurL' (by decide +kernel) ?_ | refine zcurH' (by decide +kernel) ?_)
      | ((first | refine aw_yrun draws (by kernel_rfl) ?_ | refine awl_skip' [8, 10] rfl ?_ | refine yl_skip rfl ?_ | refine awl_pure_guard [8, 10] rfl rfl rfl (by first | assumption | kernel_rfl) rfl (fun hc => by first | exact hF | exact hA) (by simp) (by simp) (by simp) ?_ | refine yl_pureG rfl rfl rfl (by first | assumption | kernel_rfl) rfl (fun hc => by first | exact hF | exact hA) (by simp) (by simp) (by simp) ?_ | refine awl_pure' [8, 10] rfl rfl rfl (by first | assumption | kernel_rfl) rfl (by first | exact hF | exact hA) (by simp) (by simp) ?_ | refine yl_pure rfl rfl rfl (by first | assumption | kernel_rfl) rfl (by first | exact hF | exact hA) (by simp) (by simp) ?_ | refine aw_skip ?_ | refine aw_exit ?_); try simp -implicitDefEqProofs (maxSteps := 1000000))
      | (refine aw_cond rfl (fun h => ?_) (fun h => ?_) <;> try (with_reducible first | exact ff_tt h | exact tt_ff h))
      | refine aw_block ?_
      | refine aw_ret (ret_of (.inr rfl) (by simp [Try.results3]; rfl) (Fin.of ?_))
      | refine ret_of (.inl rfl) (by simp [Try.results3]; rfl) (Fin.of ?_))
    all_goals first | (simp [tupOf]; done) | trace_state
end Go.AL
/-! gridironlaw06.ShapeTells, for all that a machine hands in. -/
namespace Go.AL
open Go.Proofs
set_option linter.unusedVariables false
theorem in_sh : ∀ t : Tree, t.In → t.sh := by
  refine Tree.byKids fun k n a b c d w ks ih => ?_
  intro h
  rw [Tree.In, ins_all] at h
  rw [Tree.sh, shs_all]
  exact ⟨h.2.2.2.2.2.2.2.1, fun t ht => ih t ht (h.2.2.2.2.2.2.2.2 t ht)⟩
theorem ShapeTells_all (x : AV) (b0 b1 c0 c1 : Int) (hx : HasT Try.prog 29 x) (h0 : (Lit.int .i64 b0).wf = true) (h1 : (Lit.int .i64 b1).wf = true) (h2 : (Lit.int .i64 c0).wf = true) (h3 : (Lit.int .i64 c1).wf = true) :
    APure Try.prog 3 [x, place b0 b1, place c0 c1] (vb true) := by
  obtain ⟨n, hx⟩ := hx
  obtain ⟨t, rfl, ht⟩ := tree_has n x hx
  exact shapeTells_ok t b0 b1 c0 c1 (in_sh t ht) (.of_wf h0) (.of_wf h1)
end Go.AL
