/- Parts of the proof of ShapeBack: the logic, contracts, plain laws. -/
import Derived.Test.YtadahjmamgidnaaZShapeBack28
import Derived.Test.YtadahjmamgidnaaZShapeBack25
/-! Contracts: gridironlaw06.alive. -/
namespace Go.AL
open Go.Proofs
set_option linter.unusedSimpArgs false
set_option linter.unusedVariables false
def aSum : ByteArray := ⟨#[83, 85, 77]⟩
/-- SUM(B2:C2,B2)+A1*#REF -/
def aText : ByteArray := ⟨#[83, 85, 77, 40, 66, 50, 58, 67, 50, 44, 66, 50, 41, 43, 65, 49, 42, 35, 82, 69, 70]⟩
def aTree : Tree := .mk 4 0 0 0 0 0 ⟨#[43]⟩ [.mk 5 0 0 0 0 0 ⟨#[83, 85, 77]⟩ [.mk 6 0 1 1 2 1 ⟨#[]⟩ [], .mk 1 0 1 1 1 1 ⟨#[]⟩ []], .mk 4 0 0 0 0 0 ⟨#[42]⟩ [.mk 1 0 0 0 0 0 ⟨#[]⟩ [], .mk 2 0 0 0 0 0 ⟨#[]⟩ []]]
def uTree : Tree := .mk 4 0 0 0 0 0 ⟨#[43]⟩ [.mk 5 0 0 0 0 0 ⟨#[83, 85, 77]⟩ [.mk 6 0 1 0 2 0 ⟨#[]⟩ [], .mk 1 0 1 0 1 0 ⟨#[]⟩ []], .mk 4 0 0 0 0 0 ⟨#[42]⟩ [.mk 2 0 0 0 0 0 ⟨#[]⟩ [], .mk 2 0 0 0 0 0 ⟨#[]⟩ []]]
set_option maxRecDepth 1000000 in
theorem aparse : parse5 aText = (aTree, 0, 0) := by kernel_rfl
set_option maxRecDepth 1000000 in
theorem aright : rightB aTree = true := by kernel_rfl
set_option maxRecDepth 1000000 in
theorem amoved : movedT 0 (-1) aTree = uTree := by kernel_rfl
set_option maxRecDepth 1000000 in
theorem uright : rightB uTree = true := by kernel_rfl
set_option maxRecDepth 1000000 in
theorem areads : gridP (usesN aTree) 1024 = [(0, 0), (1, 1), (2, 1)] := by kernel_rfl
set_option maxRecDepth 1000000 in
theorem utext : textT uTree = ⟨#[83, 85, 77, 40, 66, 49, 58, 67, 49, 44, 66, 49, 41, 43, 35, 82, 69, 70, 42, 35, 82, 69, 70]⟩ := by kernel_rfl
theorem acounts : cntT 2 uTree = 2 ∧ cntT (-1) uTree = 7 ∧ usesB 1 1 aTree = true := by decide +kernel
theorem sRightD (t : Tree) (h : t.sh) : APure Try.prog 41 [t.av] (vb (rightB t)) := by rw [← rightK_B]; exact sRight_ok t h
theorem sReadsD (t : Tree) (h : t.sh) : APure Try.prog 14 [t.av] (.vsl ((if rightB t = true then gridP (usesN t) 1024 else []).map pl)) := by rw [← reads_eq]; exact shReads_ok t _ (sRightD t h) h
theorem sUsesD (t : Tree) (x y : Int) (h : t.sh) : APure Try.prog 16 [t.av, place x y] (vb (rightB t && usesB x y t)) := by rw [← uses_eq]; exact shUses_ok t _ x y (sRightD t h) h
theorem sBadsD (t : Tree) (h : t.sh) (hs : tszT t ≤ 1000000000) : APure Try.prog 18 [t.av] (vi (if rightB t = true then (cntT 2 t : Nat) else 0)) := by
  have := shBads_ok t _ (sRightD t h) h hs
  rw [bads_eq] at this; exact this
theorem sSizeD (t : Tree) (h : t.sh) (hs : tszT t ≤ 1000000000) : APure Try.prog 20 [t.av] (vi (if rightB t = true then (cntT (-1) t : Nat) else 0)) := by
  have := shSize_ok t _ (sRightD t h) h hs
  rw [size_eq] at this; exact this
theorem sShiftD (t : Tree) (x y : Int) (hx : In64 x) (hy : In64 y) (h : t.sh) (hs : tszT t ≤ 1000000000) : APure Try.prog 10 [t.av, place x y] (.tup [(if rightB t = true then movedT x y t else zeroT).av, vi (if rightB t = true then 0 else 1)]) := sShift_ok t x y hx hy h hs _ (sRightD t h)
theorem ash : aTree.sh := by simp [aTree, Tree.sh, shs]
theorem ush : uTree.sh := by simp [uTree, Tree.sh, shs]
theorem uok : OkT uTree := by
  simp only [uTree, OkT, OkTs, In64]
  refine ⟨by decide, by decide, by decide, by decide, ?_⟩
  repeat' constructor
  all_goals decide
set_option maxHeartbeats 8000000 in
set_option maxRecDepth 100000 in
theorem alive6_ok : APure Try.prog 9 [] (vb true) := by
  have hP := rparse5_ok aText (by decide)
  rw [aparse] at hP
  have hR := sReadsD aTree ash
  rw [if_pos aright, areads] at hR
  have hS := sShiftD aTree 0 (-1) ⟨by decide, by decide⟩ ⟨by decide, by decide⟩ ash (by decide)
  rw [if_pos aright, if_pos aright, amoved] at hS
  have hT := rPrint_ok uTree ush (by decide) fun _ => uok
  rw [printT, if_pos uright, utext] at hT
  have hB := sBadsD uTree ush (by decide)
  rw [if_pos uright, acounts.1] at hB
  have hZ := sSizeD uTree ush (by decide)
  rw [if_pos uright, acounts.2.1] at hZ
  have hU := sUsesD aTree 1 1 ash
  rw [aright, acounts.2.2] at hU
  obtain ⟨ks0, hk0⟩ : ∃ ks0, aTree = .mk 4 0 0 0 0 0 ⟨#[43]⟩ ks0 := ⟨_, rfl⟩
  obtain ⟨ks1, hk1⟩ : ∃ ks1, uTree = .mk 4 0 0 0 0 0 ⟨#[43]⟩ ks1 := ⟨_, rfl⟩
  rw [hk0] at hP hR hS hU
  rw [hk1] at hS hT hB hZ
  rw [Tree.av] at hP hR hS hU hT hB hZ
  rw [Tree.av] at hS
  simp only [List.map_cons, List.map_nil, pl] at hR
  simp only [aText] at hP
  refine apure_of Try.func9 Try.ntmps9 rfl ?_
  simp only [List.length_cons, List.length_nil, List.cons_append, List.nil_append, List.replicate]
  repeat' (first
    | refine aw_seq ?_
    | ((first | refine aw_run [1, 5] ?_ | refine aw_ymix [1, 5] draws (by decide +kernel) ?_); try simp -implicitDefEqProofs (maxSteps := 1000000))
    | ((first | refine aw_zrun [1, 5] [] draws (by decide +kernel) (by decide +kernel) ?_ | refine zl_skip (by simp) rfl ?_ | refine zl_pure_guard (by simp) rfl rfl rfl (by first | assumption | kernel_rfl) rfl (fun hc => by first | exact hP | exact hR | exact hS | exact hT | exact hB | exact hZ | exact hU) (by simp) (by simp) (by simp) ?_ | refine zl_pure (by simp) rfl rfl rfl (by first | assumption | kernel_rfl) rfl (by first | exact hP | exact hR | exact hS | exact hT | exact hB | exact hZ | exact hU) (by simp) (by simp) ?_); try simp -implicitDefEqProofs (maxSteps := 1000000); repeat first | refine zcurL (by decide +kernel) ?_ | refine zcurH (by decide +kernel) ?_ | refine zcurL' (by decide +kernel) ?_ | refine zcurH' (by decide +kernel) ?_)
    | ((first | refine aw_yrun draws (by kernel_rfl) ?_ | refine awl_skip' [1, 5] rfl ?_ | refine yl_skip rfl ?_ | refine awl_pure_guard [1, 5] rfl rfl rfl (by first | assumption | kernel_rfl) rfl (fun hc => by first | exact hP | exact hR | exact hS | exact hT | exact hB | exact hZ | exact hU) (by simp) (by simp) (by simp) ?_ | refine yl_pureG rfl rfl rfl (by first | assumption | kernel_rfl) rfl (fun hc => by first | exact hP | exact hR | exact hS | exact hT | exact hB | exact hZ | exact hU) (by simp) (by simp) (by simp) ?_ | refine awl_pure' [1, 5] rfl rfl rfl (by first | assumption | kernel_rfl) rfl (by first | exact hP | exact hR | exact hS | exact hT | exact hB | exact hZ | exact hU) (by simp) (by simp) ?_ | refine yl_pure rfl rfl rfl (by first | assumption | kernel_rfl) rfl (by first | exact hP | exact hR | exact hS | exact hT | exact hB | exact hZ | exact hU) (by simp) (by simp) ?_ | refine aw_skip ?_ | refine aw_exit ?_); try simp -implicitDefEqProofs (maxSteps := 1000000))
    | (refine aw_cond rfl (fun h => ?_) (fun h => ?_) <;> try (with_reducible first | exact ff_tt h | exact tt_ff h))
    | refine aw_block ?_
    | refine aw_ret (ret_of (.inr rfl) (by simp [Try.results9]; rfl) (Fin.of ?_))
    | refine ret_of (.inl rfl) (by simp [Try.results9]; rfl) (Fin.of ?_))
  simp [tupOf]
end Go.AL
/-! Contracts: gridironref02.Same. -/
namespace Go.AL
open Go.Proofs
set_option linter.unusedSimpArgs false
set_option linter.unusedVariables false
set_option maxRecDepth 100000 in
theorem rsame_ok (l m : List (Int × Int)) (hl : (l.length : Int) < 2 ^ 47) : APure Try.prog 13 [.vsl (l.map pl), .vsl (m.map pl)] (vb (decide (l = m))) := by
  refine apure_of Try.func13 Try.ntmps13 rfl ?_
  simp only [List.length_cons, List.length_nil, List.cons_append, List.nil_append, List.replicate]
  refine aw_seq (aw_run [] ?_)
  simp -implicitDefEqProofs
  refine aw_seq (aw_seq (aw_run [] ?_))
  simp -implicitDefEqProofs
  refine aw_cond rfl (fun h => ?_) (fun h => aw_skip ?_)
  · repeat' (first
      | refine aw_seq ?_
      | ((first | refine aw_run [] ?_ | refine aw_ymix [] draws (by decide +kernel) ?_); try simp -implicitDefEqProofs (maxSteps := 1000000))
      | ((first | refine aw_zrun [] [] draws (by decide +kernel) (by decide +kernel) ?_ | refine zl_skip (by simp) rfl ?_); try simp -implicitDefEqProofs (maxSteps := 1000000); repeat first | refine zcurL (by decide +kernel) ?_ | refine zcurH (by decide +kernel) ?_ | refine zcurL' (by decide +kernel) ?_ | refine zcurH' (by decide +kernel) ?_)
      | ((first | refine aw_yrun draws (by kernel_rfl) ?_ | refine awl_skip' [] rfl ?_ | refine yl_skip rfl ?_ | refine aw_skip ?_ | refine aw_exit ?_); try simp -implicitDefEqProofs (maxSteps := 1000000))
      | (refine aw_cond rfl (fun h => ?_) (fun h => ?_) <;> try (with_reducible first | exact ff_tt h | exact tt_ff h))
      | refine aw_block ?_
      | refine aw_ret (ret_of (.inr rfl) (by simp [Try.results13]; rfl) (Fin.of ?_))
      | refine ret_of (.inl rfl) (by simp [Try.results13]; rfl) (Fin.of ?_))
    simp [tupOf] at h ⊢
    rintro rfl; exact h rfl
  · have hlen : m.length = l.length := by simp at h; omega
    simp -implicitDefEqProofs
    refine aw_seq (aw_seq (aw_run [] ?_))
    simp -implicitDefEqProofs
    refine aw_block (aw_loopK [0, 1, 4, 5] (fun n fr σ => σ = σ0 ∧ ∃ i : Nat, i + n = l.length ∧ l.take i = m.take i ∧ fr = frm 26 [(0, .vsl (l.map pl)), (1, .vsl (m.map pl)), (4, vb false), (5, vi i)]) l.length ?_ ?_)
    · simp
    · rintro n fr σ ⟨rfl, i, hi, ht, rfl⟩
      simp
      refine aw_seq (aw_seq (aw_run [] ?_))
      simp -implicitDefEqProofs
      refine aw_cond rfl (fun h => aw_skip ?_) (fun h => aw_exit ?_)
      · have hlt : i < l.length := by simp at h; omega
        obtain ⟨u, hu⟩ : ∃ u, l[i]? = some u := ⟨l[i], by simp [hlt]⟩
        obtain ⟨v, hv⟩ : ∃ u, m[i]? = some u := ⟨m[i], by simp⟩
        simp -implicitDefEqProofs
        refine aw_seq (aw_block (aw_seq (aw_yrun draws (by kernel_rfl) ?_)))
        simp -implicitDefEqProofs [hu, hv, pl]
        refine aw_cond rfl (fun h2 => ?_) (fun h2 => aw_skip ?_)
        · repeat' (first
            | refine aw_seq ?_
            | ((first | refine aw_run [] ?_ | refine aw_ymix [] draws (by decide +kernel) ?_); try simp -implicitDefEqProofs (maxSteps := 1000000))
            | ((first | refine aw_zrun [] [] draws (by decide +kernel) (by decide +kernel) ?_ | refine zl_skip (by simp) rfl ?_); try simp -implicitDefEqProofs (maxSteps := 1000000); repeat first | refine zcurL (by decide +kernel) ?_ | refine zcurH (by decide +kernel) ?_ | refine zcurL' (by decide +kernel) ?_ | refine zcurH' (by decide +kernel) ?_)
            | ((first | refine aw_yrun draws (by kernel_rfl) ?_ | refine awl_skip' [] rfl ?_ | refine yl_skip rfl ?_ | refine aw_skip ?_ | refine aw_exit ?_); try simp -implicitDefEqProofs (maxSteps := 1000000))
            | (refine aw_cond rfl (fun h => ?_) (fun h => ?_) <;> try (with_reducible first | exact ff_tt h | exact tt_ff h))
            | refine aw_block ?_
            | refine aw_ret (ret_of (.inr rfl) (by simp [Try.results13]; rfl) (Fin.of ?_))
            | refine ret_of (.inl rfl) (by simp [Try.results13]; rfl) (Fin.of ?_))
          simp [tupOf] at h2 ⊢
          rintro rfl
          rw [hu] at hv
          obtain rfl := Option.some.inj hv
          simp at h2
        · simp -implicitDefEqProofs
          refine aw_run [] ?_
          simp -implicitDefEqProofs
          refine ⟨n - 1, by omega, i + 1, by omega, ?_, ?_⟩
          · have e : u = v := by simp at h2; exact Prod.ext h2.1 h2.2
            rw [List.take_add_one, List.take_add_one, ht, hu, hv, e]
          · rw [wrap_id (by omega) (by omega)]; simp [pl]
      · have : i = l.length := by simp at h; omega
        simp -implicitDefEqProofs
        repeat' (first
          | refine aw_seq ?_
          | ((first | refine aw_run [] ?_ | refine aw_ymix [] draws (by decide +kernel) ?_); try simp -implicitDefEqProofs (maxSteps := 1000000))
          | ((first | refine aw_zrun [] [] draws (by decide +kernel) (by decide +kernel) ?_ | refine zl_skip (by simp) rfl ?_); try simp -implicitDefEqProofs (maxSteps := 1000000); repeat first | refine zcurL (by decide +kernel) ?_ | refine zcurH (by decide +kernel) ?_ | refine zcurL' (by decide +kernel) ?_ | refine zcurH' (by decide +kernel) ?_)
          | ((first | refine aw_yrun draws (by kernel_rfl) ?_ | refine awl_skip' [] rfl ?_ | refine yl_skip rfl ?_ | refine aw_skip ?_ | refine aw_exit ?_); try simp -implicitDefEqProofs (maxSteps := 1000000))
          | (refine aw_cond rfl (fun h => ?_) (fun h => ?_) <;> try (with_reducible first | exact ff_tt h | exact tt_ff h))
          | refine aw_block ?_
          | refine aw_ret (ret_of (.inr rfl) (by simp [Try.results13]; rfl) (Fin.of ?_))
          | refine ret_of (.inl rfl) (by simp [Try.results13]; rfl) (Fin.of ?_))
        subst this
        simp [tupOf] at ht ⊢
        rw [ht, ← hlen]
        simp
end Go.AL
/-! gridironlaw06.ShapeTells. -/
namespace Go.AL
open Go.Proofs
set_option linter.unusedSimpArgs false
set_option linter.unusedVariables false
mutual
theorem moved_sh (x y : Int) : ∀ t : Tree, t.sh → (movedT x y t).sh
  | .mk k n a b c d w ks, h => by
    rw [Tree.sh, shs_all] at h
    have hm : (moveds x y ks).length ≤ 9223372036854775807 ∧ shs (moveds x y ks) := ⟨by rw [moveds_map, List.length_map]; exact h.1, moveds_sh x y ks h.2⟩
    rw [movedT]
    split
    · split
      · rw [Tree.sh]; exact hm
      · simp [badT, Tree.sh, shs]
    · rw [Tree.sh]; exact hm
theorem moveds_sh (x y : Int) : ∀ l : List Tree, (∀ t ∈ l, t.sh) → shs (moveds x y l)
  | [], _ => trivial
  | t :: ts, h => ⟨moved_sh x y t (h t List.mem_cons_self), moveds_sh x y ts fun u hu => h u (List.mem_cons_of_mem _ hu)⟩
end
theorem zero_sh : zeroT.sh := by simp [zeroT, Tree.sh, shs]
theorem gridP_small (p : Nat → Bool) : ((gridP p 1024).length : Int) < 2 ^ 47 := by have := gridP_len p 1024; omega
theorem reads_small (t : Tree) : ((if rightB t = true then gridP (usesN t) 1024 else []).length : Int) < 2 ^ 47 := by
  by_cases h : rightB t = true
  · rw [if_pos h]; exact gridP_small _
  · rw [if_neg h]; decide
set_option maxHeartbeats 16000000 in
set_option maxRecDepth 100000 in
theorem shapeTells_ok (t : Tree) (bx by_ px py : Int) (h : t.sh) (hb : In64 bx) (hc : In64 by_) : APure Try.prog 3 [t.av, place bx by_, place px py] (vb true) := by
  have hA := alive6_ok
  have hF := fits5_ok t h
  by_cases hf : fitsB t = true
  · rw [hf] at hF
    have hz : tszT t ≤ 1000000000 := by
      unfold fitsB at hf
      simp only [Bool.and_eq_true, decide_eq_true_eq] at hf
      omega
    have hS := sShiftD t bx by_ hb hc h hz
    have hS' := rShift_ok t bx by_ h hz
    have hR := sReadsD t h
    have hR' := rReads_ok t h hz
    have hu : (if rightB t = true then movedT bx by_ t else zeroT).sh := by split <;> first | exact moved_sh _ _ _ h | exact zero_sh
    have hE := rsame5_ok _ hu (if rightB t = true then movedT bx by_ t else zeroT)
    rw [sameB_iff.2 rfl] at hE
    have hG := rsame_ok (if rightB t = true then gridP (usesN t) 1024 else []) (if rightB t = true then gridP (usesN t) 1024 else []) (reads_small t)
    rw [decide_eq_true rfl] at hG
    have hU := sUsesD t px py h
    have hU' := rUses_ok t px py h hz
    have hB := sBadsD t h hz
    have hB' := rBads_ok t h hz
    have hZ := sSizeD t h hz
    have hZ' := rSize_ok t h hz
    generalize (if rightB t = true then movedT bx by_ t else zeroT) = u at *
    generalize (if rightB t = true then gridP (usesN t) 1024 else []) = l at *
    generalize (if rightB t = true then (0 : Int) else 1) = e at *
    generalize (rightB t && usesB px py t) = us at *
    generalize (if rightB t = true then ((cntT 2 t : Nat) : Int) else 0) = bd at *
    generalize (if rightB t = true then ((cntT (-1) t : Nat) : Int) else 0) = sz at *
    obtain ⟨k, n, a, b, c, d, w, ks⟩ := t
    obtain ⟨uk, un, ua, ub, uc, ud, uw, uks⟩ := u
    rw [Tree.av] at hF hS hS' hR hR' hU hU' hB hB' hZ hZ' hE ⊢
    rw [Tree.av] at hS hS'
    refine apure_of Try.func3 Try.ntmps3 rfl ?_
    simp only [List.length_cons, List.length_nil, List.cons_append, List.nil_append, List.replicate]
    repeat' (first
      | refine aw_seq ?_
      | ((first | refine aw_run [8, 10] ?_ | refine aw_ymix [8, 10] draws (by decide +kernel) ?_); try simp -implicitDefEqProofs (maxSteps := 1000000))
      | ((first | refine aw_zrun [8, 10] [] draws (by decide +kernel) (by decide +kernel) ?_ | refine zl_skip (by simp) rfl ?_ | refine zl_pure_guard (by simp) rfl rfl rfl (by first | assumption | kernel_rfl) rfl (fun hc => by first | exact hF | exact hA | exact hS | exact hS' | exact hR | exact hR' | exact hE | exact hG | exact hU | exact hU' | exact hB | exact hB' | exact hZ | exact hZ') (by simp) (by simp) (by simp) ?_ | refine zl_pure (by simp) rfl rfl rfl (by first | assumption | kernel_rfl) rfl (by first | exact hF | exact hA | exact hS | exact hS' | exact hR | exact hR' | exact hE | exact hG | exact hU | exact hU' | exact hB | exact hB' | exact hZ | exact hZ') (by simp) (by simp) ?_); try simp -implicitDefEqProofs (maxSteps := 1000000); repeat first | refine zcurL (by decide +kernel) ?_ | refine zcurH (by decide +kernel) ?_ | refine zcurL' (by decide +kernel) ?_ | refine zcurH' (by decide +kernel) ?_)
      | ((first | refine aw_yrun draws (by kernel_rfl) ?_ | refine awl_skip' [8, 10] rfl ?_ | refine yl_skip rfl ?_ | refine awl_pure_guard [8, 10] rfl rfl rfl (by first | assumption | kernel_rfl) rfl (fun hc => by first | exact hF | exact hA | exact hS | exact hS' | exact hR | exact hR' | exact hE | exact hG | exact hU | exact hU' | exact hB | exact hB' | exact hZ | exact hZ') (by simp) (by simp) (by simp) ?_ | refine yl_pureG rfl rfl rfl (by first | assumption | kernel_rfl) rfl (fun hc => by first | exact hF | exact hA | exact hS | exact hS' | exact hR | exact hR' | exact hE | exact hG | exact hU | exact hU' | exact hB | exact hB' | exact hZ | exact hZ') (by simp) (by simp) (by simp) ?_ | refine awl_pure' [8, 10] rfl rfl rfl (by first | assumption | kernel_rfl) rfl (by first | exact hF | exact hA | exact hS | exact hS' | exact hR | exact hR' | exact hE | exact hG | exact hU | exact hU' | exact hB | exact hB' | exact hZ | exact hZ') (by simp) (by simp) ?_ | refine yl_pure rfl rfl rfl (by first | assumption | kernel_rfl) rfl (by first | exact hF | exact hA | exact hS | exact hS' | exact hR | exact hR' | exact hE | exact hG | exact hU | exact hU' | exact hB | exact hB' | exact hZ | exact hZ') (by simp) (by simp) ?_ | refine aw_skip ?_ | refine aw_exit ?_); try simp -implicitDefEqProofs (maxSteps := 1000000))
      | (refine aw_cond rfl (fun h => ?_) (fun h => ?_) <;> try (with_reducible first | exact ff_tt h | exact tt_ff h))
      | refine aw_block ?_
      | refine aw_ret (ret_of (.inr rfl) (by simp [Try.results3]; rfl) (Fin.of ?_))
      | refine ret_of (.inl rfl) (by simp [Try.results3]; rfl) (Fin.of ?_))
    all_goals first | (simp [tupOf]; done) | trace_state
  · rw [eq_false_of_ne_true hf] at hF
    obtain ⟨k, n, a, b, c, d, w, ks⟩ := t
    rw [Tree.av] at hF ⊢
    refine apure_of Try.func3 Try.ntmps3 rfl ?_
    simp only [List.length_cons, List.length_nil, List.cons_append, List.nil_append, List.replicate]
    repeat' (first
      | refine aw_seq ?_
      | ((first | refine aw_run [8, 10] ?_ | refine aw_ymix [8, 10] draws (by decide +kernel) ?_); try simp -implicitDefEqProofs (maxSteps := 1000000))
      | ((first | refine aw_zrun [8, 10] [] draws (by decide +kernel) (by decide +kernel) ?_ | refine zl_skip (by simp) rfl ?_ | refine zl_pure_guard (by simp) rfl rfl rfl (by first | assumption | kernel_rfl) rfl (fun hc => by first | exact hF | exact hA) (by simp) (by simp) (by simp) ?_ | refine zl_pure (by simp) rfl rfl rfl (by first | assumption | kernel_rfl) rfl (by first | exact hF | exact hA) (by simp) (by simp) ?_); try simp -implicitDefEqProofs (maxSteps := 1000000); repeat first | refine zcurL (by decide +kernel) ?_ | refine zcurH (by decide +kernel) ?_ | refine zcurL' (by decide +kernel) ?_ | refine zcurH' (by decide +kernel) ?_)
      | ((first | refine aw_yrun draws (by kernel_rfl) ?_ | refine awl_skip' [8, 10] rfl ?_ | refine yl_skip rfl ?_ | refine awl_pure_guard [8, 10] rfl rfl rfl (by first | assumption | kernel_rfl) rfl (fun hc => by first | exact hF | exact hA) (by simp) (by simp) (by simp) ?_ | refine yl_pureG rfl rfl rfl (by first | assumption | kernel_rfl) rfl (fun hc => by first | exact hF | exact hA) (by simp) (by simp) (by simp) ?_ | refine awl_pure' [8, 10] rfl rfl rfl (by first | assumption | kernel_rfl) rfl (by first | exact hF | exact hA) (by simp) (by simp) ?_ | refine yl_pure rfl rfl rfl (by first | assumption | kernel_rfl) rfl (by first | exact hF | exact hA) (by simp) (by simp) ?_ | refine aw_skip ?_ | refine aw_exit ?_); try simp -implicitDefEqProofs (maxSteps := 1000000))
      | (refine aw_cond rfl (fun h => ?_) (fun h => ?_) <;> try (with_reducible first | exact ff_tt h | exact tt_ff h))
      | refine aw_block ?_
      | refine aw_ret (ret_of (.inr rfl) (by simp [Try.results3]; rfl) (Fin.of ?_))
      | refine ret_of (.inl rfl) (by simp [Try.results3]; rfl) (Fin.of ?_))
    all_goals first | (simp [tupOf]; done) | trace_state
end Go.AL
/-! gridironlaw06.ShapeTells, for all that a machine hands in. -/
namespace Go.AL
open Go.Proofs
set_option linter.unusedVariables false
theorem in_sh : ∀ t : Tree, t.In → t.sh := by
  refine Tree.byKids fun k n a b c d w ks ih => ?_
  intro h
  rw [Tree.In, ins_all] at h
  rw [Tree.sh, shs_all]
  exact ⟨h.2.2.2.2.2.2.2.1, fun t ht => ih t ht (h.2.2.2.2.2.2.2.2 t ht)⟩
theorem ShapeTells_all (x : AV) (b0 b1 c0 c1 : Int) (hx : HasT Try.prog 29 x) (h0 : (Lit.int .i64 b0).wf = true) (h1 : (Lit.int .i64 b1).wf = true) (h2 : (Lit.int .i64 c0).wf = true) (h3 : (Lit.int .i64 c1).wf = true) :
    APure Try.prog 3 [x, place b0 b1, place c0 c1] (vb true) := by
  obtain ⟨n, hx⟩ := hx
  obtain ⟨t, rfl, ht⟩ := tree_has n x hx
  exact shapeTells_ok t b0 b1 c0 c1 (in_sh t ht) (.of_wf h0) (.of_wf h1)
end Go.AL
/-! A tree that may be, moved. -/
namespace Go.AL
open Go.Proofs
set_option linter.unusedSimpArgs false
set_option linter.unusedVariables false
/-- All that it reads stays a place. -/
def okM (x y : Int) : Tree → Bool
  | .mk k _ a b c d _ ks => if k = 1 ∨ k = 6 then moveQ a b x y && moveQ c d x y else okMs x y ks
where
  okMs (x y : Int) : List Tree → Bool
  | [] => true
  | t :: ts => okM x y t && okMs x y ts
theorem okMs_all (x y : Int) : ∀ l, okM.okMs x y l = l.all (okM x y)
  | [] => rfl
  | t :: ts => by rw [okM.okMs, okMs_all x y ts]; rfl
theorem moved_read {x y k n a b c d : Int} {w : ByteArray} {ks : List Tree} (hk : k = 1 ∨ k = 6) : movedT x y (.mk k n a b c d w ks) = if moveQ a b x y = true ∧ moveQ c d x y = true then .mk k n (a + x) (b + y) (c + x) (d + y) w (moveds x y ks) else badT := by rw [movedT, if_pos hk]
theorem moved_else {x y k n a b c d : Int} {w : ByteArray} {ks : List Tree} (hk : ¬ (k = 1 ∨ k = 6)) : movedT x y (.mk k n a b c d w ks) = .mk k n a b c d w (moveds x y ks) := by rw [movedT, if_neg hk]
theorem move_iff {a b x y : Int} : moveQ a b x y = true ↔ rightP a b = true ∧ rightP (a + x) (b + y) = true := by simp [moveQ]
theorem bad_may : mayB badT = true := by decide +kernel
theorem kind_moved (x y : Int) (t : Tree) : (movedT x y t).kind = t.kind ∨ (movedT x y t).kind = 2 := by
  obtain ⟨k, n, a, b, c, d, w, ks⟩ := t
  by_cases hk : k = 1 ∨ k = 6
  · rw [moved_read hk]
    split
    · exact .inl rfl
    · exact .inr rfl
  · rw [moved_else hk]; exact .inl rfl
theorem fits_moved (x y k n a b c d : Int) (w : ByteArray) (ks ks' : List Tree) (u : Tree) (h : fitsK (.mk k n a b c d w ks) u = true) : fitsK (.mk k n a b c d w ks') (movedT x y u) = true := by
  have hk := kind_moved x y u
  rw [fitsK] at h ⊢
  split
  · rename_i h1
    rw [if_pos h1] at h
    simp only [Bool.or_eq_true, decide_eq_true_eq] at h ⊢
    rcases hk with e | e
    · rw [e]; exact h
    · exact .inr e
  · rename_i h1
    rw [if_neg h1] at h
    split
    · rfl
    · rename_i h2
      rw [if_neg h2] at h
      simp only [Bool.not_eq_true', decide_eq_false_iff_not] at h ⊢
      rcases hk with e | e
      · rw [e]; exact h
      · rw [e]; decide
theorem whole_move {a b c d x y : Int} (h : wholeP a b c d = true) (h1 : moveQ a b x y = true) (h2 : moveQ c d x y = true) : wholeP (a + x) (b + y) (c + x) (d + y) = true := by
  have := whole_iff.1 h
  have m1 := (move_iff.1 h1).2
  have m2 := (move_iff.1 h2).2
  simp only [rightP, Bool.and_eq_true, decide_eq_true_eq] at m1 m2
  exact whole_iff.2 (by omega)
theorem may_moved (x y : Int) : ∀ t, mayB t = true → mayB (movedT x y t) = true := by
  refine Tree.byKids fun k n a b c d w ks ih => ?_
  intro hm
  obtain ⟨ho, hks⟩ := (may_own _ _ _ _ _ _ _ _).1 hm
  by_cases hk : k = 1 ∨ k = 6
  · rw [moved_read hk]
    split
    · rename_i hq
      have hnil := may_leaf hm hk
      subst hnil
      refine (may_own _ _ _ _ _ _ _ _).2 ⟨?_, fun u hu => by simp [moveds] at hu⟩
      obtain ⟨hB, hr⟩ := (own_iff _ _ _ _ _ _ _ _).1 ho
      refine (own_iff _ _ _ _ _ _ _ _).2 ⟨⟨hB.1, hk.elim .inl (fun h => .inr (.inl h)), hB.2.2⟩, ?_⟩
      rcases hk with rfl | rfl
      · obtain ⟨h1, h2, h3, h4⟩ := hr
        exact ⟨rfl, (move_iff.1 hq.1).2, by omega, by omega⟩
      · exact ⟨rfl, whole_move hr.2 hq.1 hq.2⟩
    · exact bad_may
  · rw [moved_else hk]
    refine (may_own _ _ _ _ _ _ _ _).2 ⟨?_, fun u hu => ?_⟩
    · obtain ⟨hB, hr⟩ := (own_iff _ _ _ _ _ _ _ _).1 ho
      refine (own_iff _ _ _ _ _ _ _ _).2 ⟨hB, ?_⟩
      rw [moveds_map, List.length_map]
      exact hr
    · rw [moveds_map] at hu
      obtain ⟨v, hv, rfl⟩ := List.mem_map.1 hu
      exact ⟨fits_moved x y k n a b c d w ks _ v (hks v hv).1, ih v hv (hks v hv).2⟩
theorem deep_moved (x y : Int) : ∀ t, deepT (movedT x y t) ≤ deepT t := by
  refine Tree.byKids fun k n a b c d w ks ih => ?_
  have hd : deeps (moveds x y ks) ≤ deeps ks := by
    rw [deeps_le, moveds_map]
    intro u hu
    obtain ⟨v, hv, rfl⟩ := List.mem_map.1 hu
    exact Nat.le_trans (ih v hv) (deeps_mem hv)
  by_cases hk : k = 1 ∨ k = 6
  · rw [moved_read hk]
    split
    · rw [deepT, deepT]; omega
    · rw [badT, deepT, deepT, deeps]; omega
  · rw [moved_else hk, deepT, deepT]; omega
theorem right_moved (x y : Int) (t : Tree) (h : rightB t = true) : rightB (movedT x y t) = true := by
  unfold rightB at h ⊢
  simp only [Bool.and_eq_true, decide_eq_true_eq, Bool.not_eq_true', decide_eq_false_iff_not] at h ⊢
  refine ⟨⟨Nat.le_trans (deep_moved x y t) h.1.1, ?_⟩, may_moved x y t h.2⟩
  rcases kind_moved x y t with e | e
  · rw [e]; exact h.1.2
  · rw [e]; decide
theorem cnts_map (kd x y : Int) (ks : List Tree) (h : ∀ u ∈ ks, cntT kd (movedT x y u) = cntT kd u) : cnts kd (moveds x y ks) = cnts kd ks := by
  induction ks with
  | nil => rfl
  | cons t l ih => rw [moveds, cnts, cnts, h t List.mem_cons_self, ih fun u hu => h u (List.mem_cons_of_mem _ hu)]
theorem size_moved (x y : Int) : ∀ t, mayB t = true → cntT (-1) (movedT x y t) = cntT (-1) t := by
  refine Tree.byKids fun k n a b c d w ks ih => ?_
  intro hm
  by_cases hk : k = 1 ∨ k = 6
  · rw [moved_read hk, may_leaf hm hk]
    split
    · rw [cntT, cntT]; rfl
    · rw [badT, cntT, cntT]; rfl
  · rw [moved_else hk, cntT, cntT, cnts_map _ _ _ _ fun u hu => ih u hu (may_kids hm u hu)]
theorem bads_moved (x y : Int) : ∀ t, mayB t = true → cntT 2 t ≤ cntT 2 (movedT x y t) ∧ (cntT 2 (movedT x y t) = cntT 2 t ↔ okM x y t = true) := by
  refine Tree.byKids fun k n a b c d w ks ih => ?_
  intro hm
  by_cases hk : k = 1 ∨ k = 6
  · have h2 : ¬ ((2 : Int) < 0 ∨ k = 2) := by omega
    rw [moved_read hk, may_leaf hm hk, okM, if_pos hk]
    by_cases hq : moveQ a b x y = true ∧ moveQ c d x y = true
    · rw [if_pos hq, hq.1, hq.2, cntT, cntT, if_neg h2]; simp [cnts, moveds]
    · rw [if_neg hq, badT, cntT, cntT, if_neg h2]
      have : (moveQ a b x y && moveQ c d x y) = false := by
        cases h1 : moveQ a b x y <;> cases h3 : moveQ c d x y <;> simp_all
      rw [this]; simp [cnts]
  · rw [moved_else hk, okM, if_neg hk, okMs_all, cntT, cntT]
    have hm' := may_kids hm
    have key : ∀ l : List Tree, (∀ u ∈ l, cntT 2 u ≤ cntT 2 (movedT x y u) ∧ (cntT 2 (movedT x y u) = cntT 2 u ↔ okM x y u = true)) → cnts 2 l ≤ cnts 2 (moveds x y l) ∧ (cnts 2 (moveds x y l) = cnts 2 l ↔ l.all (okM x y) = true) := by
      intro l
      induction l with
      | nil => intro _; simp [cnts, moveds]
      | cons u l ih2 =>
        intro h
        obtain ⟨a1, a2⟩ := h u List.mem_cons_self
        obtain ⟨b1, b2⟩ := ih2 fun v hv => h v (List.mem_cons_of_mem _ hv)
        rw [moveds, cnts, cnts, List.all_cons, Bool.and_eq_true, ← a2, ← b2]
        omega
    obtain ⟨k1, k2⟩ := key ks fun u hu => ih u hu (hm' u hu)
    rw [← k2]
    omega
theorem has_move {a b c d x y p q : Int} (h1 : moveQ a b x y = true) (h2 : moveQ c d x y = true) : hasP (a + x) (b + y) (c + x) (d + y) (p + x) (q + y) = hasP a b c d p q := by
  have m1 := move_iff.1 h1
  have m2 := move_iff.1 h2
  apply Bool.eq_iff_iff.2
  unfold hasP wholeP
  simp only [m1.1, m1.2, m2.1, m2.2, withinP, Bool.and_eq_true, decide_eq_true_eq, true_and]
  omega
theorem uses_moved (x y : Int) (p q : Int) : ∀ t, mayB t = true → okM x y t = true → usesB (p + x) (q + y) (movedT x y t) = usesB p q t := by
  refine Tree.byKids fun k n a b c d w ks ih => ?_
  intro hm ho
  rw [okM] at ho
  by_cases hk : k = 1 ∨ k = 6
  · rw [if_pos hk, Bool.and_eq_true] at ho
    rw [moved_read hk, if_pos ho, usesB, usesB, if_pos hk, if_pos hk]
    exact has_move ho.1 ho.2
  · rw [if_neg hk, okMs_all, List.all_eq_true] at ho
    rw [moved_else hk, usesB, usesB, if_neg hk, if_neg hk, usesBs_any, usesBs_any, moveds_map, List.any_map]
    apply Bool.eq_iff_iff.2
    simp only [List.any_eq_true, Function.comp_apply]
    exact ⟨fun ⟨u, hu, h⟩ => ⟨u, hu, by rw [← ih u hu (may_kids hm u hu) (ho u hu)]; exact h⟩, fun ⟨u, hu, h⟩ => ⟨u, hu, by rw [ih u hu (may_kids hm u hu) (ho u hu)]; exact h⟩⟩
theorem back_moved (x y : Int) : ∀ t, mayB t = true → okM x y t = true → movedT (-x) (-y) (movedT x y t) = t := by
  refine Tree.byKids fun k n a b c d w ks ih => ?_
  intro hm ho
  rw [okM] at ho
  by_cases hk : k = 1 ∨ k = 6
  · rw [if_pos hk, Bool.and_eq_true] at ho
    have m1 := move_iff.1 ho.1
    have m2 := move_iff.1 ho.2
    rw [moved_read hk, if_pos ho, moved_read hk, may_leaf hm hk]
    have e1 : a + x + -x = a := by omega
    have e2 : b + y + -y = b := by omega
    have e3 : c + x + -x = c := by omega
    have e4 : d + y + -y = d := by omega
    rw [if_pos ⟨move_iff.2 ⟨m1.2, by rw [e1, e2]; exact m1.1⟩, move_iff.2 ⟨m2.2, by rw [e3, e4]; exact m2.1⟩⟩, e1, e2, e3, e4]
    rfl
  · rw [if_neg hk, okMs_all, List.all_eq_true] at ho
    rw [moved_else hk, moved_else hk]
    congr 1
    rw [moveds_map, moveds_map, List.map_map]
    conv => rhs; rw [← List.map_id ks]
    exact List.map_congr_left fun u hu => ih u hu (may_kids hm u hu) (ho u hu)
theorem uses_none (x y : Int) : ∀ t, mayB t = true → (∀ p q, usesB p q t = false) → movedT x y t = t := by
  refine Tree.byKids fun k n a b c d w ks ih => ?_
  intro hm hu
  by_cases hk : k = 1 ∨ k = 6
  · exfalso
    have h1 := hu a b
    rw [usesB, if_pos hk] at h1
    have ho := ((own_iff _ _ _ _ _ _ _ _).1 ((may_own _ _ _ _ _ _ _ _).1 hm).1).2
    have hw : wholeP a b c d = true := by
      rcases hk with rfl | rfl
      · obtain ⟨_, h2, h3, h4⟩ := ho
        subst h3; subst h4
        simp only [rightP, Bool.and_eq_true, decide_eq_true_eq] at h2
        exact whole_iff.2 (by omega)
      · exact ho.2
    have := whole_iff.1 hw
    have h2 : hasP a b c d a b = true := by
      unfold hasP
      rw [hw]
      simp only [withinP, Bool.true_and, Bool.and_eq_true, decide_eq_true_eq]
      omega
    rw [h2] at h1; cases h1
  · rw [moved_else hk]
    congr 1
    rw [moveds_map]
    conv => rhs; rw [← List.map_id ks]
    refine List.map_congr_left fun u hmem => ih u hmem (may_kids hm u hmem) fun p q => ?_
    have h1 := hu p q
    rw [usesB, if_neg hk, usesBs_any] at h1
    cases h : usesB p q u with
    | false => rfl
    | true => rw [any_yes hmem h] at h1; cases h1
/-- What is used is a place. -/
theorem uses_in : ∀ (t : Tree) (p q : Int), usesB p q t = true → InP (p, q) := by
  refine Tree.byKids fun k n a b c d w ks ih => ?_
  intro p q h
  rw [usesB] at h
  by_cases hk : k = 1 ∨ k = 6
  · rw [if_pos hk] at h
    exact gridL_in (p, q) (mem_gridL.2 h)
  · rw [if_neg hk, usesBs_any] at h
    obtain ⟨u, hu, h⟩ := List.any_eq_true.1 h
    exact ih u hu p q h
/-- What it reads, is so near: a move that takes all of it to places is a small one. -/
theorem ok_small (x y : Int) : ∀ t, okM x y t = true → ∀ p q, usesB p q t = true → -16 < x ∧ x < 16 ∧ -64 < y ∧ y < 64 := by
  refine Tree.byKids fun k n a b c d w ks ih => ?_
  intro ho p q h
  rw [usesB] at h
  rw [okM] at ho
  by_cases hk : k = 1 ∨ k = 6
  · rw [if_pos hk, Bool.and_eq_true] at ho
    have m1 := move_iff.1 ho.1
    simp only [rightP, Bool.and_eq_true, decide_eq_true_eq] at m1
    omega
  · rw [if_neg hk, usesBs_any] at h
    rw [if_neg hk, okMs_all, List.all_eq_true] at ho
    obtain ⟨u, hu, h⟩ := List.any_eq_true.1 h
    exact ih u hu (ho u hu) p q h
end Go.AL
/-! What a moved tree reads. -/
namespace Go.AL
open Go.Proofs
set_option linter.unusedSimpArgs false
set_option linter.unusedVariables false
theorem sorted_ext {α : Type} (f : α → Nat) : ∀ l m : List α, l.Pairwise (fun a b => f a < f b) → m.Pairwise (fun a b => f a < f b) → (∀ a, a ∈ l ↔ a ∈ m) → l = m
  | [], [], _, _, _ => rfl
  | [], b :: m, _, _, h => by have := (h b).2 List.mem_cons_self; cases this
  | a :: l, [], _, _, h => by have := (h a).1 List.mem_cons_self; cases this
  | a :: l, b :: m, h1, h2, h => by
    obtain ⟨a1, l1⟩ := List.pairwise_cons.1 h1
    obtain ⟨b1, m1⟩ := List.pairwise_cons.1 h2
    have hab : a = b := by
      rcases List.mem_cons.1 ((h a).1 List.mem_cons_self) with e | e
      · exact e
      · rcases List.mem_cons.1 ((h b).2 List.mem_cons_self) with e2 | e2
        · exact e2.symm
        · have := b1 a e; have := a1 b e2; omega
    subst hab
    congr 1
    refine sorted_ext f l m l1 m1 fun c => ?_
    constructor
    · intro hc
      rcases List.mem_cons.1 ((h c).1 (List.mem_cons_of_mem _ hc)) with e | e
      · subst e; have := a1 c hc; omega
      · exact e
    · intro hc
      rcases List.mem_cons.1 ((h c).2 (List.mem_cons_of_mem _ hc)) with e | e
      · subst e; have := b1 c hc; omega
      · exact e
theorem gridP_sorted (p : Nat → Bool) : ∀ n, n ≤ 1024 → (gridP p n).Pairwise fun a b => pidx a < pidx b := by
  intro n hn
  unfold gridP
  rw [List.pairwise_map]
  have h1 : (List.range n).Pairwise (· < ·) := List.pairwise_lt_range
  have h2 := List.Pairwise.filter p h1
  refine List.Pairwise.imp_of_mem (fun {a b} ha hb hab => ?_) h2
  have ha' := List.mem_range.1 (List.mem_filter.1 ha).1
  have hb' := List.mem_range.1 (List.mem_filter.1 hb).1
  rw [(at_idx (by omega)).2, (at_idx (by omega)).2]; exact hab
set_option maxRecDepth 100000 in
theorem mem_reads (t : Tree) (p : Int × Int) : p ∈ gridP (usesN t) 1024 ↔ usesB p.1 p.2 t = true := by
  unfold gridP usesN
  simp only [List.mem_map, List.mem_filter, List.mem_range]
  constructor
  · rintro ⟨i, ⟨_, h⟩, rfl⟩; exact h
  · intro h
    have hi := uses_in t p.1 p.2 h
    obtain ⟨e1, e2⟩ := idx_at hi
    exact ⟨pidx p, ⟨hi.lt.2, by rw [e1, e2]; exact h⟩, by rw [e1, e2]⟩
/-- The places, moved. -/
def shl (x y : Int) (l : List (Int × Int)) : List (Int × Int) := l.map fun p => (p.1 + x, p.2 + y)
set_option maxRecDepth 100000 in
theorem reads_moved (x y : Int) (t : Tree) (hm : mayB t = true) (ho : okM x y t = true) : gridP (usesN (movedT x y t)) 1024 = shl x y (gridP (usesN t) 1024) := by
  have hin : ∀ p ∈ gridP (usesN t) 1024, InP p ∧ InP (p.1 + x, p.2 + y) := fun p hp => by
    have h1 := (mem_reads t p).1 hp
    exact ⟨uses_in t _ _ h1, uses_in (movedT x y t) _ _ (by rw [uses_moved x y p.1 p.2 t hm ho]; exact h1)⟩
  refine sorted_ext pidx _ _ (gridP_sorted _ _ (Nat.le_refl _)) ?_ fun p => ?_
  · unfold shl
    rw [List.pairwise_map]
    refine List.Pairwise.imp_of_mem (fun {a b} ha hb hab => ?_) (gridP_sorted (usesN t) 1024 (Nat.le_refl _))
    obtain ⟨a1, a2⟩ := hin a ha
    obtain ⟨b1, b2⟩ := hin b hb
    have a3 := a1.lt; have a4 := a2.lt; have b3 := b1.lt; have b4 := b2.lt
    unfold pidx at *
    simp only at *
    omega
  · rw [mem_reads]
    unfold shl
    simp only [List.mem_map]
    constructor
    · intro h
      refine ⟨(p.1 - x, p.2 - y), (mem_reads t _).2 ?_, ?_⟩
      · have := uses_moved x y (p.1 - x) (p.2 - y) t hm ho
        rw [show p.1 - x + x = p.1 by omega, show p.2 - y + y = p.2 by omega] at this
        rw [← this]; exact h
      · simp only [Int.sub_add_cancel]
    · rintro ⟨q, hq, rfl⟩
      rw [uses_moved x y q.1 q.2 t hm ho]
      exact (mem_reads t q).1 hq
set_option maxRecDepth 100000 in
theorem reads_none (x y : Int) (t : Tree) (hm : mayB t = true) (h : gridP (usesN t) 1024 = []) : movedT x y t = t := by
  refine uses_none x y t hm fun p q => ?_
  cases hu : usesB p q t with
  | false => rfl
  | true =>
    have := (mem_reads t (p, q)).2 hu
    rw [h] at this; cases this
end Go.AL
