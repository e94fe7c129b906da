import Derived.Test.YtadepmefdanenaaDoorK02m
import Derived.Test.YtadepmefdanenaaDoorK02k
import Derived.Test.YtadepmefdanenaaDoorK02b
/-! Contracts: gridironlaw02.alive, PlaceTells. -/
namespace Go.AL
open Go.Proofs Go.Proofs.YtadepmefdanenaaDoor.Dec
set_option linter.unusedSimpArgs false
set_option linter.unusedVariables false
theorem parse1 : APure Tryd.prog 10 [vs ⟨#[80, 54, 52]⟩] (.tup [place 15 63, vi 0]) := by
  have h := parse_ok ⟨#[80, 54, 52]⟩ (by decide)
  have hF : formedP ⟨#[80, 54, 52]⟩ = true := by decide
  have hfd := findT_yes (s := ⟨#[80, 54, 52]⟩) (c := 80) (d := [54, 52]) rfl (by simp) (by decide) (by decide) (by intro x hx; simp at hx; subst hx; decide) (by decide)
  rw [show (fval 0 [54, 52] - 1) * 16 + ((80 : UInt8).toNat - 65) = 1023 by decide] at hfd
  have h1 : parseI ⟨#[80, 54, 52]⟩ = 1023 := by simp [parseI, hfd]
  have h2 : parseB ⟨#[80, 54, 52]⟩ = true := by simp [parseB, hF, hfd]
  have h3 : parseE ⟨#[80, 54, 52]⟩ = 0 := by simp [parseE, hF, hfd]
  rw [h1, h2, h3] at h
  exact h
theorem parse2 : APure Tryd.prog 10 [vs ⟨#[81, 49]⟩] (.tup [place 0 0, vi 4]) := by
  have h := parse_ok ⟨#[81, 49]⟩ (by decide)
  have hF : formedP ⟨#[81, 49]⟩ = true := by decide
  have hfd := findT_no (s := ⟨#[81, 49]⟩) (c := 81) (d := [49]) rfl (by simp) (by decide) (by decide) (by intro x hx; simp at hx; subst hx; decide) (by decide)
  have h2 : parseB ⟨#[81, 49]⟩ = false := by simp [parseB, hF, hfd]
  have h3 : parseE ⟨#[81, 49]⟩ = 4 := by simp [parseE, hF, hfd]
  rw [h2, h3] at h
  exact h
theorem parse3 : APure Tryd.prog 10 [vs ⟨#[65, 48, 49]⟩] (.tup [place 0 0, vi 2]) := by
  have h := parse_ok ⟨#[65, 48, 49]⟩ (by decide)
  have hF : formedP ⟨#[65, 48, 49]⟩ = false := by decide
  have h2 : parseB ⟨#[65, 48, 49]⟩ = false := by simp [parseB, hF]
  have h3 : parseE ⟨#[65, 48, 49]⟩ = 2 := by simp [parseE, hF]
  rw [h2, h3] at h
  exact h
theorem move1 : APure Tryd.prog 20 [place 15 63, place (-15) (-61)] (.tup [place 0 2, vb true]) := move_ok 15 63 (-15) (-61) (by decide) (by decide)
theorem mirror1 : APure Tryd.prog 22 [place 0 2] (.tup [place 2 0, vb true]) := mirror_ok 0 2
theorem mirror2 : APure Tryd.prog 22 [place 15 63] (.tup [place 0 0, vb false]) := mirror_ok 15 63
theorem span1 : APure Tryd.prog 24 [place 2 0, place 1 3] (.tup [range 1 0 2 3, vb true]) := span_ok 2 0 1 3
theorem cells1 : APure Tryd.prog 26 [range 1 0 2 3] (.vsl [place 1 0, place 2 0, place 1 1, place 2 1, place 1 2, place 2 2, place 1 3, place 2 3]) := cells_ok 1 0 2 3
theorem index1 : APure Tryd.prog 18 [place 15 63] (vi 1023) := index_ok 15 63
theorem text1 : APure Tryd.prog 16 [place 0 2] (vs ⟨#[65, 51]⟩) := (show textQ 0 2 = ⟨#[65, 51]⟩ by decide +kernel) ▸ text_ok 0 2
theorem text2 : APure Tryd.prog 16 [place 2 0] (vs ⟨#[67, 49]⟩) := (show textQ 2 0 = ⟨#[67, 49]⟩ by decide +kernel) ▸ text_ok 2 0
theorem has1 : APure Tryd.prog 25 [range 1 0 2 3, place 2 0] (vb true) := has_ok 1 0 2 3 2 0
set_option maxHeartbeats 4000000 in
set_option maxRecDepth 100000 in
theorem alive2_ok : APure Tryd.prog 9 [] (vb true) := by
  refine apure_of Tryd.func9 Tryd.ntmps9 rfl ?_
  simp only [List.length_cons, List.length_nil, List.cons_append, List.nil_append, List.replicate]
  repeat' (first
    | refine aw_seq ?_
    | (refine aw_run [1, 3, 5, 7, 9, 11, 13] ?_; simp -implicitDefEqProofs)
    | (refine aw_ymix [1, 3, 5, 7, 9, 11, 13] draws (by decide +kernel) ?_; simp -implicitDefEqProofs)
    | (refine aw_yrun draws (by kernel_rfl) ?_; simp -implicitDefEqProofs)
    | (refine awl_skip' [1, 3, 5, 7, 9, 11, 13] rfl ?_; simp -implicitDefEqProofs)
    | (refine awl_pure_guard [1, 3, 5, 7, 9, 11, 13] rfl rfl rfl (by kernel_rfl) rfl (fun hc => by first | exact parse1 | exact parse2 | exact parse3 | exact move1 | exact mirror1 | exact mirror2 | exact span1 | exact cells1 | exact index1 | exact text1 | exact text2 | exact has1) (by simp) (by simp) (by simp) ?_; simp -implicitDefEqProofs)
    | (refine yl_pureG rfl rfl rfl (by kernel_rfl) rfl (fun hc => by first | exact parse1 | exact parse2 | exact parse3 | exact move1 | exact mirror1 | exact mirror2 | exact span1 | exact cells1 | exact index1 | exact text1 | exact text2 | exact has1) (by simp) (by simp) (by simp) ?_; simp -implicitDefEqProofs)
    | (refine awl_pure' [1, 3, 5, 7, 9, 11, 13] rfl rfl rfl (by kernel_rfl) rfl (by first | exact parse1 | exact parse2 | exact parse3 | exact move1 | exact mirror1 | exact mirror2 | exact span1 | exact cells1 | exact index1 | exact text1 | exact text2 | exact has1) (by simp) (by simp) ?_; simp -implicitDefEqProofs)
    | (refine yl_pure rfl rfl rfl (by kernel_rfl) rfl (by first | exact parse1 | exact parse2 | exact parse3 | exact move1 | exact mirror1 | exact mirror2 | exact span1 | exact cells1 | exact index1 | exact text1 | exact text2 | exact has1) (by simp) (by simp) ?_; simp -implicitDefEqProofs)
    | (refine aw_cond rfl (fun h => ?_) (fun h => ?_) <;> try (with_reducible first | exact ff_tt h | exact tt_ff h))
    | (refine aw_skip ?_; simp -implicitDefEqProofs)
    | refine aw_block ?_
    | (refine aw_exit ?_; simp -implicitDefEqProofs)
    | refine aw_ret (ret_of (.inr rfl) (by simp [Tryd.results9]; rfl) (Fin.of ?_)))
  simp [tupOf]
theorem mirror_eq (c r : Int) : (rightP c r && rightP r c) = mirrorP c r := by
  unfold mirrorP rightP
  grind
theorem rmirror_ok' (c r : Int) : APure Tryd.prog 23 [place c r] (.tup [place (z (mirrorP c r) r) (z (mirrorP c r) c), vb (mirrorP c r)]) := mirror_eq c r ▸ rmirror_ok c r
theorem rmove_ok' (c r bc br : Int) : APure Tryd.prog 21 [place c r, place bc br] (.tup [place (z (moveP c r bc br) (c + bc)) (z (moveP c r bc br) (r + br)), vb (moveP c r bc br)]) := rmove_ok c r bc br
set_option maxHeartbeats 4000000 in
set_option maxRecDepth 100000 in
theorem placeTells_ok (c r bc br : Int) (hb : In64 bc) (hr : In64 br) (s : ByteArray) (hs : s.size ≤ 9223372036854775807) : APure Tryd.prog 3 [place c r, place bc br, vs s] (vb true) := by
  refine apure_of Tryd.func3 Tryd.ntmps3 rfl ?_
  simp only [List.length_cons, List.length_nil, List.cons_append, List.nil_append, List.replicate]
  repeat' (first
    | refine aw_seq ?_
    | (refine aw_run [7, 9, 11, 13, 15, 17, 19, 21] ?_; simp -implicitDefEqProofs)
    | (refine aw_ymix [7, 9, 11, 13, 15, 17, 19, 21] draws (by decide +kernel) ?_; simp -implicitDefEqProofs)
    | (refine aw_yrun draws (by kernel_rfl) ?_; simp -implicitDefEqProofs)
    | (refine awl_skip' [7, 9, 11, 13, 15, 17, 19, 21] rfl ?_; simp -implicitDefEqProofs)
    | (refine awl_pure_guard [7, 9, 11, 13, 15, 17, 19, 21] rfl rfl rfl (by kernel_rfl) rfl (fun hc => by first | exact alive2_ok | exact parse_ok s hs | exact rparse_ok s hs | exact at_ok _ | exact rat_ok _ | exact right_ok _ _ | exact rright_ok _ _ | exact ptext_ok _ _ | exact rtext_ok _ _ | exact index_ok _ _ | exact rindex_ok _ _ | exact move_ok _ _ _ _ hb hr | exact rmove_ok' _ _ _ _ | exact mirror_ok _ _ | exact rmirror_ok' _ _) (by simp) (by simp) (by simp) ?_; simp -implicitDefEqProofs)
    | (refine yl_pureG rfl rfl rfl (by kernel_rfl) rfl (fun hc => by first | exact alive2_ok | exact parse_ok s hs | exact rparse_ok s hs | exact at_ok _ | exact rat_ok _ | exact right_ok _ _ | exact rright_ok _ _ | exact ptext_ok _ _ | exact rtext_ok _ _ | exact index_ok _ _ | exact rindex_ok _ _ | exact move_ok _ _ _ _ hb hr | exact rmove_ok' _ _ _ _ | exact mirror_ok _ _ | exact rmirror_ok' _ _) (by simp) (by simp) (by simp) ?_; simp -implicitDefEqProofs)
    | (refine awl_pure' [7, 9, 11, 13, 15, 17, 19, 21] rfl rfl rfl (by kernel_rfl) rfl (by first | exact alive2_ok | exact parse_ok s hs | exact rparse_ok s hs | exact at_ok _ | exact rat_ok _ | exact right_ok _ _ | exact rright_ok _ _ | exact ptext_ok _ _ | exact rtext_ok _ _ | exact index_ok _ _ | exact rindex_ok _ _ | exact move_ok _ _ _ _ hb hr | exact rmove_ok' _ _ _ _ | exact mirror_ok _ _ | exact rmirror_ok' _ _) (by simp) (by simp) ?_; simp -implicitDefEqProofs)
    | (refine yl_pure rfl rfl rfl (by kernel_rfl) rfl (by first | exact alive2_ok | exact parse_ok s hs | exact rparse_ok s hs | exact at_ok _ | exact rat_ok _ | exact right_ok _ _ | exact rright_ok _ _ | exact ptext_ok _ _ | exact rtext_ok _ _ | exact index_ok _ _ | exact rindex_ok _ _ | exact move_ok _ _ _ _ hb hr | exact rmove_ok' _ _ _ _ | exact mirror_ok _ _ | exact rmirror_ok' _ _) (by simp) (by simp) ?_; simp -implicitDefEqProofs)
    | (refine aw_cond rfl (fun h => ?_) (fun h => ?_) <;> try (with_reducible first | exact ff_tt h | exact tt_ff h))
    | (refine aw_skip ?_; simp -implicitDefEqProofs)
    | refine aw_block ?_
    | (refine aw_exit ?_; simp -implicitDefEqProofs)
    | refine aw_ret (ret_of (.inr rfl) (by simp [Tryd.results3]; rfl) (Fin.of ?_)))
  all_goals simp [tupOf]
end Go.AL
