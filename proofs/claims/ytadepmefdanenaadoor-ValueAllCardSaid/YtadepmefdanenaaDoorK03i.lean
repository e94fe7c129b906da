import Derived.Test.YtadepmefdanenaaDoorK03h
import Derived.Test.YtadepmefdanenaaDoorK03g
/-! Contracts: gridironlaw03.ValueAll. -/
namespace Go.AL
open Go.Proofs
set_option linter.unusedSimpArgs false
set_option linter.unusedVariables false
theorem rlow_ok (l : List (Int × Int)) (hl : (l.length : Int) ≤ 9223372036854775807) : APure Tryd.prog 49 [.vsl (l.map vl), vb false] (vl (lowL l)) := rbest_ok false l hl
theorem rhigh_ok (l : List (Int × Int)) (hl : (l.length : Int) ≤ 9223372036854775807) : APure Tryd.prog 49 [.vsl (l.map vl), vb true] (vl (highL l)) := rbest_ok true l hl
set_option maxHeartbeats 4000000 in
set_option maxRecDepth 100000 in
theorem valueAll_ok (l : List (Int × Int)) (hl : (l.length : Int) ≤ 9223372036854775807) (hin : ∀ v ∈ l, In64 v.1) : APure Tryd.prog 7 [.vsl (l.map vl)] (vb true) := by
  have h1 := vsum_ok l hl hin
  have h2 := rvsum_ok l hl hin
  have h3 := least_ok l hl
  have h4 := greatest_ok l hl
  have h5 := rlow_ok l hl
  have h6 := rhigh_ok l hl
  generalize sumL l = s at *
  generalize lowL l = lo at *
  generalize highL l = hi at *
  refine apure_of Tryd.func7 Tryd.ntmps7 rfl ?_
  simp only [List.length_cons, List.length_nil, List.cons_append, List.nil_append, List.replicate]
  repeat' (first
    | refine aw_seq ?_
    | (refine aw_run [] ?_; simp -implicitDefEqProofs [vl])
    | (refine aw_ymix [] draws (by decide +kernel) ?_; simp -implicitDefEqProofs [vl])
    | (refine aw_yrun draws (by kernel_rfl) ?_; simp -implicitDefEqProofs [vl])
    | (refine awl_skip' [] rfl ?_; simp -implicitDefEqProofs [vl])
    | (refine awl_pure_guard [] rfl rfl rfl (by first | assumption | kernel_rfl) rfl (fun hc => by first | exact alive3_ok | exact h1 | exact h2 | exact h3 | exact h4 | exact h5 | exact h6) (by simp) (by simp) (by simp) ?_; simp -implicitDefEqProofs [vl])
    | (refine yl_pureG rfl rfl rfl (by first | assumption | kernel_rfl) rfl (fun hc => by first | exact alive3_ok | exact h1 | exact h2 | exact h3 | exact h4 | exact h5 | exact h6) (by simp) (by simp) (by simp) ?_; simp -implicitDefEqProofs [vl])
    | (refine awl_pure' [] rfl rfl rfl (by first | assumption | kernel_rfl) rfl (by first | exact alive3_ok | exact h1 | exact h2 | exact h3 | exact h4 | exact h5 | exact h6) (by simp) (by simp) ?_; simp -implicitDefEqProofs [vl])
    | (refine yl_pure rfl rfl rfl (by first | assumption | kernel_rfl) rfl (by first | exact alive3_ok | exact h1 | exact h2 | exact h3 | exact h4 | exact h5 | exact h6) (by simp) (by simp) ?_; simp -implicitDefEqProofs [vl])
    | (refine aw_cond rfl (fun h => ?_) (fun h => ?_) <;> try (with_reducible first | exact ff_tt h | exact tt_ff h))
    | (refine aw_skip ?_; simp -implicitDefEqProofs [vl])
    | refine aw_block ?_
    | (refine aw_exit ?_; simp -implicitDefEqProofs [vl])
    | refine aw_ret (ret_of (.inr rfl) (by simp [Tryd.results7]; rfl) (Fin.of ?_)))
  all_goals first | rfl | (trace_state; sorry)
theorem ValueAll_all (l : List (Int × Int)) (hl : l.length ≤ 9223372036854775807) (hin : ∀ v ∈ l, (Lit.int .i64 v.1).wf = true ∧ (Lit.int .i64 v.2).wf = true) : APure Tryd.prog 7 [.vsl (l.map fun x => .agg [.p (.int .i64 x.1), .p (.int .i64 x.2)])] (vb true) :=
  valueAll_ok l (by omega) fun v hv => .of_wf (hin v hv).1
end Go.AL
