import Derived.Test.YtcicdckjlkekdaaDoorK03a
/-! Contracts: value.ops, value.Do. -/
namespace Go.AL
open Go.Proofs
set_option linter.unusedSimpArgs false
set_option linter.unusedVariables false
attribute [simp] amput amfind akey
abbrev vs' (l : List UInt8) : AV := .p (.string ⟨l.toArray⟩)
/-- What they do. -/
def opsE : List (AV × AV) :=
  [(.p (.string ⟨#[43]⟩), .fn (.func 88) [] [.vel [vf 49] 0 0]), (.p (.string ⟨#[45]⟩), .fn (.func 88) [] [.vel [vf 50] 0 0]),
   (.p (.string ⟨#[42]⟩), .fn (.func 88) [] [.vel [vf 51] 0 0]), (.p (.string ⟨#[47]⟩), vf 52),
   (.p (.string ⟨#[60]⟩), .fn (.func 90) [] [.vel [vf 54] 0 0]), (.p (.string ⟨#[60, 61]⟩), .fn (.func 90) [] [.vel [vf 55] 0 0]),
   (.p (.string ⟨#[61]⟩), .fn (.func 90) [] [.vel [vf 56] 0 0]), (.p (.string ⟨#[60, 62]⟩), .fn (.func 90) [] [.vel [vf 57] 0 0]),
   (.p (.string ⟨#[62, 61]⟩), .fn (.func 90) [] [.vel [vf 58] 0 0]), (.p (.string ⟨#[62]⟩), .fn (.func 90) [] [.vel [vf 59] 0 0])]
theorem opsT : tmap Tryd.prog 63 = some (.string, 61) := by kernel_rfl
set_option maxRecDepth 100000 in
theorem ops_ok (σ : ASt) : ACall Tryd.prog 33 [] σ fun r τ => r = .map σ.next ∧ τ = { σ with mp := upd σ.mp σ.next (some opsE), next := σ.next + 1 } := by
  refine acall_of Tryd.func33 Tryd.ntmps33 rfl ?_
  simp only [List.length_cons, List.length_nil, List.cons_append, List.nil_append, List.replicate]
  refine aw_seq (aw_run [] ?_)
  simp -implicitDefEqProofs
  refine aw_seq (aw_run [] ?_)
  simp -implicitDefEqProofs
  refine awl_makeMap [] rfl rfl ?_
  simp -implicitDefEqProofs
  repeat' (first
    | (refine awl_pure' [] rfl rfl rfl (by kernel_rfl) rfl (by first | exact reckon_ok _ | exact ask_ok _) (by simp) (by simp) ?_; simp -implicitDefEqProofs)
    | (refine awl_mapNew [] (.inl rfl) rfl opsT rfl (upd_same _ _ _) rfl (by simp) ?_; simp -implicitDefEqProofs))
  repeat' (first
    | refine aw_seq ?_
    | (refine aw_run [] ?_; simp -implicitDefEqProofs)
    | (refine aw_ymix [] draws (by decide +kernel) ?_; simp -implicitDefEqProofs)
    | (refine aw_yrun draws (by kernel_rfl) ?_; simp -implicitDefEqProofs)
    | (refine awl_skip' [] rfl ?_; simp -implicitDefEqProofs)
    | (refine aw_cond rfl (fun h => ?_) (fun h => ?_) <;> try (with_reducible first | exact ff_tt h | exact tt_ff h))
    | (refine aw_skip ?_; simp -implicitDefEqProofs)
    | refine aw_block ?_
    | (refine aw_exit ?_; simp -implicitDefEqProofs)
    | refine aw_ret (ret_of (.inr rfl) (by simp [Tryd.results33]; rfl) (Fin.of ?_)))
  exact ⟨rfl, rfl⟩
def opsK : List ByteArray := opsE.map fun p => match p.1 with | .p (.string s) => s | _ => ⟨#[]⟩
/-- Is it an op? -/
def isOp (s : ByteArray) : Bool := opsK.contains s
end Go.AL
