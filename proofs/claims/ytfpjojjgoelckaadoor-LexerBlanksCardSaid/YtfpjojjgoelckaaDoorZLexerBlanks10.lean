/- Parts of the proof of LexerBlanks: the logic, contracts, plain laws. -/
import Derived.Test.YtfpjojjgoelckaaDoorZLexerBlanks3
/-! Contracts: place. -/
namespace Go.AL
open Go.Proofs
set_option linter.unusedSimpArgs false
set_option linter.unusedVariables false
abbrev place (c r : Int) : AV := .agg [vi c, vi r]
def rightP (c r : Int) : Bool := decide (0 ≤ c) && decide (c < 16) && decide (0 ≤ r) && decide (r < 64)
set_option maxRecDepth 100000 in
theorem right_ok (c r : Int) : APure Tryd.prog 45 [place c r] (vb (rightP c r)) := by
  refine apure_of Tryd.func45 Tryd.ntmps45 rfl ?_
  simp only [List.length_cons, List.length_nil, List.cons_append, List.nil_append, List.replicate]
  repeat' (first
    | refine aw_seq ?_
    | (refine aw_run [] ?_; simp -implicitDefEqProofs (maxSteps := 1000000))
    | (refine aw_ymix [] draws (by decide +kernel) ?_; simp -implicitDefEqProofs (maxSteps := 1000000))
    | (refine aw_yrun draws (by kernel_rfl) ?_; simp -implicitDefEqProofs (maxSteps := 1000000))
    | (refine awl_skip' [] rfl ?_; simp -implicitDefEqProofs (maxSteps := 1000000))
    | (refine aw_cond rfl (fun h => ?_) (fun h => ?_) <;> try (with_reducible first | exact ff_tt h | exact tt_ff h))
    | (refine aw_skip ?_; simp -implicitDefEqProofs (maxSteps := 1000000))
    | refine aw_block ?_
    | (refine aw_exit ?_; simp -implicitDefEqProofs (maxSteps := 1000000))
    | refine aw_ret (ret_of (.inr rfl) (by simp [Tryd.results45]; rfl) (Fin.of ?_)))
  simp [rightP]
theorem wmul {a : Int} (h : 0 ≤ a) (h2 : a < 64) : IntKind.i64.wrap (a * 16) = a * 16 := wrap_id (by omega) (by omega)
def atC (i : Int) : Int := if 0 ≤ i ∧ i < 1024 then i % 16 else 0
def atR (i : Int) : Int := if 0 ≤ i ∧ i < 1024 then i / 16 else 0
theorem mn (a b : Int) : (if b < a then b else a) = min a b := by omega
theorem mx (a b : Int) : (if a < b then b else a) = max a b := by omega
abbrev range (a b c d : Int) : AV := .agg [vi a, vi b, vi c, vi d]
def spanP (a b c d : Int) : Bool := rightP a b && rightP c d
def withinP (c r a b d e : Int) : Bool := decide (a ≤ c) && decide (c ≤ d) && decide (b ≤ r) && decide (r ≤ e)
def wholeP (a b c d : Int) : Bool := rightP a b && rightP c d && withinP a b a b c d
def hasP (a b c d x y : Int) : Bool := wholeP a b c d && withinP x y a b c d
def meetP (a b c d e f g h : Int) : Bool := wholeP a b c d && wholeP e f g h && wholeP (max a e) (max b f) (min c g) (min d h)
end Go.AL
