/-
  NARROWER THAN 'FOR EVERY INPUT', by the rows' own cells (each row's printed sentence says how): MonoHolds: loops · EvalReads: loops.
  DERIVED. THE GIVEN ROWS OF THIS SEAT. 4 by the template 'for every input the law returns true; each argument reads behind the call as it read before'; 0 by the template 'total and deterministic' (their statements: YtjldlcakinmajaaTotals.lean).
  GIVEN WITH THE SEED: the statements are not yours to turn. If you find one false, say at which input.
  Laid BY PROGRAM, IN A SANDBOX (cutbox-rows.mjs): the forced cells as the released guide's own fill.sh prints them over the translation b88fca2705ad14db… (all of the seat's roots in one cut). By AI agents, Wed Nov 11 2026. No macro, syntax, notation, axiom, sorry.
-/
import Derived.Test.YtjldlcakinmajaaChecked
import GoSem.Claim
import GoSem.ClaimJoined
import GoSem.ClaimMapViews
import Derived.JoinedTies
import Derived.KernelRfl
namespace Go.Proofs.Ytjldlcakinmajaa
/- THE CELL 'sum', in the pinned program and in every row, IS THE sha256 OF THE DUMP (.gsa) THAT YtjldlcakinmajaaProg.lean LOADS. Nothing in Lean hashes anything: it is a label: what it is worth is what the hold of that sum in a sandbox is worth. -/
noncomputable def Try.pinned : Pinned := { name := "ytjldlcakinmajaa", sum := "b88fca2705ad14db14fe39d9f42204b1a751e264ff4ac452007e042a1011b631", checked := Try.checked }
namespace Rows
def none {H : Type} : Left H := { results := [], args := [] }

/-- 'gridironlaw08.MonoHolds': WHATEVER THE INPUT: true; the input reads as it did. -/
def monoHoldsSpec : ChangeSpec := { name := "monoHolds", fn := fun _ => fun
  | [d1, d2] => { results := [.lit (.bool true)], args := [d1, d2] }
  | _ => none }
def monoHoldsRow : OpenClaim := { program := "ytjldlcakinmajaa", sum := "b88fca2705ad14db14fe39d9f42204b1a751e264ff4ac452007e042a1011b631", func := "gridiron/gridironlaw08.MonoHolds", spec := "monoHolds", recurses := true, loops := true, plainKeys := false, apart := false }
def MonoHoldsSaid : Prop := monoHoldsRow.holds Try.pinned (OpenSpec.ofChange monoHoldsSpec)

/-- ITS FALSE NEIGHBOUR: 'it returns false'. Refute it at one input. -/
def monoHoldsWrong : ChangeSpec := { name := "monoHolds", fn := fun _ => fun
  | [d1, d2] => { results := [.lit (.bool false)], args := [d1, d2] }
  | _ => none }
def MonoHoldsWrongFalsely : Prop := monoHoldsRow.holds Try.pinned (OpenSpec.ofChange monoHoldsWrong)

/-- 'gridironlaw07.EvalReads': WHATEVER THE INPUT: true; the input reads as it did. -/
def evalReadsSpec : ChangeSpec := { name := "evalReads", fn := fun _ => fun
  | [d1, d2, d3] => { results := [.lit (.bool true)], args := [d1, d2, d3] }
  | _ => none }
def evalReadsRow : OpenClaim := { program := "ytjldlcakinmajaa", sum := "b88fca2705ad14db14fe39d9f42204b1a751e264ff4ac452007e042a1011b631", func := "gridiron/gridironlaw07.EvalReads", spec := "evalReads", unfollowed := true, recurses := true, loops := true, plainKeys := false, apart := false }
def EvalReadsSaid : Prop := evalReadsRow.holds Try.pinned (OpenSpec.ofChange evalReadsSpec)

/-- ITS FALSE NEIGHBOUR: 'it returns false'. Refute it at one input. -/
def evalReadsWrong : ChangeSpec := { name := "evalReads", fn := fun _ => fun
  | [d1, d2, d3] => { results := [.lit (.bool false)], args := [d1, d2, d3] }
  | _ => none }
def EvalReadsWrongFalsely : Prop := evalReadsRow.holds Try.pinned (OpenSpec.ofChange evalReadsWrong)

/-- 'gridironlaw17.BranchPlays': WHATEVER THE INPUT: true; the input reads as it did. -/
def branchPlaysSpec : ChangeSpec := { name := "branchPlays", fn := fun _ => fun
  | [d1, d2] => { results := [.lit (.bool true)], args := [d1, d2] }
  | _ => none }
def branchPlaysRow : OpenClaim := { program := "ytjldlcakinmajaa", sum := "b88fca2705ad14db14fe39d9f42204b1a751e264ff4ac452007e042a1011b631", func := "gridiron/gridironlaw17.BranchPlays", spec := "branchPlays", unfollowed := true, recurses := true, plainKeys := false, apart := false }
def BranchPlaysSaid : Prop := branchPlaysRow.holds Try.pinned (OpenSpec.ofChange branchPlaysSpec)

/-- ITS FALSE NEIGHBOUR: 'it returns false'. Refute it at one input. -/
def branchPlaysWrong : ChangeSpec := { name := "branchPlays", fn := fun _ => fun
  | [d1, d2] => { results := [.lit (.bool false)], args := [d1, d2] }
  | _ => none }
def BranchPlaysWrongFalsely : Prop := branchPlaysRow.holds Try.pinned (OpenSpec.ofChange branchPlaysWrong)

/-- 'gridironlaw17.BranchOthers': WHATEVER THE INPUT: true; the input reads as it did. -/
def branchOthersSpec : ChangeSpec := { name := "branchOthers", fn := fun _ => fun
  | [d1, d2] => { results := [.lit (.bool true)], args := [d1, d2] }
  | _ => none }
def branchOthersRow : OpenClaim := { program := "ytjldlcakinmajaa", sum := "b88fca2705ad14db14fe39d9f42204b1a751e264ff4ac452007e042a1011b631", func := "gridiron/gridironlaw17.BranchOthers", spec := "branchOthers", unfollowed := true, recurses := true, plainKeys := false, apart := false }
def BranchOthersSaid : Prop := branchOthersRow.holds Try.pinned (OpenSpec.ofChange branchOthersSpec)

/-- ITS FALSE NEIGHBOUR: 'it returns false'. Refute it at one input. -/
def branchOthersWrong : ChangeSpec := { name := "branchOthers", fn := fun _ => fun
  | [d1, d2] => { results := [.lit (.bool false)], args := [d1, d2] }
  | _ => none }
def BranchOthersWrongFalsely : Prop := branchOthersRow.holds Try.pinned (OpenSpec.ofChange branchOthersWrong)

/- THE SECOND FORM. 'bulk': how many values and letters a reading holds, each counted each time it is reached (what is shared counts as often as it is met; a slice's spare places count too). A statement '..UptoSaid' is the law's where the arguments, and the package variables that the reading takes, are together of bulk at most 1048576: NARROWER than '..Said'. Prove '..Said' where nothing that the law and all that it calls make is longer than what came in: it says more and counts as full. Else prove '..UptoSaid'. A law counts once. -/
mutual
def uptoBulk {H : Type} : DataW H → Nat
  | .lit (.string bytes) => bytes.length + 1
  | .lit _ => 1
  | .nil => 1
  | .ptr d => uptoBulk d + 1
  | .slice elems spare => uptoBulkAll elems + uptoBulkAll spare + 1
  | .agg parts => uptoBulkAll parts + 1
  | .iface _ d => uptoBulk d + 1
  | .map entries => uptoBulkEntries entries + 1
  | .held _ => 1
def uptoBulkAll {H : Type} : List (DataW H) → Nat
  | [] => 0
  | d :: r => uptoBulk d + uptoBulkAll r
def uptoBulkEntries {H : Type} : List (Lit × DataW H) → Nat
  | [] => 0
  | x :: r => uptoBulkEntry x + uptoBulkEntries r
def uptoBulkEntry {H : Type} : Lit × DataW H → Nat
  | (.string bytes, d) => bytes.length + uptoBulk d + 1
  | (_, d) => uptoBulk d + 1
 end
def uptoSmall : (H : Type) → List (DataW H) → Bool := fun _ ds => decide (uptoBulkAll ds ≤ 1048576)
def OpenSpec.upto (s : _root_.Go.ChangeSpec) : _root_.Go.OpenSpec := { _root_.Go.OpenSpec.ofChange s with cond := some uptoSmall }

/-- 'gridironlaw08.MonoHolds', WHERE WHAT IT READS IS OF BULK AT MOST 1048576: true; the input reads as it did. -/
def monoHoldsUptoRow : OpenClaim := { program := "ytjldlcakinmajaa", sum := "b88fca2705ad14db14fe39d9f42204b1a751e264ff4ac452007e042a1011b631", func := "gridiron/gridironlaw08.MonoHolds", spec := "monoHolds", recurses := true, loops := true, plainKeys := false, apart := false, narrowed := true }
def MonoHoldsUptoSaid : Prop := monoHoldsUptoRow.holds Try.pinned (OpenSpec.upto monoHoldsSpec)

/-- 'gridironlaw07.EvalReads', WHERE WHAT IT READS IS OF BULK AT MOST 1048576: true; the input reads as it did. -/
def evalReadsUptoRow : OpenClaim := { program := "ytjldlcakinmajaa", sum := "b88fca2705ad14db14fe39d9f42204b1a751e264ff4ac452007e042a1011b631", func := "gridiron/gridironlaw07.EvalReads", spec := "evalReads", unfollowed := true, recurses := true, loops := true, plainKeys := false, apart := false, narrowed := true }
def EvalReadsUptoSaid : Prop := evalReadsUptoRow.holds Try.pinned (OpenSpec.upto evalReadsSpec)

/-- 'gridironlaw17.BranchPlays', WHERE WHAT IT READS IS OF BULK AT MOST 1048576: true; the input reads as it did. -/
def branchPlaysUptoRow : OpenClaim := { program := "ytjldlcakinmajaa", sum := "b88fca2705ad14db14fe39d9f42204b1a751e264ff4ac452007e042a1011b631", func := "gridiron/gridironlaw17.BranchPlays", spec := "branchPlays", unfollowed := true, recurses := true, plainKeys := false, apart := false, narrowed := true }
def BranchPlaysUptoSaid : Prop := branchPlaysUptoRow.holds Try.pinned (OpenSpec.upto branchPlaysSpec)

/-- 'gridironlaw17.BranchOthers', WHERE WHAT IT READS IS OF BULK AT MOST 1048576: true; the input reads as it did. -/
def branchOthersUptoRow : OpenClaim := { program := "ytjldlcakinmajaa", sum := "b88fca2705ad14db14fe39d9f42204b1a751e264ff4ac452007e042a1011b631", func := "gridiron/gridironlaw17.BranchOthers", spec := "branchOthers", unfollowed := true, recurses := true, plainKeys := false, apart := false, narrowed := true }
def BranchOthersUptoSaid : Prop := branchOthersUptoRow.holds Try.pinned (OpenSpec.upto branchOthersSpec)

end Rows
end Go.Proofs.Ytjldlcakinmajaa
