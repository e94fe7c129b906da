import Derived.Test.YtadepmefdanenaaDoorK02n
import Derived.Test.YtadepmefdanenaaDoorA18
/-! PlaceTells, for the row. -/
namespace Go.AL
open Go.Proofs
set_option linter.unusedVariables false
theorem PlaceTells_all (a b c d : Int) (s : ByteArray) (_ : (Lit.int .i64 a).wf = true) (_ : (Lit.int .i64 b).wf = true) (hc : (Lit.int .i64 c).wf = true) (hd : (Lit.int .i64 d).wf = true) (hs : s.size ≤ 140737488351232) :
    APure Tryd.prog 3 [place a b, place c d, vs s] (vb true) := placeTells_ok a b c d (.of_wf hc) (.of_wf hd) s (by omega)
end Go.AL
