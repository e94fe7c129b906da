import Derived.Test.YtfpjojjgoelckaaDoorProg
import Derived.Lib.LaidTab
import Derived.Lib.ItoaNum
/-! What is known of the world in which all begins. -/
namespace Go.AL
open Go.Proofs
structure Init (w : World) : Prop where
  tab : Lib.TabIs Tryd.prog w "internal/strconv.uint64pow10" .u64 Lib.pow10Tab
  range : ∃ tp p, w.var? Tryd.prog "strconv.ErrRange" = some #[.iface tp p]
  syn : ∃ tp p, w.var? Tryd.prog "strconv.ErrSyntax" = some #[.iface tp p]
end Go.AL
