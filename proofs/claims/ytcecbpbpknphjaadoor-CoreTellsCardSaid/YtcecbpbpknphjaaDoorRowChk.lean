/-
  THE WALK of rows.Check.
-/
import Derived.Test.YtcecbpbpknphjaaDoorRowSo
namespace Go.Proofs.YtcecbpbpknphjaaDoor
open Go.RowKit

end Go.Proofs.YtcecbpbpknphjaaDoor
