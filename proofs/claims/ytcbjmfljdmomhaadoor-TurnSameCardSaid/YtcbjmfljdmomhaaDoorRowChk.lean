/-
  THE WALK of rows.Check.
-/
import Derived.Test.YtcbjmfljdmomhaaDoorRowSo
namespace Go.Proofs.YtcbjmfljdmomhaaDoor
open Go.RowKit

end Go.Proofs.YtcbjmfljdmomhaaDoor
