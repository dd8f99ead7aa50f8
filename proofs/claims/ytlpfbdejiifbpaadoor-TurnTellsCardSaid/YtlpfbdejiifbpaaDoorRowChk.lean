/-
  THE WALK of rows.Check.
-/
import Derived.Test.YtlpfbdejiifbpaaDoorRowSo
namespace Go.Proofs.YtlpfbdejiifbpaaDoor
open Go.RowKit

end Go.Proofs.YtlpfbdejiifbpaaDoor
