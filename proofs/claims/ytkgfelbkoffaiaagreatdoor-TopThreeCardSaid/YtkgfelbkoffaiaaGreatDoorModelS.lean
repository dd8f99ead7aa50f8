/-
  THE WALKS of model.Missing, Against, Sure.
-/
import Derived.Test.YtkgfelbkoffaiaaGreatDoorModelG
import Derived.Test.YtkgfelbkoffaiaaGreatDoorNegate
import Derived.Test.YtkgfelbkoffaiaaGreatDoorLawF
namespace Go.Proofs.YtkgfelbkoffaiaaGreatDoor
open Go.RowKit

end Go.Proofs.YtkgfelbkoffaiaaGreatDoor
