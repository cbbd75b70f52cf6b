/- The closed facts of the row of CellStop. -/
import Derived.Test.YtibiooglhpjojaaGreatDoorCards
import Derived.WalkKit
import Derived.ProofKit
import Derived.OpenShut
import Derived.Deep.DeepHandedRow
import Derived.KernelRfl
set_option linter.unusedSimpArgs false
set_option linter.unusedVariables false
namespace Go.Proofs.YtibiooglhpjojaaGreatDoor.cellStop
open Go.ChangeShapes Go.WideShapes Go.ChangeAt Go.RowKit
set_option maxRecDepth 100000
theorem closed : joinedFacts Tryz.pinned.checked.prog 5 Tryz.f5 (Rows.OpenSpec.upto Rows.cellStopSpec).bare Rows.cellStopUptoRow = true := by kernel_rfl
end Go.Proofs.YtibiooglhpjojaaGreatDoor.cellStop
