/- The closed facts of the row of CellRight. -/
import Derived.Test.YtibiooglhpjojaaGreatDoorCards
import Derived.WalkKit
import Derived.ProofKit
import Derived.OpenShut
import Derived.Deep.DeepHandedRow
import Derived.KernelRfl
set_option linter.unusedSimpArgs false
set_option linter.unusedVariables false
namespace Go.Proofs.YtibiooglhpjojaaGreatDoor.cellRight
open Go.ChangeShapes Go.WideShapes Go.ChangeAt Go.RowKit
set_option maxRecDepth 100000
theorem closed:joinedFacts Tryz.pinned.checked.prog 7 Tryz.f7 (Rows.OpenSpec.upto Rows.cellRightSpec).bare Rows.cellRightUptoRow=true:=by kernel_rfl
end Go.Proofs.YtibiooglhpjojaaGreatDoor.cellRight
