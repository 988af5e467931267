/- Slices of slices of ints compared, marked, held: what the helpers of the statements return. No condition. -/
import Derived.Test.YtedkffdkhnfoiaaDoorLists
import Derived.Test.YtedkffdkhnfoiaaDoorConvInt
namespace Go.Proofs.YtedkffdkhnfoiaaDoor
open Go.RowKit
set_option linter.unusedSimpArgs false
set_option linter.unusedVariables false

end Go.Proofs.YtedkffdkhnfoiaaDoor
