/- The walks of Decode: the reference's, ahead of the body. The walks of Decode: the reference's, a body that is spoilt. The walks of Decode: the reference's, a group that is whole. -/
import Derived.Test.YtfbjmhipjfjaeaaGreatDoorM09
namespace Go.Proofs.YtfbjmhipjfjaeaaGreatDoor
open Go.ChangeShapes Go.WideShapes Go.ChangeAt Go.RowKit
set_option linter.unusedVariables false

end Go.Proofs.YtfbjmhipjfjaeaaGreatDoor

namespace Go.Proofs.YtfbjmhipjfjaeaaGreatDoor
open Go.ChangeShapes Go.WideShapes Go.ChangeAt Go.RowKit
set_option linter.unusedVariables false

end Go.Proofs.YtfbjmhipjfjaeaaGreatDoor

namespace Go.Proofs.YtfbjmhipjfjaeaaGreatDoor
open Go.ChangeShapes Go.WideShapes Go.ChangeAt Go.RowKit
set_option linter.unusedVariables false

end Go.Proofs.YtfbjmhipjfjaeaaGreatDoor
