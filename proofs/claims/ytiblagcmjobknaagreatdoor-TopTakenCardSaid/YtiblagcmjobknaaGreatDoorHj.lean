import Derived.Test.YtiblagcmjobknaaGreatDoorGf
import Derived.SizedLaws
namespace Go.Gw
open Go Go.RowKit Go.Pu Go.ChangeShapes Go.WideShapes Go.ChangeAt
set_option linter.unusedSimpArgs false
set_option linter.unusedVariables false
end Go.Gw
