/-
  How long a text can be that came in: off a card's reach.
-/
import Derived.Test.YtnnbhehaplphiaaGreatDoorGf
import Derived.SizedLaws
namespace Go.Gw
open Go Go.RowKit Go.Pu Go.ChangeShapes Go.WideShapes Go.ChangeAt
set_option linter.unusedSimpArgs false
set_option linter.unusedVariables false
end Go.Gw
