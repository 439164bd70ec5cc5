import Derived.Test.YtiblagcmjobknaaGreatDoorGc
import Derived.Lib.Bytealg
namespace Go.Gw
open Go Go.RowKit Go.Pu
set_option linter.unusedSimpArgs false
set_option linter.unusedVariables false
section
variable {P : Program} {n : Fr} {E : Env} {w : World} {ρd : Option Nat} {ty : TypeId} {pos : String} {af : Array Edge} {g : Option (Nat × Bool)} {v : Value}
end
end Go.Gw
