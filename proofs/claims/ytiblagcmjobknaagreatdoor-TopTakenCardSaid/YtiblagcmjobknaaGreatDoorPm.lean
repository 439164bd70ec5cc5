import Derived.Test.YtiblagcmjobknaaGreatDoorPj
namespace Go.Pu
open Go
def zaf {κ α : Type} [DecidableEq κ] (l : List (κ × α)) (k : κ) : List (κ × α) := l.filter fun p => decide (p.1 ≠ k)
end Go.Pu
