import Derived.Test.YtligccioljhapaaGreatDoorPu
namespace Go.Pu
open Go
def zhk{α:Type}(l:List α)(k:Int):Option Unit:=if 0≤k∧k<(l.length:Int) then some () else none
def idxT{α:Type}(l:List α)(k j:Int):Option α:=if 0≤j then idx l (k+j) else none
end Go.Pu
