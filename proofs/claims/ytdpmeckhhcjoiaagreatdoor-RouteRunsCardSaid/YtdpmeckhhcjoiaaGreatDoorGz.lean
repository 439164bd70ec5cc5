import Derived.Test.YtdpmeckhhcjoiaaGreatDoorGt
import Derived.Sort.Grow
namespace Go.Gw
open Go Go.RowKit Go.Pu Go.Sort
variable{Dw:Prop}
set_option linter.unusedSimpArgs false
set_option linter.unusedVariables false
theorem ziA{A:Nat→Prop}{w:World}:∀{l:List Int} {cs:List Value},repL A w cs l↔cs=l.map (Value.int .i64)
 | [],cs=>Iff.rfl
 | x::l,cs=>by
  constructor
  ·rintro⟨c1,c2,rfl,h1,h2⟩
   rw[ziA.1 h2,show c1=[.int .i64 x] from h1];rfl
  ·rintro rfl
   exact⟨[.int .i64 x],l.map (Value.int .i64),rfl,rfl,ziA.2 rfl⟩
theorem zfQ{α:Type}[Inhabited α](enc:α→Value)(d:List α)(c:Array Value)(e:d.length≤c.size):(putCells enc 0 d.toArray c).toList.take d.length=d.map enc:=by{apply List.ext_getElem?;intro b;rw[List.getElem?_take,List.getElem?_map];by_cases a:b<d.length;rw[if_pos a];simp only[putCells,Array.getElem?_toList,Array.getElem?_mapIdx];rw[Array.getElem?_eq_getElem (by omega),List.getElem?_eq_getElem a];simp[a];rw[if_neg a,List.getElem?_eq_none (by omega)];rfl}
section
variable{P:Program}{f:FuncId}{B:Nat}{A:Nat→Prop}{w:World}{L:List Ob}{i:Nat}{e:TypeId}{v:Value}
end
end Go.Gw
