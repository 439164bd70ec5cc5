import Derived.Test.YtdpmeckhhcjoiaaGreatDoorGt
import Derived.Laws.CopyRow
import Derived.Lib.Bytealg
namespace Go.Gw
open Go Go.RowKit Go.Pu
variable{Dw:Prop}
set_option linter.unusedSimpArgs false
set_option linter.unusedVariables false
section
variable{α:Type}[GoT α]{A:Nat→Prop}{w:World}
theorem repL.cut{cs:List Value}:∀{l:List α} (k:Nat),repL A w cs l→∃a b,cs=a++b∧repL A w a (l.take k)∧repL A w b (l.drop k)
 | l,0,h=>⟨[],cs,rfl,rfl,h⟩
 | [],k+1,h=>⟨[],cs,rfl,rfl,h⟩
 | x::l,k+1,h=>by
  obtain⟨a,b,rfl,h1,h2⟩:=h
  obtain⟨c,d,rfl,e,f⟩:=repL.cut k h2
  exact⟨a++c,d,by simp,⟨a,c,rfl,h1,e⟩,f⟩
end
section steps
variable{P:Program}{n:Fr}{ops:Array Oper}{Q:Exit→Act→World→Prop}{E:Env}{w:World}{rest:List Oper}{v u:Value}{d:Nat}
variable{ty t t2 e:TypeId}{pos:String}{af:Array Edge}{x y:Operand}{A:Nat→Prop}{α:Type}[GoT α]{B:Nat}{L:List Ob}{i:Nat}
end steps
end Go.Gw
namespace Go.Gw
open Go Go.RowKit Go.Pu
set_option linter.unusedSimpArgs false
set_option linter.unusedVariables false
section
variable{P:Program}{n:Fr}{E:Env}{w:World}{ρd:Option Nat}{ty:TypeId}{pos:String}{af:Array Edge}{g:Option (Nat×Bool)}{v:Value}
end
end Go.Gw
