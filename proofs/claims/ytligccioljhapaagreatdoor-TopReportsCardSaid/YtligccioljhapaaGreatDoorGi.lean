import Derived.Test.YtligccioljhapaaGreatDoorGe
import Derived.Lib.LaidU8
import Derived.Lib.ItoaNum
import Derived.Lib.AppendIntMem
import Derived.MakeChecks
import Derived.Laws.BytesString
namespace Go.Gw
open Go Go.RowKit Go.Pu
variable{Dw:Prop}
set_option linter.unusedSimpArgs false
set_option linter.unusedVariables false
def Tb(P:Program)(A:Nat→Prop)(w:World):Prop:=Go.Lib.TabIs P w "internal/strconv.uint64pow10" .u64 Go.Lib.pow10Tab∧∃g,P.globalNamed "internal/strconv.uint64pow10" = some g∧A g∧g<w.heap.size
section
variable{P:Program}{A A1:Nat→Prop}{w w1:World}{B:Nat}
theorem Tb.to(j:Tb P A w)(d:∀g,g<w.heap.size→A g→w1.heap[g]?=w.heap[g]?∧A1 g)(e:w.heap.size≤w1.heap.size):Tb P A1 w1:=by{obtain⟨a,g,b,f,c⟩:=j;obtain⟨h,i⟩:=d g c f;refine⟨?_,g,b,i,Nat.lt_of_lt_of_le c e⟩;unfold Go.Lib.TabIs World.var? at a ⊢;rw[b]at a ⊢;simp only[Option.bind_some]at a ⊢;rw[h];exact a}
theorem Tb.tr(c:Tb P A w)(t:Tr Dw B A w A1 w1):Tb P A1 w1:=c.to (fun g a b=>⟨(t.ex.block g a b).2,(t.ex.block g a b).1⟩) t.ex.size
theorem Tb.kp(c:Tb P A w)(k:Kp Dw w w1):Tb P A w1:=c.to (fun g a b=>⟨k.block g a,b⟩) k.size
theorem Tb.laid{l:List (String×DataW Unit)}{g:Nat}{t e:TypeId}{n:Nat}(c:laidMetH P l w)(hp:(l.all fun x=>x.2.handleName?.isNone)=true)(i:("internal/strconv.uint64pow10",Go.Lib.tabData .u64 Go.Lib.pow10Tab)∈l)(b:P.globalNamed "internal/strconv.uint64pow10" = some g)(d:(P.globals[g]?).map (·.type)=some t)(j:P.underlying t=some (.array n e))(m:P.underlying e=some (.int .u64))(f:P.cellsOf e=1)(h:P.cellsOf t=n):Tb P (fun _=>True) w:=by{rw[MakeChecks.laidMetH_plain _ _ _ hp]at c;obtain⟨u,v,y,s,z,o,p,a,q⟩:=Go.Lib.laidMet.reads c i;obtain rfl:=Option.some.inj (b.symm.trans o);obtain rfl:=Option.some.inj (d.symm.trans p);have r:=Go.Lib.cells_of_tab j m f h q;refine⟨?_,g,b,trivial,?_⟩;unfold Go.Lib.TabIs;rw[a, ← r];unfold World.var? at a;rw[b]at a;simp only[Option.bind_some]at a;split at a;rename_i hx;exact (Array.getElem?_eq_some_iff.1 hx).1;cases a}
end
section
variable{P:Program}{n:Fr}{E:Env}{w:World}{A:Nat→Prop}{x:Operand}{ty t e:TypeId}{pos:String}{af:Array Edge}{v:Value}
end
section
variable{P:Program}{n:Fr}{E:Env}{w:World}{x y z:Operand}{ty t:TypeId}{pos:String}{af:Array Edge}{ρd:Option Nat}{g:Option (Nat×Bool)}{s r:ByteArray}
end
end Go.Gw
