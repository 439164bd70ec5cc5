import Derived.Test.YtligccioljhapaaGreatDoorGi
import Derived.Lib.Split
import Derived.Shelf.Strings.FuncGrows
namespace Go.Gw
open Go Go.RowKit Go.Pu Go.Proofs
variable{Dw:Prop}
set_option linter.unusedSimpArgs false
set_option linter.unusedVariables false
def Mx(P:Program)(g:Nat)(A:Nat→Prop)(w:World):Prop:=(∃m,w.cell? ⟨g,0,none⟩=some (.int .i64 m))∧A g∧g<w.heap.size
def Tx(P:Program)(g:Nat)(A:Nat→Prop)(w:World):Prop:=Tb P A w∧Mx P g A w
section
variable{P:Program}{A A1:Nat→Prop}{w w1:World}{B g:Nat}
theorem Mx.to(i:Mx P g A w)(b:∀g,g<w.heap.size→A g→w1.heap[g]?=w.heap[g]?∧A1 g)(c:w.heap.size≤w1.heap.size):Mx P g A1 w1:=by{obtain⟨⟨j,d⟩,e,a⟩:=i;obtain⟨f,h⟩:=b g a e;exact⟨⟨j,(World.cell?_of_block (a:=⟨g,0,none⟩) f).trans d⟩,h,Nat.lt_of_lt_of_le a c⟩}
theorem Mx.tr(c:Mx P g A w)(t:Tr Dw B A w A1 w1):Mx P g A1 w1:=c.to (fun g a b=>⟨(t.ex.block g a b).2,(t.ex.block g a b).1⟩) t.ex.size
theorem Mx.kp(c:Mx P g A w)(k:Kp Dw w w1):Mx P g A w1:=c.to (fun g a b=>⟨k.block g a,b⟩) k.size
theorem Tx.tr(a:Tx P g A w)(t:Tr Dw B A w A1 w1):Tx P g A1 w1:=⟨a.1.tr t,a.2.tr t⟩
theorem Tx.kp(a:Tx P g A w)(k:Kp Dw w w1):Tx P g A w1:=⟨a.1.kp k,a.2.kp k⟩
theorem Mx.shape{t:TypeId}{zero:Array Value}(q:w.ShapedOpen P)(j:g<P.globals.size)(l:((begin P (fun _ _=>0) default).world.heap[g]?).bind Obj.row?=some (zero,t))(s:zero.size=1)(m:P.buildable t=true)(n:P.cellTypes P.depth t=some [t])(o:P.underlying t=some (.int .i64)):Mx P g (fun _=>True) w:=by{
 obtain⟨b,d,u,p⟩:=q.1 g zero t j l;obtain⟨v,c,_,h⟩:=p m;rw[n]at c;cases c;have e:0<b.size:=by omega
 obtain⟨r,i,a⟩:=h 0 b[0] (by simp[e]);have:r=t:=by simpa using i.symm
 subst this;have f:w.cell? ⟨g,0,none⟩=some b[0]:=by simp[World.cell?,d,e]
 refine⟨?_,trivial,(Array.getElem?_eq_some_iff.1 d).1⟩;rw[f];unfold Cell.ok at a;rw[o]at a;cases hv:b[0] <;> rw[hv]at a <;> first | (obtain⟨rfl,_⟩:=a;exact⟨_,rfl⟩) | (obtain rfl:=a;exact⟨_,rfl⟩) | exact⟨_,by simp_all⟩ | simp at a}
end
end Go.Gw
