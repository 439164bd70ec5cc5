import Derived.Test.YtdpmeckhhcjoiaaGreatDoorHf
namespace Go.Gw
open Go Go.RowKit Go.Pu Go.Sort
variable{Dw:Prop}
set_option linter.unusedSimpArgs false
set_option linter.unusedVariables false
section
variable{B:Nat}{A:Nat→Prop}{w:World}{L:List Ob}{i b off:Nat}{ix:Int}{α:Type}[GoT α]{e:TypeId}{v:Value}{l:List α}{x:α}
end
section
variable{P:Program}{f:FuncId}{B:Nat}{A:Nat→Prop}{w:World}{L:List Ob}{k:Nat}{e:TypeId}{v:Value}
end
section
variable{P:Program}{n:Fr}{ops:Array Oper}{Q:Exit→Act→World→Prop}{E:Env}{w:World}{rest:List Oper}{d:Nat}
variable{ty t e:TypeId}{pos:String}{af:Array Edge}{A:Nat→Prop}{α:Type}[GoT α]
end
section
variable{B B1:Nat}{A A1:Nat→Prop}{w w1:World}{L L1:List Ob}{i j b:Nat}{cs:List Value}{t:TypeId}
theorem XA.inl(a:XA (fun k=>A k∨k=b) w w1):XA A w w1:=XA.less a fun _ _=>Or.inl
end
section
variable{P:Program}{n:Fr}{ops:Array Oper}{Q:Exit→Act→World→Prop}{E:Env}{w:World}{rest:List Oper}{v u:Value}{d:Nat}
variable{ty t e:TypeId}{pos:String}{af:Array Edge}{x y z:Operand}{A:Nat→Prop}{α:Type}[GoT α]{B:Nat}{L:List Ob}{i:Nat}
theorem zpQ{l m r:List α}{lim bytes:Nat}{ti:TypeInfo}{j:Value}(O:Hp B A w L)(hi:L[i]?=some (obS e v l))(R:Sl A w u m)(S:zC lim l m=some r)(T:P.underlying t=some (.slice e))(F:P.info? e=some ti)(U:ti.zero=some j)(s:ti.size=GoT.cells α)(G:ti.bytes=bytes)(H:j.cells.size=GoT.cells α)(I:GoT.cells α≠0)(z:lim*bytes≤140737488355328)(J:lim≤maxLen)(hB:B≤w.heap.size)(W:∀b,w.heap.size≤b→A b)(X:ev E x=some v)(Z:ev E y=some u)(a0:Nat.blt d n.sz=true)(a1:∀a w1 A1,Hp B A1 w1 (L.set i (obS e a r))→Tr Dw B A w A1 w1→(w.heap.size≤w1.heap.size∧∀k,k<w.heap.size→some k≠v.ownBlock→w1.heap[k]?=w.heap[k]?)→V P n ops Q rest ((d,a)::E) w1):
  V P n ops Q (⟨some d,.call ⟨.builtin .append,#[x,y],#[t,t]⟩,ty,pos,af,none⟩::rest) E w:=by{
 obtain⟨f,o,c,D⟩:=O.at hi;have p:=OwP.fp o;refine znb (OwP.ow o c) R S T F U s G H I z J hB W X Z a0 fun a w1 A1 q mv K=>a1 a w1 A1 (D A1 w1 v.ownBlock _ _ mv (fun k g=>by rw[p,g];simp) q.owp fun b c=>⟨?_,q.off b c⟩) (mv.tr hB) ⟨(mv.tr hB).ex.size,fun k g M=>mv.blk k g M⟩;have N:a.ownBlock=some b:=by simpa using c
 rw[p];rcases K b N with h|h;exact .inl (by rw[h];simp);exact .inr h}
end
end Go.Gw
