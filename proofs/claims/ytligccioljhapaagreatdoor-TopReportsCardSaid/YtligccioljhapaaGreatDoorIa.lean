import Derived.Test.YtligccioljhapaaGreatDoorHf
namespace Go.Gw
open Go Go.RowKit Go.Pu Go.Sort
variable{Dw:Prop}
set_option linter.unusedSimpArgs false
set_option linter.unusedVariables false
section
variable{B:Nat}{A:Nat→Prop}{w:World}{L:List Ob}{i b off:Nat}{ix:Int}{α:Type}[GoT α]{e:TypeId}{v:Value}{l:List α}{x:α}
theorem Hp.elemRep(o:Hp B A w L)(hi:L[i]?=some (obS e v l))(h:Loc v b off ix (GoT.cells α))(m:idx l ix=some x):∃cs,GoT.rep A w cs x∧At w b off cs:=by{
 obtain⟨I,J,c⟩:=QE m;obtain⟨f,hp,p,_⟩:=o.at hi;rcases OwP.ow hp p with ⟨rfl,rfl⟩|⟨F,G,H,cs,rfl,_,_,q,K,_,M,r,s⟩;simp at c;obtain⟨⟨len,N,d⟩,t⟩:=h;simp only[Value.slice.injEq,Option.some.injEq,Addr.mk.injEq,and_true]at d;obtain⟨rfl,_,_⟩:=d;obtain⟨y,g,z,rfl,D,E⟩:=r.at c
 have n:At w F 0 (y++(g++z)):=fun j u a=>by
  rw[← s,List.getElem?_take]at a
  split at a
  case isFalse=>cases a
  simp only[World.cell?,q,Nat.zero_add]
  simpa using a
 refine⟨g,E,?_⟩;have:=n.right.left;rw[D]at this;rw[t];simpa using this}
end
section
variable{P:Program}{f:FuncId}{B:Nat}{A:Nat→Prop}{w:World}{L:List Ob}{k:Nat}{e:TypeId}{v:Value}
end
section
variable{P:Program}{n:Fr}{ops:Array Oper}{Q:Exit→Act→World→Prop}{E:Env}{w:World}{rest:List Oper}{d:Nat}
variable{ty t e:TypeId}{pos:String}{af:Array Edge}{A:Nat→Prop}{α:Type}[GoT α]
end
section
variable{B B1:Nat}{A A1:Nat→Prop}{w w1:World}{L L1:List Ob}{i j b:Nat}{cs:List Value}{t:TypeId}
theorem XA.inl(a:XA (fun k=>A k∨k=b) w w1):XA A w w1:=XA.less a fun _ _=>Or.inl
end
section
variable{P:Program}{n:Fr}{ops:Array Oper}{Q:Exit→Act→World→Prop}{E:Env}{w:World}{rest:List Oper}{v u:Value}{d:Nat}
variable{ty t e:TypeId}{pos:String}{af:Array Edge}{x y z:Operand}{A:Nat→Prop}{α:Type}[GoT α]{B:Nat}{L:List Ob}{i:Nat}
theorem zkH{l m r:List α}{lim bytes:Nat}{ti:TypeInfo}{j:Value}(N:Hp B A w L)(hi:L[i]?=some (obS e v l))(O:Sl A w u m)(R:zE lim l m=some r)(S:P.underlying t=some (.slice e))(D:P.info? e=some ti)(T:ti.zero=some j)(q:ti.size=GoT.cells α)(F:ti.bytes=bytes)(G:j.cells.size=GoT.cells α)(H:GoT.cells α≠0)(s:lim*bytes≤140737488355328)(I:lim≤maxLen)(hB:B≤w.heap.size)(U:∀b,w.heap.size≤b→A b)(W:ev E x=some v)(X:ev E y=some u)(Z:Nat.blt d n.sz=true)(a0:∀a w1 A1,Hp B A1 w1 (L.set i (obS e a r))→Tr Dw B A w A1 w1→(w.heap.size≤w1.heap.size∧∀k,k<w.heap.size→some k≠v.ownBlock→w1.heap[k]?=w.heap[k]?)→V P n ops Q rest ((d,a)::E) w1):
  V P n ops Q (⟨some d,.call ⟨.builtin .append,#[x,y],#[t,t]⟩,ty,pos,af,none⟩::rest) E w:=by{
 obtain⟨f,hp,c,z⟩:=N.at hi;have o:=OwP.fp hp;refine zjt (OwP.ow hp c) O R S D T q F G H s I hB U W X Z fun a w1 A1 p mv J=>a0 a w1 A1 (z A1 w1 v.ownBlock _ _ mv (fun k g=>by rw[o,g];simp) p.owp fun b c=>⟨?_,p.off b c⟩) (mv.tr hB) ⟨(mv.tr hB).ex.size,fun k g K=>mv.blk k g K⟩;have M:a.ownBlock=some b:=by simpa using c
 rw[o];rcases J b M with h|h;exact .inl (by rw[h];simp);exact .inr h}
end
end Go.Gw
