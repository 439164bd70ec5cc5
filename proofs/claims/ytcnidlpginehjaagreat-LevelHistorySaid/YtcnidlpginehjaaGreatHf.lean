import Derived.Test.YtcnidlpginehjaaGreatGz
import Derived.Test.YtcnidlpginehjaaGreatPu
import Derived.Lib.SlicesCompact
import Derived.Lib.RowBridge
import Derived.Sort.Grow
namespace Go.Gw
open Go Go.RowKit Go.Pu Go.Sort
variable{Dw:Prop}
set_option linter.unusedSimpArgs false
set_option linter.unusedVariables false
section
variable{α β:Type}[Inhabited β]
theorem zhu(enc:β→Value)(a:List β)(c:Array Value)(b:Nat)(e:b≤a.length)(f:a.length≤c.size):(putCells enc 0 a.toArray c).toList.take b=(a.take b).map enc:=by{have d:=congrArg (List.take b) (zek enc a c f);rw[List.take_take,Nat.min_eq_left e, ← List.map_take]at d;exact d}
end
section
variable{P:Program}{f:FuncId}{B:Nat}{A:Nat→Prop}{w:World}{L:List Ob}{i:Nat}{e:TypeId}{v:Value}{α:Type}[GoT α]{β:Type}[Inhabited β]
theorem Hp.putRow{l r:List α}{g cap:Nat}{a:List β}{enc:β→Value}{n:Nat}{j:Array Obj}{b:Nat}(o:GoT.cells α=1)(G:Hp B A w L)(hi:L[i]?=some (obS e (.slice (some ⟨g,0,none⟩) l.length cap) l))(hB:B≤w.heap.size)(H:∀c,w.heap.size≤c→A c)(N:a.length=l.length)(I:b≤a.length)(s:r.length=b)(y:∀(t:Nat→Prop) (w':World),Ex A w t w'→repL t w' ((a.take b).map enc) r):
  Hp B A (grow (Go.Sort.putRow enc (Go.Sort.ahead w n) g 0 a.toArray) j) (L.set i (obS e (.slice (some ⟨g,0,none⟩) b cap) r))∧Tr Dw B A w A (grow (Go.Sort.putRow enc (Go.Sort.ahead w n) g 0 a.toArray) j):=by{
 obtain⟨O,hp,k,z⟩:=G.at hi;rcases hp with ⟨m,_⟩|⟨P,M,q,Q,m,rfl,u,R,J,v,S,K⟩;cases m;simp only[Value.slice.injEq,Option.some.injEq,Addr.mk.injEq,and_true]at m;obtain⟨rfl,_,rfl⟩:=m;have E:=(Array.getElem?_eq_some_iff.1 u).1;rw[o,Nat.mul_one]at v K
 have D:(grow (Go.Sort.putRow enc (Go.Sort.ahead w n) g 0 a.toArray) j).heap[g]?=some (.cells (putCells enc 0 a.toArray q) e (0,0)):=by
  rw[heap_grow_old _ _ (by simpa [Go.Sort.putRow,mapBlock,Go.Sort.ahead]using E)]
  simp only[Go.Sort.putRow,mapBlock,Go.Sort.ahead,Array.getElem?_modify,if_pos rfl,u]
  rfl
 have p:Mv Dw B A w A (grow (Go.Sort.putRow enc (Go.Sort.ahead w n) g 0 a.toArray) j) (some g):=by
  refine⟨rfl,rfl,rfl,by simp[Go.Sort.putRow,mapBlock,Go.Sort.ahead,grow],fun _=>Nat.le_add_right _ _,fun x f F=>?_,fun x f=>by cases f;exact⟨(k g (by simp)).1,(k g (by simp)).2.2⟩,fun _ h=>h,fun _ _ h=>h,fun c d=>H c (Nat.le_trans (by simp[Go.Sort.putRow,mapBlock,Go.Sort.ahead,grow]) d)⟩
  rw[heap_grow_old _ _ (by simpa [Go.Sort.putRow,mapBlock,Go.Sort.ahead]using f)]
  simp only[Go.Sort.putRow,mapBlock,Go.Sort.ahead,Array.getElem?_modify]
  rw[if_neg (fun h=>F (by rw[h]))]
 refine⟨z A _ (some g) (obS e (.slice (some ⟨g,0,none⟩) b cap) r) [g] p (fun x f=>by cases f;simp) ?_ fun c d=>⟨.inl d,(k c d).1,(k c d).2.2⟩,p.tr hB⟩;refine .inr ⟨g,cap,_,(a.take b).map enc,by rw[s],rfl,D,by omega,J,by rw[o,Nat.mul_one];simpa [putCells]using v,y _ _ p.ex,?_⟩;rw[o,Nat.mul_one,s];exact zhu enc a q b I (by omega)}
end
end Go.Gw
