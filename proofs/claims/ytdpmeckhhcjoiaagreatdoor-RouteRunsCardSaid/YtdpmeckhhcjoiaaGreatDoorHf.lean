import Derived.Test.YtdpmeckhhcjoiaaGreatDoorGz
import Derived.Test.YtdpmeckhhcjoiaaGreatDoorPu
import Derived.Lib.SlicesCompact
import Derived.Lib.RowBridge
import Derived.Sort.Grow
namespace Go.Gw
open Go Go.RowKit Go.Pu Go.Sort
variable{Dw:Prop}
set_option linter.unusedSimpArgs false
set_option linter.unusedVariables false
section
variable{α β:Type}[Inhabited β]
theorem zmV(enc:β→Value)(d:List β)(c:Array Value)(m:Nat)(b:m≤d.length)(e:d.length≤c.size):(putCells enc 0 d.toArray c).toList.take m=(d.take m).map enc:=by{have a:=congrArg (List.take m) (zfQ enc d c e);rw[List.take_take,Nat.min_eq_left b, ← List.map_take]at a;exact a}
end
section
variable{P:Program}{f:FuncId}{B:Nat}{A:Nat→Prop}{w:World}{L:List Ob}{i:Nat}{e:TypeId}{v:Value}{α:Type}[GoT α]{β:Type}[Inhabited β]
theorem zoC{o:Ob}(hi:L[i]?=some o):L.set i o=L:=by{apply List.ext_getElem?;intro a;rw[List.getElem?_set];split;rename_i hk;subst hk;split;exact hi.symm;rename_i hk2;rw[List.getElem?_eq_none (by omega)]at hi;cases hi;rfl}
theorem Hp.putRow{l r:List α}{g cap:Nat}{a:List β}{enc:β→Value}{k:Nat}{os:Array Obj}{m:Nat}(n:GoT.cells α=1)(F:Hp B A w L)(hi:L[i]?=some (obS e (.slice (some ⟨g,0,none⟩) l.length cap) l))(hB:B≤w.heap.size)(G:∀b,w.heap.size≤b→A b)(N:a.length=l.length)(H:m≤a.length)(q:r.length=m)(x:∀(s:Nat→Prop) (w':World),Ex A w s w'→repL s w' ((a.take m).map enc) r):
  Hp B A (grow (Go.Sort.putRow enc (Go.Sort.ahead w k) g 0 a.toArray) os) (L.set i (obS e (.slice (some ⟨g,0,none⟩) m cap) r))∧Tr Dw B A w A (grow (Go.Sort.putRow enc (Go.Sort.ahead w k) g 0 a.toArray) os):=by{
 obtain⟨O,I,h,y⟩:=F.at hi;rcases I with ⟨j,_⟩|⟨P,M,p,Q,j,rfl,t,R,J,u,S,K⟩;cases j;simp only[Value.slice.injEq,Option.some.injEq,Addr.mk.injEq,and_true]at j;obtain⟨rfl,_,rfl⟩:=j;have D:=(Array.getElem?_eq_some_iff.1 t).1;rw[n,Nat.mul_one]at u K
 have z:(grow (Go.Sort.putRow enc (Go.Sort.ahead w k) g 0 a.toArray) os).heap[g]?=some (.cells (putCells enc 0 a.toArray p) e (0,0)):=by
  rw[heap_grow_old _ _ (by simpa [Go.Sort.putRow,mapBlock,Go.Sort.ahead]using D)]
  simp only[Go.Sort.putRow,mapBlock,Go.Sort.ahead,Array.getElem?_modify,if_pos rfl,t]
  rfl
 have o:Mv Dw B A w A (grow (Go.Sort.putRow enc (Go.Sort.ahead w k) g 0 a.toArray) os) (some g):=by
  refine⟨rfl,rfl,rfl,by simp[Go.Sort.putRow,mapBlock,Go.Sort.ahead,grow],fun _=>Nat.le_add_right _ _,fun v d E=>?_,fun v d=>by cases d;exact⟨(h g (by simp)).1,(h g (by simp)).2.2⟩,fun _ f=>f,fun _ _ f=>f,fun b c=>G b (Nat.le_trans (by simp[Go.Sort.putRow,mapBlock,Go.Sort.ahead,grow]) c)⟩
  rw[heap_grow_old _ _ (by simpa [Go.Sort.putRow,mapBlock,Go.Sort.ahead]using d)]
  simp only[Go.Sort.putRow,mapBlock,Go.Sort.ahead,Array.getElem?_modify]
  rw[if_neg (fun f=>E (by rw[f]))]
 refine⟨y A _ (some g) (obS e (.slice (some ⟨g,0,none⟩) m cap) r) [g] o (fun v d=>by cases d;simp) ?_ fun b c=>⟨.inl c,(h b c).1,(h b c).2.2⟩,o.tr hB⟩;refine .inr ⟨g,cap,_,(a.take m).map enc,by rw[q],rfl,z,by omega,J,by rw[n,Nat.mul_one];simpa [putCells]using u,x _ _ o.ex,?_⟩;rw[n,Nat.mul_one,q];exact zmV enc a p m H (by omega)}
end
end Go.Gw
