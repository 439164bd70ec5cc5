import Derived.Test.YtligccioljhapaaGreatDoorGz
import Derived.Test.YtligccioljhapaaGreatDoorPu
import Derived.Lib.SlicesCompact
import Derived.Lib.RowBridge
import Derived.Sort.Grow
namespace Go.Gw
open Go Go.RowKit Go.Pu Go.Sort
variable{Dw:Prop}
set_option linter.unusedSimpArgs false
set_option linter.unusedVariables false
section
variable{α β:Type}[Inhabited β]
theorem zjp(enc:β→Value)(a:List β)(c:Array Value)(m:Nat)(d:m≤a.length)(e:a.length≤c.size):(putCells enc 0 a.toArray c).toList.take m=(a.take m).map enc:=by{have b:=congrArg (List.take m) (zdn enc a c e);rw[List.take_take,Nat.min_eq_left d, ← List.map_take]at b;exact b}
end
section
variable{P:Program}{f:FuncId}{B:Nat}{A:Nat→Prop}{w:World}{L:List Ob}{i:Nat}{e:TypeId}{v:Value}{α:Type}[GoT α]{β:Type}[Inhabited β]
theorem zjU{o:Ob}(hi:L[i]?=some o):L.set i o=L:=by{apply List.ext_getElem?;intro k;rw[List.getElem?_set];split;rename_i hk;subst hk;split;exact hi.symm;rename_i hk2;rw[List.getElem?_eq_none (by omega)]at hi;cases hi;rfl}
theorem Hp.putRow{l r:List α}{g cap:Nat}{a:List β}{enc:β→Value}{n:Nat}{os:Array Obj}{m:Nat}(o:GoT.cells α=1)(E:Hp B A w L)(hi:L[i]?=some (obS e (.slice (some ⟨g,0,none⟩) l.length cap) l))(hB:B≤w.heap.size)(F:∀b,w.heap.size≤b→A b)(K:a.length=l.length)(G:m≤a.length)(s:r.length=m)(v:∀(A':Nat→Prop) (w':World),Ex A w A' w'→repL A' w' ((a.take m).map enc) r):
  Hp B A (grow (Go.Sort.putRow enc (Go.Sort.ahead w n) g 0 a.toArray) os) (L.set i (obS e (.slice (some ⟨g,0,none⟩) m cap) r))∧Tr Dw B A w A (grow (Go.Sort.putRow enc (Go.Sort.ahead w n) g 0 a.toArray) os):=by{
 obtain⟨M,hp,h,x⟩:=E.at hi;rcases hp with ⟨j,_⟩|⟨N,J,q,O,j,rfl,t,P,H,u,Q,I⟩;cases j;simp only[Value.slice.injEq,Option.some.injEq,Addr.mk.injEq,and_true]at j;obtain⟨rfl,_,rfl⟩:=j;have z:=(Array.getElem?_eq_some_iff.1 t).1;rw[o,Nat.mul_one]at u I
 have y:(grow (Go.Sort.putRow enc (Go.Sort.ahead w n) g 0 a.toArray) os).heap[g]?=some (.cells (putCells enc 0 a.toArray q) e (0,0)):=by
  rw[heap_grow_old _ _ (by simpa [Go.Sort.putRow,mapBlock,Go.Sort.ahead]using z)]
  simp only[Go.Sort.putRow,mapBlock,Go.Sort.ahead,Array.getElem?_modify,if_pos rfl,t]
  rfl
 have p:Mv Dw B A w A (grow (Go.Sort.putRow enc (Go.Sort.ahead w n) g 0 a.toArray) os) (some g):=by
  refine⟨rfl,rfl,rfl,by simp[Go.Sort.putRow,mapBlock,Go.Sort.ahead,grow],fun _=>Nat.le_add_right _ _,fun k d D=>?_,fun k d=>by cases d;exact⟨(h g (by simp)).1,(h g (by simp)).2.2⟩,fun _ f=>f,fun _ _ f=>f,fun b c=>F b (Nat.le_trans (by simp[Go.Sort.putRow,mapBlock,Go.Sort.ahead,grow]) c)⟩
  rw[heap_grow_old _ _ (by simpa [Go.Sort.putRow,mapBlock,Go.Sort.ahead]using d)]
  simp only[Go.Sort.putRow,mapBlock,Go.Sort.ahead,Array.getElem?_modify]
  rw[if_neg (fun f=>D (by rw[f]))]
 refine⟨x A _ (some g) (obS e (.slice (some ⟨g,0,none⟩) m cap) r) [g] p (fun k d=>by cases d;simp) ?_ fun b c=>⟨.inl c,(h b c).1,(h b c).2.2⟩,p.tr hB⟩;refine .inr ⟨g,cap,_,(a.take m).map enc,by rw[s],rfl,y,by omega,H,by rw[o,Nat.mul_one];simpa [putCells]using u,v _ _ p.ex,?_⟩;rw[o,Nat.mul_one,s];exact zjp enc a q m G (by omega)}
end
end Go.Gw
