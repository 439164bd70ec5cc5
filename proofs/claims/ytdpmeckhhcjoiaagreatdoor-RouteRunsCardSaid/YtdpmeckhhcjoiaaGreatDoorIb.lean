import Derived.Test.YtdpmeckhhcjoiaaGreatDoorGe
import Derived.Test.YtdpmeckhhcjoiaaGreatDoorGv
import Derived.Test.YtdpmeckhhcjoiaaGreatDoorHq
import Derived.Test.YtdpmeckhhcjoiaaGreatDoorHf
namespace Go.Gw
open Go Go.RowKit Go.Pu
variable{Dw:Prop}
set_option linter.unusedSimpArgs false
set_option linter.unusedVariables false
section
variable{P:Program}{n:Fr}{ops:Array Oper}{Q:Exit→Act→World→Prop}{E:Env}{w w':World}{rest:List Oper}{o:Oper}{v:Value}
theorem V_yn(c:Y P n E o w v w')(e:o.guard=none)(f:o.dst=none)(a:V P n ops Q rest E w'):V P n ops Q (o::rest) E w:=by{intro h b;refine wpListIn_plain e fun i g=>⟨fun _ _=>trivial,?_⟩;rw[JQ (c h b) (fun d a=>by cases a),Oper.uponIn_value,f];exact g _ _ (a _ b)}
end
theorem zmB(a:Array Value)(n:Nat):(Builtin.zeroCells a n).toList.length=n*a.size:=by simp[Builtin.zeroCells]
theorem zmE{a:Array Value}{n:Nat}(h:∀b∈a.toList,b.oneCell'=true):∀b∈(Builtin.zeroCells a n).toList,b.oneCell'=true:=by{
 intro b c;simp only[Builtin.zeroCells,Array.toList_map,List.mem_map,Array.toList_range,List.mem_range]at c;obtain⟨i,f,rfl⟩:=c
 have g:0<a.size:=by
  rcases Nat.eq_zero_or_pos a.size with e|e
  rw[e,Nat.mul_zero]at f;omega
  exact e
 have d:=Nat.mod_lt i g;rw[getElem!_pos a (i % a.size) d];exact h _ (by simp)}
section
variable{P:Program}{nn:Fr}{ops:Array Oper}{Q:Exit→Act→World→Prop}{E:Env}{w:World}{rest:List Oper}{α:Type}[GoT α]
variable{ty t e:TypeId}{pos:String}{af:Array Edge}{x:Operand}{A:Nat→Prop}{B:Nat}{L:List Ob}{i:Nat}{l:List α}
theorem zlg{lo n c g cap:Nat}{a:Value}(F:Hp B A w L)(hi:L[i]?=some (obS e (.slice (some ⟨g,0,none⟩) l.length cap) l))(X:lo+n=l.length)(G:P.underlying t=some (.slice e))(Z:∀w,(zeroValue e).run P w=.ok a w)(S:a.cells.size=GoT.cells α)(a0:∀a7∈a.cells.toList,a7.oneCell'=true)(hB:B≤w.heap.size)(H:∀N,w.heap.size≤N→A N)(I:ev E x=some (.slice (some ⟨g,lo*GoT.cells α,none⟩) n c))(f:∀s,Hp B A s (L.set i (obS e (.slice (some ⟨g,0,none⟩) lo cap) (l.take lo)))→Tr Dw B A w A s→V P nn ops Q rest E s):V P nn ops Q (⟨none,.call ⟨.builtin .clear,#[x],#[t]⟩,ty,pos,af,none⟩::rest) E w:=by{
 obtain⟨b3,a1,u,R⟩:=F.at hi;rcases a1 with ⟨j,_,_⟩|⟨b2,a9,b,J,j,rfl,K,a2,a3,M,a4,a5⟩;cases j;simp only[Value.slice.injEq,Option.some.injEq,Addr.mk.injEq,and_true]at j;obtain⟨rfl,_,rfl⟩:=j;have z:=u g (by simp);have m:(l.take lo).length=lo:=by rw[List.length_take];omega
 have d:lo*GoT.cells α≤l.length*GoT.cells α:=Nat.mul_le_mul_right _ (by omega);have b0:l.length*GoT.cells α≤b.size:=by rw[M];exact Nat.mul_le_mul_right _ a2
 have T:repL A w (J.take (lo*GoT.cells α)) (l.take lo):=zhn lo a4;have O:b.toList.take (lo*GoT.cells α)=J.take (lo*GoT.cells α):=by rw[← a5,List.take_take,Nat.min_eq_left d]
 by_cases D:n=0;subst D;refine V_yn (w':=w) (v := .tuple #[]) (fun a8 o=>?_) rfl rfl (f _ ?_ (.refl H));simp only[execOp,resolve,invoke,builtin,List.map_toArray,List.map_cons,List.map_nil,o.eval I];simp[Builtin.clear_,run_underlying G];have a6:lo=l.length:=by omega
 subst a6;rw[List.take_length,zoC hi];exact F;have b1:lo*GoT.cells α+n*GoT.cells α=l.length*GoT.cells α:=by rw[← Nat.add_mul,X]
 have p:=zmB a.cells n;rw[S]at p;have q:=run_storeCells_at P g (lo*GoT.cells α) e (Builtin.zeroCells a.cells n).toList 0 b w K (by rw[Nat.add_zero,p];omega) (zmE a0);rw[Nat.add_zero]at q;generalize y:(b.toList.take (lo*GoT.cells α)++(Builtin.zeroCells a.cells n).toList++b.toList.drop (lo*GoT.cells α+(Builtin.zeroCells a.cells n).toList.length)).toArray=row at q
 have U:row.size=cap*GoT.cells α:=by
  rw[← y, ← M]
  simp only[List.size_toArray,List.length_append,List.length_take,List.length_drop,Array.length_toList,p]
  omega
 have r:Mv Dw B A w A (w.setRow g row) (some g) :=
  ⟨rfl,rfl,rfl,by simp,fun _=>Nat.le_refl _,fun v d W=>setRow_other w g v _ (fun e=>W (by rw[e])),fun v d=>by cases d;exact⟨z.1,z.2.2⟩,fun _ f=>f,fun _ _ f=>f,fun k h=>H k (by simpa using h)⟩
 refine V_yn (w':=w.setRow g row) (v := .tuple #[]) (fun a8 o=>?_) rfl rfl (f _ (R A _ (some g) _ [g] r (fun v d=>by cases d;simp) (.inr ⟨g,cap,row,_,by rw[m],rfl,setRow_heap w g b _ e _ K,by rw[m];omega,a3,U,T.keep r.ex,?_⟩) fun k h=>⟨.inl h,(u k h).1,(u k h).2.2⟩) (r.tr hB));simp only[execOp,resolve,invoke,builtin,List.map_toArray,List.map_cons,List.map_nil,o.eval I];cases n with
 | zero=>exact absurd rfl D
 | succ n=>simp[Builtin.clear_,run_underlying G,Z,q]
 rw[m, ← O, ← y];simp only[List.append_assoc];rw[List.take_append_of_le_length (by rw[List.length_take,Array.length_toList];omega),List.take_take,Nat.min_self]}
end
def clearCut_{α:Type}(l:List α)(lo:Int):Option (List α):=if 0≤lo∧lo<(l.length:Int) then some (l.take lo.toNat) else none
section
variable{P:Program}{nn:Fr}{ops:Array Oper}{Q:Exit→Act→World→Prop}{E:Env}{w:World}{rest:List Oper}{α:Type}[GoT α]{d:Nat}
variable{ty t ty2 e:TypeId}{pos pos2:String}{af af2:Array Edge}{x y z:Operand}{A:Nat→Prop}{B:Nat}{L:List Ob}{i:Nat}{l r:List α}{v:Value}
end
end Go.Gw
