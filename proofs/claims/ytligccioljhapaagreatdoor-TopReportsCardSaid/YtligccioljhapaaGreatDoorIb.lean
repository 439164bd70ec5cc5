import Derived.Test.YtligccioljhapaaGreatDoorGe
import Derived.Test.YtligccioljhapaaGreatDoorGv
import Derived.Test.YtligccioljhapaaGreatDoorHq
import Derived.Test.YtligccioljhapaaGreatDoorHf
namespace Go.Gw
open Go Go.RowKit Go.Pu
variable{Dw:Prop}
set_option linter.unusedSimpArgs false
set_option linter.unusedVariables false
section
variable{P:Program}{n:Fr}{ops:Array Oper}{Q:Exit→Act→World→Prop}{E:Env}{w w':World}{rest:List Oper}{o:Oper}{v:Value}
theorem V_yn(c:Y P n E o w v w')(e:o.guard=none)(f:o.dst=none)(a:V P n ops Q rest E w'):V P n ops Q (o::rest) E w:=by{intro h b;refine wpListIn_plain e fun i g=>⟨fun _ _=>trivial,?_⟩;rw[je (c h b) (fun d a=>by cases a),Oper.uponIn_value,f];exact g _ _ (a _ b)}
end
theorem ziu(a:Array Value)(n:Nat):(Builtin.zeroCells a n).toList.length=n*a.size:=by simp[Builtin.zeroCells]
theorem zig{a:Array Value}{n:Nat}(h:∀b∈a.toList,b.oneCell'=true):∀b∈(Builtin.zeroCells a n).toList,b.oneCell'=true:=by{
 intro b c;simp only[Builtin.zeroCells,Array.toList_map,List.mem_map,Array.toList_range,List.mem_range]at c;obtain⟨i,f,rfl⟩:=c
 have g:0<a.size:=by
  rcases Nat.eq_zero_or_pos a.size with e|e
  rw[e,Nat.mul_zero]at f;omega
  exact e
 have d:=Nat.mod_lt i g;rw[getElem!_pos a (i % a.size) d];exact h _ (by simp)}
section
variable{P:Program}{nn:Fr}{ops:Array Oper}{Q:Exit→Act→World→Prop}{E:Env}{w:World}{rest:List Oper}{α:Type}[GoT α]
variable{ty t e:TypeId}{pos:String}{af:Array Edge}{x:Operand}{A:Nat→Prop}{B:Nat}{L:List Ob}{i:Nat}{l:List α}
theorem zkU{lo n c g cap:Nat}{a:Value}(F:Hp B A w L)(hi:L[i]?=some (obS e (.slice (some ⟨g,0,none⟩) l.length cap) l))(X:lo+n=l.length)(G:P.underlying t=some (.slice e))(Z:∀w,(zeroValue e).run P w=.ok a w)(S:a.cells.size=GoT.cells α)(a0:∀a6∈a.cells.toList,a6.oneCell'=true)(hB:B≤w.heap.size)(H:∀N,w.heap.size≤N→A N)(I:ev E x=some (.slice (some ⟨g,lo*GoT.cells α,none⟩) n c))(f:∀u,Hp B A u (L.set i (obS e (.slice (some ⟨g,0,none⟩) lo cap) (l.take lo)))→Tr Dw B A w A u→V P nn ops Q rest E u):V P nn ops Q (⟨none,.call ⟨.builtin .clear,#[x],#[t]⟩,ty,pos,af,none⟩::rest) E w:=by{
 obtain⟨b2,hp,v,R⟩:=F.at hi;rcases hp with ⟨j,_,_⟩|⟨b1,a8,b,J,j,rfl,K,a1,a2,M,a3,a4⟩;cases j;simp only[Value.slice.injEq,Option.some.injEq,Addr.mk.injEq,and_true]at j;obtain⟨rfl,_,rfl⟩:=j;have z:=v g (by simp);have o:(l.take lo).length=lo:=by rw[List.length_take];omega
 have d:lo*GoT.cells α≤l.length*GoT.cells α:=Nat.mul_le_mul_right _ (by omega);have a9:l.length*GoT.cells α≤b.size:=by rw[M];exact Nat.mul_le_mul_right _ a1
 have T:repL A w (J.take (lo*GoT.cells α)) (l.take lo):=zfT lo a3;have O:b.toList.take (lo*GoT.cells α)=J.take (lo*GoT.cells α):=by rw[← a4,List.take_take,Nat.min_eq_left d]
 by_cases D:n=0;subst D;refine V_yn (w':=w) (v := .tuple #[]) (fun a7 p=>?_) rfl rfl (f _ ?_ (.refl H));simp only[execOp,resolve,invoke,builtin,List.map_toArray,List.map_cons,List.map_nil,p.eval I];simp[Builtin.clear_,run_underlying G];have a5:lo=l.length:=by omega
 subst a5;rw[List.take_length,zjU hi];exact F;have b0:lo*GoT.cells α+n*GoT.cells α=l.length*GoT.cells α:=by rw[← Nat.add_mul,X]
 have q:=ziu a.cells n;rw[S]at q;have r:=run_storeCells_at P g (lo*GoT.cells α) e (Builtin.zeroCells a.cells n).toList 0 b w K (by rw[Nat.add_zero,q];omega) (zig a0);rw[Nat.add_zero]at r;generalize y:(b.toList.take (lo*GoT.cells α)++(Builtin.zeroCells a.cells n).toList++b.toList.drop (lo*GoT.cells α+(Builtin.zeroCells a.cells n).toList.length)).toArray=row at r
 have U:row.size=cap*GoT.cells α:=by
  rw[← y, ← M]
  simp only[List.size_toArray,List.length_append,List.length_take,List.length_drop,Array.length_toList,q]
  omega
 have s:Mv Dw B A w A (w.setRow g row) (some g) :=
  ⟨rfl,rfl,rfl,by simp,fun _=>Nat.le_refl _,fun k d W=>setRow_other w g k _ (fun e=>W (by rw[e])),fun k d=>by cases d;exact⟨z.1,z.2.2⟩,fun _ f=>f,fun _ _ f=>f,fun m h=>H m (by simpa using h)⟩
 refine V_yn (w':=w.setRow g row) (v := .tuple #[]) (fun a7 p=>?_) rfl rfl (f _ (R A _ (some g) _ [g] s (fun k d=>by cases d;simp) (.inr ⟨g,cap,row,_,by rw[o],rfl,setRow_heap w g b _ e _ K,by rw[o];omega,a2,U,T.keep s.ex,?_⟩) fun m h=>⟨.inl h,(v m h).1,(v m h).2.2⟩) (s.tr hB));simp only[execOp,resolve,invoke,builtin,List.map_toArray,List.map_cons,List.map_nil,p.eval I];cases n with
 | zero=>exact absurd rfl D
 | succ n=>simp[Builtin.clear_,run_underlying G,Z,r]
 rw[o, ← O, ← y];simp only[List.append_assoc];rw[List.take_append_of_le_length (by rw[List.length_take,Array.length_toList];omega),List.take_take,Nat.min_self]}
end
def zef{α:Type}(l:List α)(lo:Int):Option (List α):=if 0≤lo∧lo<(l.length:Int) then some (l.take lo.toNat) else none
theorem zey{α:Type}{l r:List α}{lo:Int}(a:zef l lo=some r):∃k:Nat,lo=(k:Int)∧k<l.length∧r=l.take k∧r.length=k:=by{unfold zef at a;split at a;rename_i hc;obtain⟨k,rfl⟩:∃k:Nat,lo=(k:Int):=⟨lo.toNat,by omega⟩;obtain rfl:=Option.some.inj a;exact⟨k,rfl,by omega,by rw[Int.toNat_natCast],by rw[Int.toNat_natCast,List.length_take];omega⟩;cases a}
section
variable{P:Program}{nn:Fr}{ops:Array Oper}{Q:Exit→Act→World→Prop}{E:Env}{w:World}{rest:List Oper}{α:Type}[GoT α]{d:Nat}
variable{ty t ty2 e:TypeId}{pos pos2:String}{af af2:Array Edge}{x y z:Operand}{A:Nat→Prop}{B:Nat}{L:List Ob}{i:Nat}{l r:List α}{v:Value}
theorem zgD{lo:Int}{g:Value}{k:IntKind}(j:Hp B A w L)(hi:L[i]?=some (obS e v l))(u:zef l lo=some r)(m:P.underlying t=some (.slice e))(z:∀w,(Go.sizeOf e).run P w=.ok (GoT.cells α) w)(D:∀w,(zeroValue e).run P w=.ok g w)(o:g.cells.size=GoT.cells α)(F:∀h∈g.cells.toList,h.oneCell'=true)(hB:B≤w.heap.size)(G:∀n,w.heap.size≤n→A n)(H:ev E x=some v)(I:ev E y=some (.int k lo))(J:Nat.blt d nn.sz=true)(N:∀c a h b,v=.slice (some ⟨c,0,none⟩) l.length a→Hp B A b (L.set i (obS e (.slice (some ⟨c,0,none⟩) r.length a) r))→Tr Dw B A w A b→V P nn ops Q rest ((d,h)::E) b):
  V P nn ops Q (⟨some d,.slice t x (some y) none none,ty,pos,af,none⟩::⟨none,.call ⟨.builtin .clear,#[.tmp d],#[t]⟩,ty2,pos2,af2,none⟩::rest) E w:=by{obtain⟨f,rfl,K,rfl,p⟩:=zey u;have hp:=j.at hi;obtain⟨a1,hp,S,O⟩:=hp;rcases hp with ⟨_,rfl,_⟩|⟨c,a,R,T,rfl,rfl,U,M,W,X,Z,a0⟩;simp at K;refine V_y (zlx (lo:=f) (by omega) (by omega) M m z H I) rfl rfl J ?_;rw[Nat.zero_add];refine zkU (lo:=f) (n:=l.length-f) (c:=a-f) j hi (by omega) m D o F hB G (by simp[ev,Env.get]) fun b q s=>N c a _ b rfl (by rw[p];exact q) s}
theorem zib{g len cap:Nat}{lo:Int}{k:IntKind}(h:Hp B A w L)(hi:L[i]?=some (obS e (.slice (some ⟨g,0,none⟩) r.length cap) r))(a:v=.slice (some ⟨g,0,none⟩) len cap)(j:zef l lo=some r)(m:P.underlying t=some (.slice e))(n:∀w,(Go.sizeOf e).run P w=.ok (GoT.cells α) w)(o:ev E x=some v)(p:ev E z=some (.int k lo))(q:Nat.blt d nn.sz=true)(c:V P nn ops Q rest ((d,.slice (some ⟨g,0,none⟩) r.length cap)::E) w):V P nn ops Q (⟨some d,.slice t x none (some z) none,ty,pos,af,none⟩::rest) E w:=by{obtain⟨H,rfl,y,rfl,f⟩:=zey j;subst a;obtain⟨I,hp,_,_⟩:=h.at hi;rcases hp with ⟨a,_,_⟩|⟨D,s,u,F,a,rfl,G,b,_⟩;cases a;simp only[Value.slice.injEq,Option.some.injEq,Addr.mk.injEq,and_true]at a;obtain⟨rfl,_,rfl⟩:=a;rw[f]at c b;exact V_y (zlh b m n o p) rfl rfl q c}
end
end Go.Gw
