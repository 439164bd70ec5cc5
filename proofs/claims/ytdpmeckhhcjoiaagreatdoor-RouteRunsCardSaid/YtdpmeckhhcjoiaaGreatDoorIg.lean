import Derived.Test.YtdpmeckhhcjoiaaGreatDoorIb
namespace Go.Gw
open Go Go.RowKit Go.Pu
variable{Dw:Prop}
set_option linter.unusedSimpArgs false
set_option linter.unusedVariables false
section
variable{P:Program}{nn:Fr}{ops:Array Oper}{Q:Exit→Act→World→Prop}{E:Env}{w:World}{rest:List Oper}{α:Type}[GoT α]{d:Nat}
variable{ty t e:TypeId}{pos:String}{af:Array Edge}{x y:Operand}{A:Nat→Prop}{B:Nat}{L:List Ob}{k:Nat}{l:List α}
def zeS{α:Type}(l:List α)(i j:Nat):List α:=l.take i++l.drop j++l.drop (i+(l.length-j))
theorem zfi{α:Type}{l:List α}{i j:Nat}(a:i≤j)(b:j≤l.length):(zeS l i j).length=l.length:=by{unfold zeS;simp only[List.length_append,List.length_take,List.length_drop];omega}
theorem zkm{α:Type}{l:List α}{i j:Nat}(a:i≤j)(b:j≤l.length):(zeS l i j).take (i+(l.length-j))=l.take i++l.drop j:=by{unfold zeS;refine List.take_left' ?_;simp only[List.length_append,List.length_take,List.length_drop];omega}
theorem zkM{i j g cap c2:Nat}{a:Addr}{ti:TypeInfo}(b3:Hp B A w L)(hi:L[k]?=some (obS e (.slice (some ⟨g,0,none⟩) l.length cap) l))(q:i≤j)(s:j≤l.length)(b4:P.underlying t=some (.slice e))(a8:P.info? e=some ti)(G:ti.size=GoT.cells α)(hB:B≤w.heap.size)(b5:∀a3,w.heap.size≤a3→A a3)(b6:ev E x=some (.slice (some ⟨g,0,none⟩) i cap))(b7:ev E y=some (.slice (some a) (l.length-j) c2))(b8:j<l.length→a=⟨g,j*GoT.cells α,none⟩)(b9:Nat.blt d nn.sz=true)(f:∀J,Hp B A J (L.set k (obS e (.slice (some ⟨g,0,none⟩) l.length cap) (zeS l i j)))→Tr Dw B A w A J→V P nn ops Q rest ((d,.slice (some ⟨g,0,none⟩) (i+(l.length-j)) cap)::E) J):
  V P nn ops Q (⟨some d,.call ⟨.builtin .append,#[x,y],#[t,t]⟩,ty,pos,af,none⟩::rest) E w:=by{
 obtain⟨d4,c0,K,a6⟩:=b3.at hi;rcases c0 with ⟨u,_,_⟩|⟨d3,c9,m,b,u,rfl,M,a0,c1,a1,p,a2⟩;cases u;simp only[Value.slice.injEq,Option.some.injEq,Addr.mk.injEq,and_true]at u;obtain⟨rfl,_,rfl⟩:=u;have U:=K g (by simp);generalize v:GoT.cells α=c at *;have r:b.length=l.length*c:=by rw[← v];exact p.len
 have d0:j*c≤l.length*c:=Nat.mul_le_mul_right _ s;have d1:i*c≤j*c:=Nat.mul_le_mul_right _ q;have c8:l.length*c≤cap*c:=Nat.mul_le_mul_right _ a0;have H:(l.length-j)*c=l.length*c-j*c:=Nat.sub_mul _ _ _;have W:(b.drop (j*c)).length=(l.length-j)*ti.size:=by rw[G,List.length_drop,r,H]
 have a4:∀F h,(b.drop (j*c))[F]?=some h→w.cell? (a.add F)=some h:=by
  intro F h N
  have a9:j<l.length:=by
   rcases Nat.lt_or_ge j l.length with f|f
   exact f
   rw[List.drop_eq_nil_of_le (by rw[r];exact Nat.mul_le_mul_right _ f)]at N
   simp at N
  rw[b8 a9]
  have n:b[j*c+F]?=some h:=by rw[← N,List.getElem?_drop]
  have d2:=(List.getElem?_eq_some_iff.1 n).1
  rw[← a2,List.getElem?_take]at n
  split at n
  case isFalse=>cases n
  rw[Addr.add_lit]
  simp only[World.cell?,M]
  simpa using n
 have c3:∀h∈b.drop (j*c),h.oneCell'=true:=fun h c4=>p.one h (List.mem_of_mem_drop c4);have a5:i+(l.length-j)≤cap:=by omega
 have O:i*ti.size+(b.drop (j*c)).length≤m.size:=by rw[W,G,H,a1];omega
 have R:=run_append_room (P:=P) w t ty e ti b4 a8 g i cap m M a (l.length-j) c2 (b.drop (j*c)) W a4 c3 a5 O;generalize S:(m.toList.take (i*ti.size)++b.drop (j*c)++m.toList.drop (i*ti.size+(b.drop (j*c)).length)).toArray=row at R
 have I:Mv Dw B A w A (w.setRow g row) (some g) :=
  ⟨rfl,rfl,rfl,by simp,fun _=>Nat.le_refl _,fun k z b0=>setRow_other w g k _ (fun e=>b0 (by rw[e])),fun k z=>by cases z;exact⟨U.1,U.2.2⟩,fun _ f=>f,fun _ _ f=>f,fun D o=>b5 D (by simpa using o)⟩
 have b1:row.size=cap*c:=by
  rw[← S, ← a1]
  simp only[List.size_toArray,List.length_append,List.length_take,List.length_drop,Array.length_toList]at O ⊢
  omega
 have T:m.toList.take (l.length*c)=b:=a2
 have a7:repL A w (b.take (i*c)++b.drop (j*c)++b.drop ((i+(l.length-j))*c)) (zeS l i j):=by
  unfold zeS
  rw[← v]
  exact ((zhn i p).append (zhq j p)).append (zhq _ p)
 have X:(i+(l.length-j))*c=i*c+(l.length*c-j*c):=by rw[Nat.add_mul,H]
 have b2:row.toList.take (l.length*c)=b.take (i*c)++b.drop (j*c)++b.drop ((i+(l.length-j))*c):=by
  rw[← S]
  simp only[G]
  have c5:m.toList.take (i*c)=b.take (i*c):=by rw[← T,List.take_take,Nat.min_eq_left (by omega)]
  rw[c5,List.take_append,List.take_of_length_le (by simp only[List.length_append,List.length_take,List.length_drop];omega)]
  congr 1
  have c6:(b.take (i*c)++b.drop (j*c)).length=(i+(l.length-j))*c:=by
   rw[X,List.length_append,List.length_take,List.length_drop,r];omega
  have c7:i*c+(b.drop (j*c)).length=(i+(l.length-j))*c:=by rw[X,List.length_drop,r]
  rw[c6,c7, ← T,List.drop_take]
 refine V_y (v := .slice (some ⟨g,0,none⟩) (i+(l.length-j)) cap) (w':=w.setRow g row) (fun a Z=>?_) rfl rfl b9
  (f _ (a6 A _ (some g) _ [g] I (fun k z=>by cases z;simp) (.inr ⟨g,cap,row,_,by rw[zfi q s],rfl,setRow_heap w g m _ e _ M,by rw[zfi q s];exact a0,c1,by rw[b1,v],a7.keep I.ex,by rw[zfi q s,v];exact b2⟩) fun D o=>⟨.inl o,(K D o).1,(K D o).2.2⟩) (I.tr hB))
 simp only[execOp];simp[resolve,invoke,builtin,Z.eval b6,Z.eval b7,R]}
theorem zoV{ρd:Option Nat}{gd:Option (Nat×Bool)}{k:IntKind}{g len cap lo sz:Nat}(b:lo≤len)(c:len≤cap)(d:P.underlying t=some (.slice e))(f:∀w,(Go.sizeOf e).run P w=.ok sz w)(h:ev E x=some (.slice (some ⟨g,0,none⟩) len cap))(i:ev E y=some (.int k (lo:Int))):Y P nn E ⟨ρd,.slice t x (some y) none none,ty,pos,af,gd⟩ w (.slice (some (if lo<cap then ⟨g,lo*sz,none⟩ else ⟨g,0,none⟩)) (len-lo) (cap-lo)) w:=by{
 by_cases a:lo<cap;rw[if_pos a];have:=zsw (P:=P) (n:=nn) (E:=E) (ty:=ty) (pos:=pos) (af:=af) (ρd:=ρd) (gd:=gd) (w:=w) (o:=0) b a c d f h i;rwa[Nat.zero_add]at this;rw[if_neg a];have l:lo=cap:=by omega
 have j:=zjY (P:=P) (n:=nn) (E:=E) (ty:=ty) (pos:=pos) (af:=af) (ρd:=ρd) (g:=gd) (w:=w) (sz:=sz) (v := .slice (some ⟨g,0,none⟩) len cap) (lo:=(lo:Int)) (k:=k) ⟨some ⟨g,0,none⟩,len,cap,lo,len,rfl,rfl,rfl,b,Nat.le_refl _,c,rfl⟩ d f h i;rw[if_pos (by omega)]at j;exact j}
variable{z m:Operand}{ρd:Option Nat}{gd:Option (Nat×Bool)}
theorem zoY{k b:IntKind}{g len cap lo hi sz:Nat}(c:lo≤hi)(d:hi≤cap)(o:lo<cap)(f:P.underlying t=some (.slice e))(h:∀w,(Go.sizeOf e).run P w=.ok sz w)(i:ev E x=some (.slice (some ⟨g,0,none⟩) len cap))(j:ev E y=some (.int k (lo:Int)))(l:ev E z=some (.int b (hi:Int))):Y P nn E ⟨ρd,.slice t x (some y) (some z) none,ty,pos,af,gd⟩ w (.slice (some ⟨g,lo*sz,none⟩) (hi-lo) (cap-lo)) w:=by{
 intro p a;have m:¬cap=lo:=by omega
 have n:(⟨g,0,none⟩:Addr).add (lo*sz)=⟨g,lo*sz,none⟩:=by rw[Addr.add_lit,Nat.zero_add]
 simp[execOp,a.eval i,a.eval j,a.eval l,Instr.sliceAt,Instr.slice,Instr.sliceBounds,Instr.sliceBound,asIntOf,underlying,f,h,c,d,m,n]}
theorem zrH{b c d:IntKind}{g len cap lo hi mx sz:Nat}(f:lo≤hi)(h:hi≤mx)(i:mx≤cap)(j:P.underlying t=some (.slice e))(k:∀w,(Go.sizeOf e).run P w=.ok sz w)(l:ev E x=some (.slice (some ⟨g,0,none⟩) len cap))(n:ev E y=some (.int b (lo:Int)))(o:ev E z=some (.int c (hi:Int)))(p:ev E m=some (.int d (mx:Int))):∃q,Y P nn E ⟨ρd,.slice t x (some y) (some z) (some m),ty,pos,af,gd⟩ w q w:=by
 refine⟨.slice (if mx=lo then some ⟨g,0,none⟩ else some (if lo*sz=0 then ⟨g,0,none⟩ else ⟨g,lo*sz,none⟩)) (hi-lo) (mx-lo),fun r a=>?_⟩
 simp[execOp,a.eval l,a.eval n,a.eval o,a.eval p,Instr.sliceAt,Instr.slice,Instr.sliceBounds,Instr.sliceBound,asIntOf,underlying,j,k,f,h,i,Addr.add]
omit [GoT α] in
theorem zhc{c:TypeId}(d:ev E x=some (.pointer none))(f:ev E y=some (.pointer none))(g:P.underlying t=some (.pointer e)):Y P nn E ⟨ρd,.binOp .eql t x y c,ty,pos,af,gd⟩ w (.bool true) w:=fun i a=>by
 obtain⟨b,h⟩:∃b,Op.maxDepth=b+1:=⟨_,rfl⟩
 simp only[execOp,a.eval d,a.eval f]
 simp[eqGuard,binOp,Op.equal,h,Op.equalIn,underlying,g]
omit [GoT α] in
theorem zhf{c:Addr}{d:TypeId}(f:ev E x=some (.pointer (some c)))(g:ev E y=some (.pointer none))(h:P.underlying t=some (.pointer e)):Y P nn E ⟨ρd,.binOp .eql t x y d,ty,pos,af,gd⟩ w (.bool false) w:=fun j a=>by
 obtain⟨b,i⟩:∃b,Op.maxDepth=b+1:=⟨_,rfl⟩
 simp only[execOp,a.eval f,a.eval g]
 simp[eqGuard,binOp,Op.equal,i,Op.equalIn,underlying,h]
end
end Go.Gw
