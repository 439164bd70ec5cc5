import Derived.Test.YtligccioljhapaaGreatDoorGx
import Derived.Test.YtligccioljhapaaGreatDoorIg
import Derived.Test.YtligccioljhapaaGreatDoorHf
import Derived.Test.YtligccioljhapaaGreatDoorPt
namespace Go.Gw
open Go Go.RowKit Go.Pu
set_option linter.unusedSimpArgs false
set_option linter.unusedVariables false
section
variable{P:Program}{n:Fr}{E:Env}{w:World}{ρd:Option Nat}{t t2 ty:TypeId}{pos:String}{af:Array Edge}{g:Option (Nat×Bool)}{x y:Operand}
theorem zlZ{c d:Array TypeId}{e:Bool}(f:ev E x=some .nilFunc)(h:ev E y=some .nilFunc)(i:P.underlying t=some (.func c d e)):Y P n E ⟨ρd,.binOp .neq t x y t2,ty,pos,af,g⟩ w (.bool false) w:=fun l a=>by
 obtain⟨b,j⟩:∃b,Op.maxDepth=b+1:=⟨_,rfl⟩
 simp only[execOp,a.eval f,a.eval h]
 simp[eqGuard,binOp,Op.equal,j,Op.equalIn,underlying,i]
theorem zlW{c d:Array TypeId}{e:Bool}{f:Fn}{h i:Array Value}(j:ev E x=some (.func f h i))(l:ev E y=some .nilFunc)(m:P.underlying t=some (.func c d e)):Y P n E ⟨ρd,.binOp .neq t x y t2,ty,pos,af,g⟩ w (.bool true) w:=fun p a=>by
 obtain⟨b,o⟩:∃b,Op.maxDepth=b+1:=⟨_,rfl⟩
 simp only[execOp,a.eval j,a.eval l]
 simp[eqGuard,binOp,Op.equal,o,Op.equalIn,underlying,m]
end
section
variable{P:Program}{n:Fr}{ops:Array Oper}{Q:Exit→Act→World→Prop}{W:World→Prop}{QA:Act→Prop}{E:Env}{w:World}{rest:List Oper}{v vt:Value}{d:Nat}
variable{ty t e:TypeId}{pos:String}{af:Array Edge}{x y:Operand}{A:Nat→Prop}{α:Type}[GoT α]{B i:Nat}{L:List Ob}{l:List α}{k j:Int}{Dw:Prop}
def Tail(v vt:Value)(m:Nat)(k:Int)(sz:Nat):Prop:=∃g c,v=.slice (some ⟨g,0,none⟩) m c∧0≤k∧k<m∧m≤c∧vt=.slice (some ⟨g,k.toNat*sz,none⟩) (m-k.toNat) (c-k.toNat)
theorem zjO(m:Hp B A w L)(hi:L[i]?=some (obS (α:=α) e v l)){z:Unit}(a:zhk l k=some z)(o:P.underlying t=some (.slice e))(p:∀w,(Go.sizeOf e).run P w=.ok (GoT.cells α) w)(q:∀h,w.heap.size≤h→A h)(r:ev E x=some v)(s:ev E y=some (.int .i64 k))(u:Nat.blt d n.sz=true)(D:∀vt,Tail v vt l.length k (GoT.cells α)→V P n ops Q rest ((d,vt)::E) w):V P n ops Q (⟨some d,.slice t x (some y) none none,ty,pos,af,none⟩::rest) E w:=by{
 unfold zhk at a;split at a;case isFalse=>cases a
 rename_i hk;obtain⟨k,rfl⟩:∃F:Nat,k=(F:Int):=⟨k.toNat,by omega⟩;have j:l≠[]:=fun e=>by rw[e]at hk;simp at hk;omega
 obtain⟨g,b,_,rfl,_,c,G,_⟩:=Hp.openS m hi j q;have f:=zmx (P:=P) (nn:=n) (E:=E) (ty:=ty) (pos:=pos) (af:=af) (ρd:=some d) (gd:=none) (w:=w) (g:=g) (len:=l.length) (cap:=b) (lo:=k) (sz:=GoT.cells α) (by omega) c o p r s;rw[if_pos (by omega)]at f;refine V_y f rfl rfl u (D _ ⟨g,b,rfl,by omega,by omega,c,?_⟩);rw[Int.toNat_natCast]}
theorem zlP{ρd:Option Nat}{gd:Option (Nat×Bool)}{m sz:Nat}(a:Tail v vt m k sz)(b:P.underlying t=some (.slice e))(c:ev E x=some vt):Y P n E ⟨ρd,.call ⟨.builtin .len,#[x],#[t]⟩,ty,pos,af,gd⟩ w (.int .i64 ((m:Int)-k)) w:=by{
 obtain⟨g,h,_,d,f,_,rfl⟩:=a;have e:((m:Int)-k)=((m-k.toNat:Nat):Int):=by omega
 rw[e];exact zhq rfl b c}
theorem zkx(s:Hp B A w L)(hi:L[i]?=some (obS (α:=α) e v l)){m:Nat}(u:Tail v vt m k (GoT.cells α)){el:α}(a:idxT l k j=some el)(z:P.underlying t=some (.slice e))(D:∀w,(Go.sizeOf e).run P w=.ok (GoT.cells α) w)(F:ev E x=some vt)(G:ev E y=some (.int .i64 j)):∃b off,El (fun _=>True) w b off el∧Loc v b off (k+j) (GoT.cells α)∧∀(w':World) (ρd:Option Nat) (gd:Option (Nat×Bool)),Y P n E ⟨ρd,.indexAddr t x y,ty,pos,af,gd⟩ w' (.pointer (some ⟨b,off,none⟩)) w':=by{
 unfold idxT at a;split at a;case isFalse=>cases a
 rename_i hc;obtain⟨R,S,c⟩:=QE a;obtain⟨g,a1,rfl,T,U,W,rfl⟩:=u;rcases (Hp.any s hi:Sl (fun _=>True) w _ l)with ⟨_,_,d,f,_⟩|⟨b,off,N,X,d,H,p,O,Q,o,q⟩
 rw[f]at c;simp at c;simp only[Value.slice.injEq,Option.some.injEq,Addr.mk.injEq,and_true]at d;obtain⟨⟨rfl,rfl⟩,rfl,rfl⟩:=d;obtain⟨Z,I,a0,rfl,f,J⟩:=o.at c;have K:(k+j).toNat=k.toNat+j.toNat:=by omega
 refine⟨_,0+(k+j).toNat*GoT.cells α,⟨H,p,I,J,?_⟩,⟨⟨_,_,rfl⟩,by rw[Nat.zero_add]⟩,fun w' ρd gd a2 h=>?_⟩;rw[← f];exact q.right.left;simp only[execOp,h.eval F,h.eval G,Instr.indexAt,asIntOf];have r:j<((l.length-k.toNat:Nat):Int):=by omega
 have M:k.toNat*GoT.cells α+j.toNat*GoT.cells α=(k+j).toNat*GoT.cells α:=by rw[K,Nat.add_mul]
 simp[underlying,z,D,hc,r,zdZ,M]}
theorem zjk(b:Hp B A w L)(hi:L[i]?=some (obS (α:=α) e v l)){m:Nat}(c:Tail v vt m k (GoT.cells α)){el:α}(f:idxT l k j=some el)(g:P.underlying t=some (.slice e))(h:∀w,(Go.sizeOf e).run P w=.ok (GoT.cells α) w)(o:ev E x=some vt)(p:ev E y=some (.int .i64 j))(q:Nat.blt d n.sz=true)(z:∀a off,El (fun _=>True) w a off el→Loc v a off (k+j) (GoT.cells α)→V P n ops Q rest ((d,.pointer (some ⟨a,off,none⟩))::E) w):
  V P n ops Q (⟨some d,.indexAddr t x y,ty,pos,af,none⟩::rest) E w:=by{obtain⟨a,off,r,s,u⟩:=zkx (n:=n) (ty:=ty) (pos:=pos) (af:=af) b hi c f g h o p;exact V_y (u w _ _) rfl rfl q (z a off r s)}
theorem zfl(b:Hp B A w L)(hi:L[i]?=some (obS (α:=α) e v l)){m:Nat}(c:Tail v vt m k (GoT.cells α)){el:α}(f:idxT l k j=some el)(g:P.underlying t=some (.slice e))(h:∀w,(Go.sizeOf e).run P w=.ok (GoT.cells α) w)(o:ev E x=some vt)(p:ev E y=some (.int .i64 j))(q:Nat.blt d n.sz=true)(D:∀a off,El (fun _=>True) w a off el→Loc v a off (k+j) (GoT.cells α)→VQ P n ops W QA rest ((d,.pointer (some ⟨a,off,none⟩))::E)):
  VQ P n ops W QA (⟨some d,.indexAddr t x y,ty,pos,af,none⟩::rest) E:=by{obtain⟨a,off,r,s,u⟩:=zkx (n:=n) (ty:=ty) (pos:=pos) (af:=af) b hi c f g h o p;exact VQ_y (fun z _=>u z _ _) rfl rfl q (D a off r s)}
end
end Go.Gw
