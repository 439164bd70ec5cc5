import Derived.Test.YtligccioljhapaaGreatDoorGv
import Derived.Test.YtligccioljhapaaGreatDoorGe
import Derived.Lib.AppendZerosOnto
import Derived.Lib.Overlaps
namespace Go.Gw
open Go Go.RowKit Go.Pu
variable{Dw:Prop}
set_option linter.unusedSimpArgs false
set_option linter.unusedVariables false
section open_close
variable{α:Type}[GoT α]{e:TypeId}{v:Value}{l:List α}{A:Nat→Prop}{w:World}{B:Nat}{L:List Ob}{i:Nat}
theorem Mv.self(b:∀a,w.heap.size≤a→A a):Mv Dw B A w A w none := .kp (Kp.refl _) b
theorem Hp.openS(j:Hp B A w L)(hi:L[i]?=some (obS e v l))(m:l≠[])(n:∀c,w.heap.size≤c→A c):
  ∃d a b,v=.slice (some ⟨d,0,none⟩) l.length a∧Hp B A w (L.set i (obO d (.cells b e (0,0))))∧l.length≤a∧a≤maxLen∧b.size=a*GoT.cells α∧repL A w (b.toList.take (l.length*GoT.cells α)) l:=by{obtain⟨y,hp,g,h⟩:=j.at hi;rcases hp with ⟨_,rfl,_⟩|⟨d,a,b,x,rfl,rfl,o,p,q,r,s,t⟩;exact absurd rfl m;exact⟨d,a,b,rfl,h A w none _ [d] (Mv.self (Dw:=True) n) (fun k u=>by cases u) ⟨rfl,o⟩ (fun c f=>⟨.inl f,(g c f).1,(g c f).2.2⟩),p,q,r,by rw[t];exact s⟩}
theorem Hp.closeS{g cap:Nat}{b:Array Value}(h:Hp B A w L)(hi:L[i]?=some (obO g (.cells b e (0,0))))(j:∀a,w.heap.size≤a→A a)(m:l.length≤cap)(n:cap≤maxLen)(o:b.size=cap*GoT.cells α)(p:repL A w (b.toList.take (l.length*GoT.cells α)) l):
  Hp B A w (L.set i (obS e (.slice (some ⟨g,0,none⟩) l.length cap) l)):=by{obtain⟨r,⟨rfl,hp⟩,d,f⟩:=h.at hi;exact f A w none _ [g] (Mv.self (Dw:=True) j) (fun k q=>by cases q) (.inr ⟨g,cap,b,_,rfl,rfl,hp,m,n,o,p,rfl⟩) (fun a c=>⟨.inl c,(d a c).1,(d a c).2.2⟩)}
end open_close
section steps
variable{P:Program}{n:Fr}{ops:Array Oper}{Q:Exit→Act→World→Prop}{E:Env}{w:World}{rest:List Oper}{d:Nat}
variable{ty t t2 e:TypeId}{pos:String}{af:Array Edge}{x y z:Operand}{A:Nat→Prop}{ρd:Option Nat}{gd:Option (Nat×Bool)}{B:Nat}{L:List Ob}{i:Nat}
theorem zmu{a:Option Addr}{len cap:Nat}{b:Array TypeId}(c:b[0]?=some t)(d:P.underlying t=some (.slice e))(f:ev E x=some (.slice a len cap)):
  Y P n E ⟨ρd,.call ⟨.builtin .cap,#[x],b⟩,ty,pos,af,gd⟩ w (.int .i64 cap) w:=fun a g=>by
 simp[execOp,resolve,invoke,builtin,g.eval f,Builtin.cap_,c,underlying,d,goInt]
theorem zme(g o j:Nat):(⟨g,o,none⟩:Addr).add j=⟨g,o+j,none⟩:=by unfold Addr.add;split <;> simp_all
theorem zlx{k:IntKind}{g o len cap lo sz:Nat}(b:lo≤len)(j:lo<cap)(c:len≤cap)(d:P.underlying t=some (.slice e))(f:∀w,(Go.sizeOf e).run P w=.ok sz w)(h:ev E x=some (.slice (some ⟨g,o,none⟩) len cap))(i:ev E y=some (.int k (lo:Int))):Y P n E ⟨ρd,.slice t x (some y) none none,ty,pos,af,gd⟩ w (.slice (some ⟨g,o+lo*sz,none⟩) (len-lo) (cap-lo)) w:=by{have a:=zcW (P:=P) (n:=n) (E:=E) (ty:=ty) (pos:=pos) (af:=af) (ρd:=ρd) (g:=gd) (w:=w) (sz:=sz) (v := .slice (some ⟨g,o,none⟩) len cap) (lo:=(lo:Int)) (k:=k) ⟨some ⟨g,o,none⟩,len,cap,lo,len,rfl,rfl,rfl,b,Nat.le_refl _,c,rfl⟩ d f h i;rw[if_neg (by omega),show (some (⟨g,o,none⟩:Addr)).map (·.add (lo*sz))=some ⟨g,o+lo*sz,none⟩ from congrArg some (zme g o (lo*sz))]at a;exact a}
theorem zlh{k:IntKind}{g len cap hi sz:Nat}(i:hi≤cap)(b:P.underlying t=some (.slice e))(c:∀w,(Go.sizeOf e).run P w=.ok sz w)(d:ev E x=some (.slice (some ⟨g,0,none⟩) len cap))(f:ev E z=some (.int k (hi:Int))):Y P n E ⟨ρd,.slice t x none (some z) none,ty,pos,af,gd⟩ w (.slice (some ⟨g,0,none⟩) hi cap) w:=by{
 intro j a;have h:¬cap<hi:=by omega
 simp[execOp,a.eval d,a.eval f,Instr.sliceAt,Instr.slice,Instr.sliceBounds,Instr.sliceBound,asIntOf,underlying,b,c,h,Addr.add]}
end steps
section rows
variable{α:Type}[GoT α]{A:Nat→Prop}{w:World}{B:Nat}{L:List Ob}{i j:Nat}{e:TypeId}{v:Value}{l:List α}
theorem Hp.ne{e O':Ob}(m:Hp B A w L)(hi:L[i]?=some e)(d:L[j]?=some O')(r:i≠j):∃b a,e.P b A w∧O'.P a A w∧∀c∈b,c∉a:=by{
 obtain⟨s,⟨b,t,_,n,hp,o⟩,_⟩:=m.front hi
 obtain⟨k,p⟩:∃k,(L.eraseIdx i)[k]?=some O':=by
  rcases Nat.lt_or_ge j i with f|f
  exact⟨j,by rw[List.getElem?_eraseIdx_of_lt f];exact d⟩
  exact⟨j-1,by rw[List.getElem?_eraseIdx_of_ge (by omega),show j-1+1=j by omega];exact d⟩
 obtain⟨a,h,g,_⟩:=o.at p;exact⟨b,a,hp,h,fun c q l=>n c q (g c l)⟩}
theorem zjm(O X:Ob):∀{L:List Ob} {i:Nat},i<L.length→(O::L.set i X).Perm (X::L.set i O)
 | [],_,h=>by simp at h
 | x::L,0,_=>.swap _ _ _
 | x::L,i+1,h=>((List.Perm.swap _ _ _).trans ((zjm O X (by simpa using h)).cons x)).trans (.swap _ _ _)
theorem Hp.takes{a X:Ob}(b:Hp B A w (a::L.set i X))(c:i<L.length):Hp B A w (L.set i a):=by{have:=(b.perm (zjm a X c)).drop (i:=0) rfl;exact this}
variable{V:Type}{X ds cs1 X1 R R1:List V}{p q nn:Nat}
end rows
end Go.Gw
