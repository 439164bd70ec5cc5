import Derived.Test.YtcnidlpginehjaaGreatGv
import Derived.Test.YtcnidlpginehjaaGreatGe
import Derived.Lib.AppendZerosOnto
import Derived.Lib.Overlaps
namespace Go.Gw
open Go Go.RowKit Go.Pu
variable{Dw:Prop}
set_option linter.unusedSimpArgs false
set_option linter.unusedVariables false
section open_close
variable{α:Type}[GoT α]{e:TypeId}{v:Value}{l:List α}{A:Nat→Prop}{w:World}{B:Nat}{L:List Ob}{i:Nat}
theorem Mv.self(b:∀a,w.heap.size≤a→A a):Mv Dw B A w A w none := .kp (Kp.refl _) b
theorem Hp.closeS{g cap:Nat}{b:Array Value}(h:Hp B A w L)(hi:L[i]?=some (obO g (.cells b e (0,0))))(j:∀a,w.heap.size≤a→A a)(k:l.length≤cap)(m:cap≤maxLen)(n:b.size=cap*GoT.cells α)(o:repL A w (b.toList.take (l.length*GoT.cells α)) l):
  Hp B A w (L.set i (obS e (.slice (some ⟨g,0,none⟩) l.length cap) l)):=by{obtain⟨q,⟨rfl,hp⟩,d,f⟩:=h.at hi;exact f A w none _ [g] (Mv.self (Dw:=True) j) (fun r p=>by cases p) (.inr ⟨g,cap,b,_,rfl,rfl,hp,k,m,n,o,rfl⟩) (fun a c=>⟨.inl c,(d a c).1,(d a c).2.2⟩)}
end open_close
section steps
variable{P:Program}{n:Fr}{ops:Array Oper}{Q:Exit→Act→World→Prop}{E:Env}{w:World}{rest:List Oper}{d:Nat}
variable{ty t t2 e:TypeId}{pos:String}{af:Array Edge}{x y z:Operand}{A:Nat→Prop}{ρd:Option Nat}{gd:Option (Nat×Bool)}{B:Nat}{L:List Ob}{i:Nat}
theorem zjv{a:Option Addr}{len cap:Nat}{b:Array TypeId}(c:b[0]?=some t)(d:P.underlying t=some (.slice e))(f:ev E x=some (.slice a len cap)):
  Y P n E ⟨ρd,.call ⟨.builtin .cap,#[x],b⟩,ty,pos,af,gd⟩ w (.int .i64 cap) w:=fun a g=>by
 simp[execOp,resolve,invoke,builtin,g.eval f,Builtin.cap_,c,underlying,d,goInt]
theorem zjW{k:IntKind}{g len cap hi sz:Nat}(i:hi≤cap)(b:P.underlying t=some (.slice e))(c:∀w,(Go.sizeOf e).run P w=.ok sz w)(d:ev E x=some (.slice (some ⟨g,0,none⟩) len cap))(f:ev E z=some (.int k (hi:Int))):Y P n E ⟨ρd,.slice t x none (some z) none,ty,pos,af,gd⟩ w (.slice (some ⟨g,0,none⟩) hi cap) w:=by{
 intro j a;have h:¬cap<hi:=by omega
 simp[execOp,a.eval d,a.eval f,Instr.sliceAt,Instr.slice,Instr.sliceBounds,Instr.sliceBound,asIntOf,underlying,b,c,h,Addr.add]}
end steps
section rows
variable{α:Type}[GoT α]{A:Nat→Prop}{w:World}{B:Nat}{L:List Ob}{i j:Nat}{e:TypeId}{v:Value}{l:List α}
theorem zgX(O X:Ob):∀{L:List Ob} {i:Nat},i<L.length→(O::L.set i X).Perm (X::L.set i O)
 | [],_,h=>by simp at h
 | x::L,0,_=>.swap _ _ _
 | x::L,i+1,h=>((List.Perm.swap _ _ _).trans ((zgX O X (by simpa using h)).cons x)).trans (.swap _ _ _)
theorem Hp.takes{a X:Ob}(b:Hp B A w (a::L.set i X))(c:i<L.length):Hp B A w (L.set i a):=by{have:=(b.perm (zgX a X c)).drop (i:=0) rfl;exact this}
variable{V:Type}{X ds cs1 X1 R R1:List V}{p q nn:Nat}
end rows
end Go.Gw
