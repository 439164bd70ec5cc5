import Derived.Test.YtdpmeckhhcjoiaaGreatDoorGt
namespace Go.Gw
open Go Go.RowKit Go.Pu
variable{Dw:Prop}
set_option linter.unusedSimpArgs false
set_option linter.unusedVariables false
def zlr(U:List Nat)(w0:World)(L:List Ob):Ob where
 P f A w:=f=U∧Sp A w L U∧∀b∈U,w.heap[b]?=w0.heap[b]?
 keep h he hb:=by
  obtain⟨rfl,h1,h2⟩:=h
  exact⟨rfl,h1.keep he hb,fun b hm=>(hb b hm).trans (h2 b hm)⟩
 lt h:=by
  obtain⟨rfl,h1,_⟩:=h
  exact h1.lt
section
variable{B:Nat}{A A1:Nat→Prop}{w w0 w1:World}{L:List Ob}{O:Ob}{U:List Nat}{i k:Nat}
theorem Hp.fix(i:Hp B A w (O::L)):∃U,Sp A w L U∧(∀a∈U,B≤a∧a<w.heap.size∧¬A a)∧Hp B A w [O,zlr U w L]:=by{obtain⟨V,⟨f,b,rfl,e,g,c⟩,d⟩:=i;exact⟨b,c,fun a h=>d a (List.mem_append_right _ h),f++b,⟨f,b,rfl,e,g,b, [],by simp,by simp,⟨rfl,c,fun _ _=>rfl⟩,rfl⟩,d⟩}
theorem Hp.unfix(i:Hp B A w (O::[zlr U w0 L])):Hp B A w (O::L)∧∀d∈U,w.heap[d]?=w0.heap[d]?:=by{obtain⟨V,⟨f,k,rfl,a,e,b,j,rfl,_,⟨rfl,g,h⟩,rfl⟩,c⟩:=i;rw[List.append_nil]at a c;exact⟨⟨f++b,⟨f,b,rfl,a,e,g⟩,c⟩,h⟩}
theorem Hp.held(e:Sp A w L U)(c:∀a∈U,B≤a∧a<w.heap.size∧¬A a)(d:XA (fun a=>A a∨a∈U) w w1):Hp B A w1 L :=
 ⟨U,e.keep (d.less fun _ _=>.inl).ex fun a b=>d.2 a (c a b).2.1 (.inr b),fun a b=>⟨(c a b).1,Nat.lt_of_lt_of_le (c a b).2.1 d.1,(c a b).2.2⟩⟩
theorem XA.fix(b:XA A w w1)(c:∀a∈U,w1.heap[a]?=w.heap[a]?):XA (fun a=>A a∨a∈U) w w1 :=
 ⟨b.1,fun a d e=>e.elim (b.2 a d) (c a)⟩
theorem znZ{A A':Nat→Prop}{w w':World}:∀{l:List Ptr} {cs:List Value},repL A w cs l→repL A' w' cs l
 | [],_,h=>h
 | _::_,_,⟨c1,c2,e,h,hr⟩=>⟨c1,c2,e,h,znZ hr⟩
variable{γ:Type}{f:Nat→γ→Ob}{e:TypeId}{v:Value}{cs:List γ}{c:γ}
theorem Sp.px{b:Nat}(t:Sp A w L U)(hi:L[i]?=some (obPX f e v cs k b)):∃a:List Ptr,a[k]?=some ⟨b⟩∧Sl (fun d=>d∈U) w v a:=by{obtain⟨x,m,j,_⟩:=t.at hi;obtain⟨a,y,z,rfl,_,⟨_,_,g⟩,B,D,rfl,_,n,_⟩:=m;refine⟨a,g,?_⟩;rcases n with ⟨_,rfl,_⟩|⟨d,l,u,o,rfl,rfl,h,p,q,E,r,s⟩;simp at g;refine .inr ⟨d,0,l,o,rfl,j d (by simp),(Array.getElem?_eq_some_iff.1 h).1,p,q,znZ r,?_⟩;intro F G c;subst s;rw[List.getElem?_take]at c;split at c;simp only[World.cell?,h,Nat.zero_add];simpa using c;cases c}
theorem Hp.psFix{b:Int}(s:Hp B A w L)(hi:L[i]?=some (obPS f e v cs))(k:idx cs b=some c):
  ∃(a:Nat) (d:List Ptr) (U:List Nat),cs[b.toNat]?=some c∧idx d b=some ⟨a⟩∧Sl (fun t=>t∈U) w v d∧Sp A w (L.set i (obPX f e v cs b.toNat a)) U∧(∀g∈U,B≤g∧g<w.heap.size∧¬A g)∧Hp B A w [f a c,zlr U w (L.set i (obPX f e v cs b.toNat a))]:=by{obtain⟨n,u,h⟩:=zed k;obtain⟨a,_,_,_,_,o⟩:=s.psOpen hi h;obtain⟨U,j,p,q⟩:=o.fix;have l:i<L.length:=(List.getElem?_eq_some_iff.1 hi).1;obtain⟨d,r,m⟩:=j.px (i:=i) (by rw[List.getElem?_set_self l]);exact⟨a,d,U,h,by unfold idx;rw[if_pos n];exact r,m,j,p,q⟩}
end
end Go.Gw
