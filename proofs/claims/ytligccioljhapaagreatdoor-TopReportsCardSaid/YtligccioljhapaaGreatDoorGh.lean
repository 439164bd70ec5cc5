import Derived.Test.YtligccioljhapaaGreatDoorGx
import Derived.RangeFuncRecord
namespace Go.Gw
open Go Go.RowKit Go.Pu
variable{Dw:Prop}
set_option linter.unusedSimpArgs false
set_option linter.unusedVariables false
structure Ob where
 P:List Nat→(Nat→Prop)→World→Prop
 keep:∀{f A w A' w'},P f A w→Ex A w A' w'→(∀b∈f,w'.heap[b]?=w.heap[b]?)→P f A' w'
 lt:∀{f A w},P f A w→∀b∈f,b<w.heap.size
def Sp(A:Nat→Prop)(w:World):List Ob→List Nat→Prop
 | [],U=>U=[]
 | O::L,U=>∃f g,U=f++g∧(∀b∈f,b∉g)∧O.P f A w∧Sp A w L g
theorem Sp.keep{A A':Nat→Prop}{w w':World}(d:Ex A w A' w'):∀{L:List Ob} {b:List Nat},Sp A w L b→(∀a∈b,w'.heap[a]?=w.heap[a]?)→Sp A' w' L b
 | [],_,h,_=>h
 | O::L,b,h,hu=>by
  obtain⟨f,g,rfl,hd,hp,hs⟩:=h
  exact⟨f,g,rfl,hd,O.keep hp d (fun a c=>hu a (List.mem_append_left _ c)),hs.keep d (fun a c=>hu a (List.mem_append_right _ c))⟩
theorem Sp.lt{A:Nat→Prop}{w:World}:∀{L:List Ob} {c:List Nat},Sp A w L c→∀a∈c,a<w.heap.size
 | [],_,h,a,hb=>by rw[Sp]at h;subst h;cases hb
 | O::L,c,h,a,hb=>by
  obtain⟨f,g,rfl,hd,hp,hs⟩:=h
  rcases List.mem_append.1 hb with b|b
  ·exact O.lt hp a b
  ·exact hs.lt a b
theorem Sp.at{A:Nat→Prop}{w:World}:∀{L:List Ob} {l:List Nat} {i:Nat} {O:Ob},Sp A w L l→L[i]?=some O→
  ∃d,O.P d A w∧(∀a∈d,a∈l)∧
   (∀A1 w1 q m,Ex A w A1 w1→(∀a∈l,a∉d→w1.heap[a]?=w.heap[a]?)→q.P m A1 w1→(∀a∈m,a∈d∨a∉l)→∃f,Sp A1 w1 (L.set i q) f∧∀a∈f,a∈m∨(a∈l∧a∉d))∧
   (∀A1 w1,Ex A w A1 w1→(∀a∈l,a∉d→w1.heap[a]?=w.heap[a]?)→∃f,Sp A1 w1 (L.eraseIdx i) f∧∀a∈f,a∈l∧a∉d)
 | [],_,_,_,_,hi=>by simp at hi
 | O::L,l,0,O0,e,hi=>by
  simp only[List.getElem?_cons_zero,Option.some.injEq]at hi
  subst hi
  obtain⟨d,u,rfl,g,hp,r⟩:=e
  refine⟨d,hp,fun a b=>List.mem_append_left _ b,fun A1 w1 q m h j v s=>⟨m++u,⟨m,u,rfl,fun a b t=>?_,v,r.keep h fun a b=>j a (List.mem_append_right _ b) fun e=>g a e b⟩,fun a b=>?_⟩,fun A1 w1 h j=>⟨u,r.keep h fun a b=>j a (List.mem_append_right _ b) fun e=>g a e b,fun a b=>⟨List.mem_append_right _ b,fun e=>g a e b⟩⟩⟩
  ·rcases s a b with c|c
   ·exact g a c t
   ·exact c (List.mem_append_right _ t)
  ·rcases List.mem_append.1 b with c|c
   ·exact .inl c
   ·exact .inr ⟨List.mem_append_right _ c,fun e=>g a e c⟩
 | O::L,l,i+1,O0,e,hi=>by
  simp only[List.getElem?_cons_succ]at hi
  obtain⟨d,u,rfl,g,hp,r⟩:=e
  obtain⟨D,G,B,E,F⟩:=r.at hi
  have p:∀a∈d,a∉D:=fun a b e=>g a b (B a e)
  refine⟨D,G,fun a b=>List.mem_append_right _ (B a b),fun A1 w1 q m h j v s=>?_,fun A1 w1 h j=>?_⟩
  ·obtain⟨f,y,o⟩:=E A1 w1 q m h (fun a b x=>j a (List.mem_append_right _ b) x) v (fun a b=>(s a b).imp id fun e t=>e (List.mem_append_right _ t))
   refine⟨d++f,⟨d,f,rfl,fun a b z=>?_,O.keep hp h (fun a b=>j a (List.mem_append_left _ b) (p a b)),y⟩,fun a b=>?_⟩
   ·rcases o a z with c|c
    ·rcases s a c with n|n
     ·exact p a b n
     ·exact n (List.mem_append_left _ b)
    ·exact g a b c.1
   ·rcases List.mem_append.1 b with c|c
    ·exact .inr ⟨List.mem_append_left _ c,p a c⟩
    ·rcases o a c with n|n
     ·exact .inl n
     ·exact .inr ⟨List.mem_append_right _ n.1,n.2⟩
  ·obtain⟨f,y,o⟩:=F A1 w1 h (fun a b x=>j a (List.mem_append_right _ b) x)
   refine⟨d++f,⟨d,f,rfl,fun a b z=>g a b (o a z).1,O.keep hp h (fun a b=>j a (List.mem_append_left _ b) (p a b)),y⟩,fun a b=>?_⟩
   rcases List.mem_append.1 b with c|c
   ·exact⟨List.mem_append_left _ c,p a c⟩
   ·exact⟨List.mem_append_right _ (o a c).1,(o a c).2⟩
theorem Sp.append{A:Nat→Prop}{w:World}:∀{L M:List Ob} {i:List Nat},Sp A w (L++M) i↔∃b j,i=b++j∧(∀a∈b,a∉j)∧Sp A w L b∧Sp A w M j
 | [],M,i=>⟨fun l=>⟨[],i,rfl,by simp,rfl,l⟩,fun⟨b,j,p,_,e,f⟩=>by rw[Sp]at e;subst e;subst p;exact f⟩
 | O::L,M,i=>by
  constructor
  ·rintro⟨b,j,rfl,g,hp,hs⟩
   obtain⟨h,m,rfl,n,e,f⟩:=Sp.append.1 hs
   refine⟨b++h,m,by simp,fun a c o=>?_,⟨b,h,rfl,fun a c l=>g a c (List.mem_append_left _ l),hp,e⟩,f⟩
   rcases List.mem_append.1 c with d|d
   ·exact g a d (List.mem_append_right _ o)
   ·exact n a d o
  ·rintro⟨_,m,rfl,g,⟨b,h,rfl,n,hp,e⟩,f⟩
   refine⟨b,h++m,by simp,fun a c l=>?_,hp,Sp.append.2 ⟨h,m,rfl,fun a c=>g a (List.mem_append_right _ c),e,f⟩⟩
   rcases List.mem_append.1 l with d|d
   ·exact n a c d
   ·exact g a (List.mem_append_left _ c) d
def Hp(B:Nat)(A:Nat→Prop)(w:World)(L:List Ob):Prop:=∃U,Sp A w L U∧∀b∈U,B≤b∧b<w.heap.size∧¬A b
section
variable{B:Nat}{A A1:Nat→Prop}{w w1:World}{L M:List Ob}{O:Ob}{i:Nat}
theorem Hp.nil:Hp B A w []:=⟨[],rfl,fun _ a=>by cases a⟩
theorem Hp.kp(f:Hp B A w L)(d:Kp Dw w w1):Hp B A w1 L:=by{obtain⟨g,e,c⟩:=f;exact⟨g,e.keep (.kp d) fun a b=>d.block a (c a b).2.1,fun a b=>⟨(c a b).1,Nat.lt_of_lt_of_le (c a b).2.1 d.size,(c a b).2.2⟩⟩}
theorem Hp.lower{a:Nat}(f:Hp a A w L)(hB:B≤a):Hp B A w L:=by{obtain⟨g,e,b⟩:=f;exact⟨g,e,fun d c=>⟨Nat.le_trans hB (b d c).1,(b d c).2⟩⟩}
theorem Hp.at(y:Hp B A w L)(hi:L[i]?=some O):∃d,O.P d A w∧(∀a∈d,B≤a∧a<w.heap.size∧¬A a)∧
  ∀{Dw:Prop} A1 w1 j g h,Mv Dw B A w A1 w1 j→(∀k,j=some k→k∈d)→g.P h A1 w1→(∀a∈h,(a∈d∨w.heap.size≤a)∧B≤a∧¬A1 a)→Hp B A1 w1 (L.set i g):=by{
 obtain⟨z,v,f⟩:=y;obtain⟨d,hp,q,r,_⟩:=v.at hi;refine⟨d,hp,fun a c=>f a (q a c),fun A1 w1 j g h n s t l=>?_⟩
 obtain⟨x,p,o⟩:=r A1 w1 g h n.ex (fun a c u=>n.blk a (f a c).2.1 fun e=>u (s a e.symm)) t (fun a c=>by
  rcases (l a c).1 with b|b
  exact .inl b
  exact .inr fun m=>by have:=(f a m).2.1;omega)
 refine⟨x,p,fun a c=>⟨?_,p.lt a c,?_⟩⟩;rcases o a c with b|b;exact (l a b).2.1;exact (f a b.1).1;rcases o a c with b|b;exact (l a b).2.2;exact fun m=>(f a b.1).2.2 (n.sub a m)}
theorem Hp.new{f':List Nat}{O':Ob}(l:Hp B A w L)(m:Mv Dw B A w A1 w1 none)(hB:B≤w.heap.size)(h:O'.P f' A1 w1)(f:∀a∈f',w.heap.size≤a∧¬A1 a):Hp B A1 w1 (O'::L):=by{obtain⟨i,j,c⟩:=l;refine⟨f'++i,⟨f',i,rfl,fun a d g=>?_,h,j.keep m.ex fun a d=>m.blk a (c a d).2.1 (fun e=>by cases e)⟩,fun a d=>?_⟩;have:=(f a d).1;have:=(c a g).2.1;omega;rcases List.mem_append.1 d with b|b;exact⟨Nat.le_trans hB (f a b).1,O'.lt h a b,(f a b).2⟩;exact⟨(c a b).1,Nat.lt_of_lt_of_le (c a b).2.1 m.size,fun g=>(c a b).2.2 (m.sub a g)⟩}
theorem Hp.free{O':Ob}(e:Hp B A w L)(b:O'.P [] A w):Hp B A w (O'::L):=by{obtain⟨a,c,d⟩:=e;exact⟨a,⟨[],a,rfl,by simp,b,c⟩,d⟩}
theorem Hp.drop(a:Hp B A w L)(hi:L[i]?=some O):Hp B A w (L.eraseIdx i):=by{obtain⟨m,e,f⟩:=a;obtain⟨n,hp,l,_,c⟩:=e.at hi;obtain⟨g,h,d⟩:=c A w ⟨Nat.le_refl _,fun _ _ a=>⟨a,rfl⟩⟩ (fun _ _ _=>rfl);exact⟨g,h,fun b j=>f b (d b j).1⟩}
theorem Hp.frz(b:Hp B A w L)(hi:L[i]?=some O)(j:∀a,w.heap.size≤a→A a):∃(A1:Nat→Prop) (f:List Nat),O.P f A w∧(∀a∈f,A1 a∧a<w.heap.size)∧(∀k,A k→A1 k)∧Tr Dw B A w A1 w∧Hp B A1 w (L.eraseIdx i):=by{obtain⟨p,l,d⟩:=b;obtain⟨f,hp,g,_,h⟩:=l.at hi;refine⟨fun k=>A k∨k∈f,f,hp,fun a c=>⟨.inr c,(d a (g a c)).2.1⟩,fun _ b=>.inl b,⟨⟨Nat.le_refl _,fun _ _ b=>⟨.inl b,rfl⟩⟩,Bel.refl _ _,fun k m=>m.imp id fun b=>(d k (g k b)).1,fun a c=>.inl (j a c)⟩,?_⟩;obtain⟨n,o,e⟩:=h (fun k=>A k∨k∈f) w ⟨Nat.le_refl _,fun _ _ b=>⟨.inl b,rfl⟩⟩ (fun _ _ _=>rfl);exact⟨n,o,fun a c=>⟨(d a (e a c).1).1,(d a (e a c).1).2.1,fun b=>b.elim (d a (e a c).1).2.2 (e a c).2⟩⟩}
theorem Hp.perm{n:List Ob}(d:Hp B A w L)(hp:L.Perm n):Hp B A w n:=by{
 obtain⟨j,b,o⟩:=d
 have s:∃h,Sp A w n h∧∀a,a∈h↔a∈j:=by
  clear o
  induction hp generalizing j with
  | nil=>exact⟨j,b,fun _=>Iff.rfl⟩
  | cons x _ ih =>
   obtain⟨e,g,rfl,i,hp,b⟩:=b
   obtain⟨p,m,q⟩:=ih g b
   exact⟨e++p,⟨e,p,rfl,fun a c d=>i a c ((q a).1 d),hp,m⟩,fun a=>by simp[q]⟩
  | swap x y l =>
   obtain⟨e,_,rfl,i,hp,⟨r,g,rfl,t,u,b⟩⟩:=b
   refine⟨r++(e++g),⟨r,e++g,rfl,fun a c d=>?_,u,⟨e,g,rfl,fun a c d=>i a c (List.mem_append_right _ d),hp,b⟩⟩,fun a=>by simp;grind⟩
   rcases List.mem_append.1 d with f|f
   exact i a f (List.mem_append_left _ c)
   exact t a c f
  | trans _ _ ih1 ih2 =>
   obtain⟨U1,f,v⟩:=ih1 j b
   obtain⟨U2,z,D⟩:=ih2 U1 f
   exact⟨U2,z,fun a=>(D a).trans (v a)⟩
 obtain⟨h,m,E⟩:=s;exact⟨h,m,fun a c=>o a ((E a).1 c)⟩}
theorem Hp.front(a:Hp B A w L)(hi:L[i]?=some O):Hp B A w (O::L.eraseIdx i):=by{
 refine a.perm ?_;clear a;induction L generalizing i with
 | nil=>simp at hi
 | cons x L ih =>
  cases i with
  | zero=>simp at hi;subst hi;exact .refl _
  | succ i =>
   simp at hi
   exact ((ih hi).cons x).trans (.swap _ _ _)}
end
def obO(b:Nat)(o:Obj):Ob where
 P f _ w:=f=[b]∧w.heap[b]?=some o
 keep h _ hb:=⟨h.1,by rw[hb b (by simp[h.1])];exact h.2⟩
 lt h b' hb':=by
  obtain⟨rfl,h⟩:=h
  simp at hb'
  subst hb'
  exact (Array.getElem?_eq_some_iff.1 h).1
abbrev obC(b:Nat)(cs:List Value)(t:TypeId):Ob:=obO b (.cells cs.toArray t (0,0))
def OwP{α:Type}[GoT α](e:TypeId)(A:Nat→Prop)(w:World)(v:Value)(l:List α)(f:List Nat):Prop :=
 (v=.slice none 0 0∧l=[]∧f=[])∨
 ∃g cap cur cs,v=.slice (some ⟨g,0,none⟩) l.length cap∧f=[g]∧w.heap[g]?=some (.cells cur e (0,0))∧l.length≤cap∧cap≤maxLen∧cur.size=cap*GoT.cells α∧repL A w cs l∧cur.toList.take (l.length*GoT.cells α)=cs
def obS{α:Type}[GoT α](e:TypeId)(v:Value)(l:List α):Ob where
 P f A w:=OwP e A w v l f
 keep h he hb:=by
  rcases h with h|⟨g,cap,cur,cs,rfl,rfl,h4,h5,h6,h7,h8,h9⟩
  ·exact .inl h
  ·exact .inr ⟨g,cap,cur,cs,rfl,rfl,by rw[hb g (by simp)];exact h4,h5,h6,h7,h8.keep he,h9⟩
 lt h b' hb':=by
  rcases h with ⟨_,_,rfl⟩|⟨g,cap,cur,cs,rfl,rfl,h4,h5⟩
  ·cases hb'
  ·simp at hb';subst hb';exact (Array.getElem?_eq_some_iff.1 h4).1
def obF(p:(Nat→Prop)→World→Prop)(hk:∀{A w A' w'},p A w→Ex A w A' w'→p A' w'):Ob where
 P f A w:=f=[]∧p A w
 keep h he _:=⟨h.1,hk h.2 he⟩
 lt h b hb:=by rw[h.1]at hb;cases hb
abbrev obR{α:Type}[GoT α](v:Value)(l:List α):Ob:=obF (fun A w=>Sl A w v l) (fun h he=>h.keep he)
def obE{ι:Type}(F:ι→List Ob):Ob where
 P f A w:=∃i,Sp A w (F i) f
 keep h he hb:=let ⟨i,h⟩:=h;⟨i,h.keep he hb⟩
 lt h:=let ⟨_,h⟩:=h;h.lt
section
variable{B:Nat}{A A1:Nat→Prop}{w w1:World}{L M:List Ob}{O:Ob}{i:Nat}{α:Type}[GoT α]{e:TypeId}{v:Value}{l:List α}
theorem Hp.pack{ι:Type}{F:ι→List Ob}(j:ι)(f:Hp B A w (F j++L)):Hp B A w (obE F::L):=by{obtain⟨i,a,b⟩:=f;obtain⟨g,h,rfl,c,d,e⟩:=Sp.append.1 a;exact⟨_,⟨g,h,rfl,c,⟨j,d⟩,e⟩,b⟩}
theorem Hp.open{ι:Type}{F:ι→List Ob}(f:Hp B A w (obE F::L)):∃a,Hp B A w (F a++L):=by{obtain⟨i,⟨g,h,rfl,b,⟨a,c⟩,d⟩,e⟩:=f;exact⟨a,_,Sp.append.2 ⟨g,h,rfl,b,c,d⟩,e⟩}
theorem OwP.ow{f:List Nat}(a:OwP e A w v l f)(d:∀b∈f,B≤b∧b<w.heap.size∧¬A b):Ow e B A w v l:=by{rcases a with ⟨i,j,_⟩|⟨c,g,h,m,rfl,rfl,a⟩;exact .inl ⟨i,j⟩;exact .inr ⟨c,g,h,m,rfl,(d c (by simp)).1,(d c (by simp)).2.2,a⟩}
theorem OwP.fp{f:List Nat}(a:OwP e A w v l f):f=v.ownBlock.toList:=by{rcases a with ⟨rfl,_,rfl⟩|⟨g,b,c,d,rfl,rfl,_⟩ <;> simp[Value.ownBlock]}
theorem Ow.owp(a:Ow e B A w v l):OwP e A w v l v.ownBlock.toList:=by{rcases a with ⟨rfl,rfl⟩|⟨f,b,c,d,rfl,_,_,a⟩;exact .inl ⟨rfl,rfl,by simp[Value.ownBlock]⟩;exact .inr ⟨f,b,c,d,rfl,by simp[Value.ownBlock],a⟩}
theorem Ow.off(f:Ow e B A w v l):∀b∈v.ownBlock.toList,B≤b∧¬A b:=by{intro b a;rcases f with ⟨rfl,rfl⟩|⟨j,g,h,i,rfl,c,d,_⟩;simp[Value.ownBlock]at a;simp[Value.ownBlock]at a;subst a;exact⟨c,d⟩}
theorem Hp.any(b:Hp B A w L)(hi:L[i]?=some (obS e v l):=by exact rfl):Sl (fun _=>True) w v l:=by{obtain⟨c,hp,a,_⟩:=b.at hi;exact (OwP.ow hp a).any}
theorem Hp.form(b:Hp B A w L)(hi:L[i]?=some (obS e v l)):∃c a,v=.slice c l.length a∧l.length≤maxLen:=(b.any hi).form
theorem Hp.le(a:Hp B A w L)(hi:L[i]?=some (obS e v l)):l.length≤maxLen:=let ⟨_,_,_,a⟩:=a.form hi;a
theorem Hp.addNil(a:Hp B A w L):Hp B A w (obS (α:=α) e (.slice none 0 0) []::L):=a.free (O':=obS e (.slice none 0 0) ([]:List α)) (.inl ⟨rfl,rfl,rfl⟩)
theorem Hp.freeze(a:Hp B A w L)(hi:L[i]?=some (obS e v l))(f:∀b,w.heap.size≤b→A b):∃A1:Nat→Prop,Tr Dw B A w A1 w∧Sl A1 w v l∧Hp B A1 w (L.eraseIdx i):=by{obtain⟨A1,r,hp,g,h,j,m⟩:=a.frz hi f;obtain⟨q,c,d,_⟩:=a.at hi;have n:=OwP.fp hp;refine⟨A1,j,(OwP.ow c d).sl h fun p o=>(g p (by rw[n,o];simp)).1,m⟩}
theorem Hp.cells{b:Nat}{cs:List Value}{t:TypeId}(d:Hp B A w L)(hi:L[i]?=some (obC b cs t)):At w b 0 cs∧w.heap[b]?=some (.cells cs.toArray t (0,0))∧B≤b∧¬A b:=by{obtain⟨e,⟨rfl,hp⟩,a,_⟩:=d.at hi;refine⟨fun f u c=>?_,hp,(a b (by simp)).1,(a b (by simp)).2.2⟩;simp only[World.cell?,hp,Nat.zero_add];simpa using c}
theorem Hp.cell{b j:Nat}{cs:List Value}{t:TypeId}{u:Value}(c:Hp B A w L)(hi:L[i]?=some (obC b cs t))(a:cs[j]?=some u):w.cell? ⟨b,j,none⟩=some u:=by{have:=(c.cells hi).1 j u a;rwa[Nat.zero_add]at this}
theorem Hp.part{b off n:Nat}{cs ds:List Value}{t:TypeId}(d:Hp B A w L)(hi:L[i]?=some (obC b cs t))(c:(cs.drop off).take n=ds):At w b off ds:=by{
 intro e u a
 have:=(d.cells hi).1 (off+e) u (by
  subst c
  rw[List.getElem?_take]at a
  split at a
  rwa[List.getElem?_drop]at a
  cases a)
 rwa[Nat.zero_add]at this}
theorem Hp.el{b:Nat}{cs:List Value}{t:TypeId}{x:α}(e:Hp B A w L)(hi:L[i]?=some (obC b cs t))(a:GoT.rep (fun _=>True) w cs x):El (fun _=>True) w b 0 x:=by{obtain⟨c,d,_⟩:=e.cells hi;exact⟨trivial,(Array.getElem?_eq_some_iff.1 d).1,cs,a,c⟩}
end
section steps
variable{P:Program}{n:Fr}{ops:Array Oper}{Q:Exit→Act→World→Prop}{E:Env}{w:World}{rest:List Oper}{v u:Value}{d:Nat}
variable{ty t e:TypeId}{pos:String}{af:Array Edge}{x y z:Operand}{A:Nat→Prop}{α:Type}[GoT α]{B:Nat}{L:List Ob}{i:Nat}
theorem zli{l m r:List α}{lim bytes:Nat}{ti:TypeInfo}{g:Value}(J:Hp B A w L)(hi:L[i]?=some (obS e v l))(K:Sl A w u m)(M:zE lim l m=some r)(N:P.underlying t=some (.slice e))(s:P.info? e=some ti)(O:ti.zero=some g)(o:ti.size=GoT.cells α)(z:ti.bytes=bytes)(D:g.cells.size=GoT.cells α)(F:GoT.cells α≠0)(p:lim*bytes≤140737488355328)(G:lim≤maxLen)(hB:B≤w.heap.size)(R:∀a,w.heap.size≤a→A a)(S:ev E x=some v)(T:ev E y=some u)(U:Nat.blt d n.sz=true)(X:∀b w1 A1,Hp B A1 w1 (L.set i (obS e b r))→Tr Dw B A w A1 w1→V P n ops Q rest ((d,b)::E) w1):
  V P n ops Q (⟨some d,.call ⟨.builtin .append,#[x,y],#[t,t]⟩,ty,pos,af,none⟩::rest) E w:=by{
 obtain⟨Z,hp,c,q⟩:=J.at hi;have h:=OwP.fp hp;refine zjt (OwP.ow hp c) K M N s O o z D F p G hB R S T U fun b w1 A1 j mv H=>X b w1 A1 (q A1 w1 v.ownBlock _ _ mv (fun k W=>by rw[h,W];simp) j.owp fun a c=>⟨?_,j.off a c⟩) (mv.tr hB);have I:b.ownBlock=some a:=by simpa using c
 rw[h];rcases H a I with f|f;exact .inl (by rw[f];simp);exact .inr f}
theorem zca{b:α}{k:Int}{q s:IntKind}{r:List α}{lim bytes:Nat}{ti:TypeInfo}{c:Value}(u:Hp B A w L)(z:ji lim k b=some r)(j:∀(A:Nat→Prop) (w:World),GoT.rep A w c.cells.toList b)(D:P.underlying t=some (.slice e))(l:P.info? e=some ti)(F:ti.zero=some c)(h:ti.size=GoT.cells α)(m:ti.bytes=bytes)(i:bytes*lim≤281474976710656)(o:lim≤maxLen)(hB:B≤w.heap.size)(G:∀a,w.heap.size≤a→A a)(H:ev E x=some (.int q k))(I:ev E y=some (.int s k))(J:Nat.blt d n.sz=true)(K:∀v w1 A1,Hp B A1 w1 (obS e v r::L)→Tr Dw B A w A1 w1→V P n ops Q rest ((d,v)::E) w1):
  V P n ops Q (⟨some d,.makeSlice t x y,ty,pos,af,none⟩::rest) E w :=
 zmW z j D l F h m i o hB G H I J fun v w1 A1 f mv p=>K v w1 A1 (u.new mv hB f.owp fun a g=>⟨p a (by simpa using g),(f.off a g).2⟩) (mv.tr hB)
theorem zjQ{l:List α}{len:Nat}{b:Array (Nat×Operand)}{c:Value}{vs:List Value}{cells:Array Value}(o:Hp B A w L)(p:P.underlying t=some (.slice e))(q:∀w,(Go.sizeOf e).run P w=.ok (GoT.cells α) w)(r:∀w,(zeroValue e).run P w=.ok c w)(s:evs E (b.toList.map (·.2))=some vs)(u:Instr.fill (fun i=>some (i*GoT.cells α,GoT.cells α)) ((Array.range (len*GoT.cells α)).map (c.cells[· % c.cells.size]!)) ((b.toList.map (·.1)).zip vs)=some cells)(x:len*GoT.cells α≠0)(j:len*GoT.cells α≤2^24)(hB:B≤w.heap.size)(y:∀a,w.heap.size≤a→A a)(z:repL A w cells.toList l)(h:l.length=len)(D:Nat.blt d n.sz=true)(F:∀v w1 A1,Hp B A1 w1 (obS e v l::L)→Tr Dw B A w A1 w1→V P n ops Q rest ((d,v)::E) w1):
  V P n ops Q (⟨some d,.buildSlice t len b,ty,pos,af,none⟩::rest) E w :=
 zkR p q r s u x j hB y z h D fun v w1 A1 f mv m=>F v w1 A1 (o.new mv hB f.owp fun a g=>⟨m a (by simpa using g),(f.off a g).2⟩) (mv.tr hB)
theorem ZK{l:List α}{k:IntKind}{ix:Int}{el:α}(f:Hp B A w L)(hi:L[i]?=some (obS e v l))(b:idx l ix=some el)(g:P.underlying t=some (.slice e))(c:∀w,(Go.sizeOf e).run P w=.ok (GoT.cells α) w)(h:ev E x=some v)(j:ev E y=some (.int k ix))(m:Nat.blt d n.sz=true)(p:∀a off,El (fun _=>True) w a off el→Loc v a off ix (GoT.cells α)→V P n ops Q rest ((d,.pointer (some ⟨a,off,none⟩))::E) w):
  V P n ops Q (⟨some d,.indexAddr t x y,ty,pos,af,none⟩::rest) E w:=by{obtain⟨q,hp,o,_⟩:=f.at hi;exact ziQ (OwP.ow hp o) b g c h j m p}
theorem Qw{W:World→Prop}{QA:Act→Prop}{l:List α}{k:IntKind}{ix:Int}{el:α}(f:Hp B A w L)(hi:L[i]?=some (obS e v l))(b:idx l ix=some el)(g:P.underlying t=some (.slice e))(c:∀w,(Go.sizeOf e).run P w=.ok (GoT.cells α) w)(h:ev E x=some v)(j:ev E y=some (.int k ix))(m:Nat.blt d n.sz=true)(p:∀a off,El (fun _=>True) w a off el→Loc v a off ix (GoT.cells α)→VQ P n ops W QA rest ((d,.pointer (some ⟨a,off,none⟩))::E)):
  VQ P n ops W QA (⟨some d,.indexAddr t x y,ty,pos,af,none⟩::rest) E:=by{obtain⟨q,hp,o,_⟩:=f.at hi;exact zij (OwP.ow hp o) b g c h j m p}
theorem zby{l r:List α}{ix:Int}{b off sz:Nat}{x':α}{nv:Value}(m:Hp B A w L)(hi:L[i]?=some (obS e v l))(f:Loc v b off ix (GoT.cells α))(o:setI l ix x'=some r)(g:GoT.rep A w nv.cells.toList x')(p:∀w,(Go.sizeOf t).run P w=.ok sz w)(j:sz=GoT.cells α)(hB:B≤w.heap.size)(q:∀b,w.heap.size≤b→A b)(s:ev E x=some (.pointer (some ⟨b,off,none⟩)))(u:ev E y=some nv)(D:∀w1,Hp B A w1 (L.set i (obS e v r))→Tr Dw B A w A w1→V P n ops Q rest E w1):V P n ops Q (⟨none,.store t x y,ty,pos,af,none⟩::rest) E w:=by{obtain⟨F,hp,a,h⟩:=m.at hi;have c:=OwP.fp hp;exact zmi (OwP.ow hp a) f o g p j q s u fun w1 d mv=>D w1 (h A w1 v.ownBlock _ _ mv (fun k z=>by rw[c,z];simp) d.owp fun b a=>⟨.inl (by rw[c];exact a),d.off b a⟩) (mv.tr hB)}
theorem zaN{l r:List α}{ix:Int}{b off sz foff:Nat}{el x':α}{nv:Value}(s:Hp B A w L)(hi:L[i]?=some (obS e v l))(g:Loc v b off ix (GoT.cells α))(h:idx l ix=some el)(z:setI l ix x'=some r)(j:∀c,GoT.rep A w c el→GoT.rep A w (c.take foff++nv.cells.toList++c.drop (foff+sz)) x')(D:∀w,(Go.sizeOf t).run P w=.ok sz w)(q:nv.cells.size=sz)(m:∀u∈nv.cells.toList,u.oneCell'=true)(o:foff+sz≤GoT.cells α)(hB:B≤w.heap.size)(F:∀b,w.heap.size≤b→A b)(G:ev E x=some (.pointer (some ⟨b,off+foff,none⟩)))(H:ev E y=some nv)(J:∀w1,Hp B A w1 (L.set i (obS e v r))→Tr Dw B A w A w1→V P n ops Q rest E w1):V P n ops Q (⟨none,.store t x y,ty,pos,af,none⟩::rest) E w:=by{obtain⟨K,hp,a,p⟩:=s.at hi;have d:=OwP.fp hp;exact zlj (OwP.ow hp a) g h z j D q m o F G H fun w1 f mv=>J w1 (p A w1 v.ownBlock _ _ mv (fun k I=>by rw[d,I];simp) f.owp fun b a=>⟨.inl (by rw[d];exact a),f.off b a⟩) (mv.tr hB)}
theorem zaT(B:Nat){w:World}(o:Obj)(d:∀b,w.heap.size≤b→A b):Mv Dw B A w (fun b=>A b∧b≠w.heap.size) (w.alloc o) none:=by{
 have a:=Kp.alloc (Dw:=Dw) w o
 exact⟨a.os,a.tape,a.output,a.size,a.dr,fun k c _=>a.block k c,(fun k c=>by cases c),fun k c=>c.1,fun k a e=>⟨e,by omega⟩,fun b f=>⟨d b (Nat.le_trans a.size f),by
  have:w.heap.size<(w.alloc o).heap.size:=(Array.getElem?_eq_some_iff.1 (heap_alloc_new w o)).1
  omega⟩⟩}
theorem Hp.alloc{w:World}(o:Obj)(c:Hp B A w L)(hB:B≤w.heap.size)(d:∀a,w.heap.size≤a→A a):Hp B (fun a=>A a∧a≠w.heap.size) (w.alloc o) (obO w.heap.size o::L) :=
 c.new (zaT (Dw:=True) B o d) hB ⟨rfl,heap_alloc_new w o⟩ fun a b=>by simp at b;subst b;exact⟨Nat.le_refl _,fun e=>e.2 rfl⟩
theorem ziZ(c:Hp B A w L)(e:ev E y=some v)(hB:B≤w.heap.size)(b:∀a,w.heap.size≤a→A a)(f:Nat.blt d n.sz=true)(g:∀a w1 A1,Hp B A1 w1 (obC a v.cells.toList t::L)→Tr Dw B A w A1 w1→V P n ops Q rest ((d,.pointer (some ⟨a,0,none⟩))::E) w1):
  V P n ops Q (⟨some d,.box t y,ty,pos,af,none⟩::rest) E w :=
 V_y (w':=w.alloc (.cells v.cells t)) (v := .pointer (some ⟨w.heap.size,0,none⟩)) (fun h b=>by simp only[execOp,b.eval e,Instr.box];simp[newVar,newRow]) rfl rfl f (g _ _ _ (by simpa using c.alloc (.cells v.cells t) hB b) ((zaT B _ b).tr hB))
theorem zbu{b:Value}(e:Hp B A w L)(f:∀w,(zeroValue t).run P w=.ok b w)(hB:B≤w.heap.size)(c:∀a,w.heap.size≤a→A a)(g:Nat.blt d n.sz=true)(h:∀a w1 A1,Hp B A1 w1 (obC a b.cells.toList t::L)→Tr Dw B A w A1 w1→V P n ops Q rest ((d,.pointer (some ⟨a,0,none⟩))::E) w1):
  V P n ops Q (⟨some d,.alloc t,ty,pos,af,none⟩::rest) E w :=
 V_y (w':=w.alloc (.cells b.cells t)) (v := .pointer (some ⟨w.heap.size,0,none⟩)) (fun i c=>by simp only[execOp,Instr.alloc];simp[f,newVar,newRow]) rfl rfl g (h _ _ _ (by simpa using e.alloc (.cells b.cells t) hB c) ((zaT B _ c).tr hB))
theorem zjF{b off sz:Nat}{cs ds:List Value}{d:TypeId}{nv:Value}(D:Hp B A w L)(hi:L[i]?=some (obC b cs d))(F:∀w,(Go.sizeOf t).run P w=.ok sz w)(l:nv.cells.size=sz)(J:off+sz≤cs.length)(p:∀u∈nv.cells.toList,u.oneCell'=true)(s:cs.take off++nv.cells.toList++cs.drop (off+sz)=ds)(hB:B≤w.heap.size)(G:∀b,w.heap.size≤b→A b)(H:ev E x=some (.pointer (some ⟨b,off,none⟩)))(I:ev E y=some nv)(c:∀w1,Hp B A w1 (L.set i (obC b ds d))→Tr Dw B A w A w1→V P n ops Q rest E w1):V P n ops Q (⟨none,.store t x y,ty,pos,af,none⟩::rest) E w:=by{
 obtain⟨K,⟨rfl,hp⟩,f,q⟩:=D.at hi;have v:nv.cells.toList.length=sz:=by simpa using l
 have j:=run_storeCells_at P b off d nv.cells.toList 0 cs.toArray w hp (by simp;omega) p;rw[Nat.add_zero]at j
 have r:((cs.toArray.toList.take off++nv.cells.toList++cs.toArray.toList.drop (off+nv.cells.toList.length))).toArray=ds.toArray:=by
  rw[← s,v]
 rw[r]at j
 have m:Mv Dw B A w A (w.setRow b ds.toArray) (some b) :=
  ⟨rfl,rfl,rfl,by simp,fun _=>Nat.le_refl _,fun k g z=>setRow_other w b k _ (fun e=>z (by rw[e])),fun k g=>by cases g;exact⟨(f b (by simp)).1,(f b (by simp)).2.2⟩,fun _ c=>c,fun _ _ c=>c,fun h a=>G h (by simpa using a)⟩
 refine V_s (w':=w.setRow b ds.toArray) (fun M o=>?_) rfl rfl (c _ (q A _ (some b) _ _ m (fun k g=>by cases g;simp) ⟨rfl,setRow_heap w b cs.toArray _ d _ hp⟩ fun h a=>⟨.inl a,(f h a).1,(f h a).2.2⟩) (m.tr hB));simp only[execOp,o.eval H,o.eval I,Instr.storeAt,Instr.sureAddr];simp[storeVar,F,l,j]}
end steps
end Go.Gw
