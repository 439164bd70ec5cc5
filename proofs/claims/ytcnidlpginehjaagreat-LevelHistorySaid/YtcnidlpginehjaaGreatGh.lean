import Derived.Test.YtcnidlpginehjaaGreatGx
import Derived.RangeFuncRecord
namespace Go.Gw
open Go Go.RowKit Go.Pu
variable{Dw:Prop}
set_option linter.unusedSimpArgs false
set_option linter.unusedVariables false
structure Ob where
 P:List Nat→(Nat→Prop)→World→Prop
 keep:∀{f A w A' w'},P f A w→Ex A w A' w'→(∀b∈f,w'.heap[b]?=w.heap[b]?)→P f A' w'
 lt:∀{f A w},P f A w→∀b∈f,b<w.heap.size
def Sp(A:Nat→Prop)(w:World):List Ob→List Nat→Prop
 | [],U=>U=[]
 | O::L,U=>∃f g,U=f++g∧(∀b∈f,b∉g)∧O.P f A w∧Sp A w L g
theorem Sp.keep{A d:Nat→Prop}{w w':World}(e:Ex A w d w'):∀{L:List Ob} {b:List Nat},Sp A w L b→(∀a∈b,w'.heap[a]?=w.heap[a]?)→Sp d w' L b
 | [],_,h,_=>h
 | O::L,b,h,hu=>by
  obtain⟨f,g,rfl,hd,hp,hs⟩:=h
  exact⟨f,g,rfl,hd,O.keep hp e (fun a c=>hu a (List.mem_append_left _ c)),hs.keep e (fun a c=>hu a (List.mem_append_right _ c))⟩
theorem Sp.lt{A:Nat→Prop}{w:World}:∀{L:List Ob} {c:List Nat},Sp A w L c→∀a∈c,a<w.heap.size
 | [],_,h,a,hb=>by rw[Sp]at h;subst h;cases hb
 | O::L,c,h,a,hb=>by
  obtain⟨f,g,rfl,hd,hp,hs⟩:=h
  rcases List.mem_append.1 hb with b|b
  ·exact O.lt hp a b
  ·exact hs.lt a b
theorem Sp.at{A:Nat→Prop}{w:World}:∀{L:List Ob} {k:List Nat} {i:Nat} {O:Ob},Sp A w L k→L[i]?=some O→
  ∃d,O.P d A w∧(∀a∈d,a∈k)∧
   (∀A1 w1 p l,Ex A w A1 w1→(∀a∈k,a∉d→w1.heap[a]?=w.heap[a]?)→p.P l A1 w1→(∀a∈l,a∈d∨a∉k)→∃f,Sp A1 w1 (L.set i p) f∧∀a∈f,a∈l∨(a∈k∧a∉d))∧
   (∀A1 w1,Ex A w A1 w1→(∀a∈k,a∉d→w1.heap[a]?=w.heap[a]?)→∃f,Sp A1 w1 (L.eraseIdx i) f∧∀a∈f,a∈k∧a∉d)
 | [],_,_,_,_,hi=>by simp at hi
 | O::L,k,0,O0,e,hi=>by
  simp only[List.getElem?_cons_zero,Option.some.injEq]at hi
  subst hi
  obtain⟨d,t,rfl,g,hp,q⟩:=e
  refine⟨d,hp,fun a b=>List.mem_append_left _ b,fun A1 w1 p l h j u r=>⟨l++t,⟨l,t,rfl,fun a b s=>?_,u,q.keep h fun a b=>j a (List.mem_append_right _ b) fun e=>g a e b⟩,fun a b=>?_⟩,fun A1 w1 h j=>⟨t,q.keep h fun a b=>j a (List.mem_append_right _ b) fun e=>g a e b,fun a b=>⟨List.mem_append_right _ b,fun e=>g a e b⟩⟩⟩
  ·rcases r a b with c|c
   ·exact g a c s
   ·exact c (List.mem_append_right _ s)
  ·rcases List.mem_append.1 b with c|c
   ·exact .inl c
   ·exact .inr ⟨List.mem_append_right _ c,fun e=>g a e c⟩
 | O::L,k,i+1,O0,e,hi=>by
  simp only[List.getElem?_cons_succ]at hi
  obtain⟨d,t,rfl,g,hp,q⟩:=e
  obtain⟨B,F,z,D,E⟩:=q.at hi
  have o:∀a∈d,a∉B:=fun a b e=>g a b (z a e)
  refine⟨B,F,fun a b=>List.mem_append_right _ (z a b),fun A1 w1 p l h j u r=>?_,fun A1 w1 h j=>?_⟩
  ·obtain⟨f,x,n⟩:=D A1 w1 p l h (fun a b v=>j a (List.mem_append_right _ b) v) u (fun a b=>(r a b).imp id fun e s=>e (List.mem_append_right _ s))
   refine⟨d++f,⟨d,f,rfl,fun a b y=>?_,O.keep hp h (fun a b=>j a (List.mem_append_left _ b) (o a b)),x⟩,fun a b=>?_⟩
   ·rcases n a y with c|c
    ·rcases r a c with m|m
     ·exact o a b m
     ·exact m (List.mem_append_left _ b)
    ·exact g a b c.1
   ·rcases List.mem_append.1 b with c|c
    ·exact .inr ⟨List.mem_append_left _ c,o a c⟩
    ·rcases n a c with m|m
     ·exact .inl m
     ·exact .inr ⟨List.mem_append_right _ m.1,m.2⟩
  ·obtain⟨f,x,n⟩:=E A1 w1 h (fun a b v=>j a (List.mem_append_right _ b) v)
   refine⟨d++f,⟨d,f,rfl,fun a b y=>g a b (n a y).1,O.keep hp h (fun a b=>j a (List.mem_append_left _ b) (o a b)),x⟩,fun a b=>?_⟩
   rcases List.mem_append.1 b with c|c
   ·exact⟨List.mem_append_left _ c,o a c⟩
   ·exact⟨List.mem_append_right _ (n a c).1,(n a c).2⟩
theorem Sp.append{A:Nat→Prop}{w:World}:∀{L M:List Ob} {i:List Nat},Sp A w (L++M) i↔∃b j,i=b++j∧(∀a∈b,a∉j)∧Sp A w L b∧Sp A w M j
 | [],M,i=>⟨fun k=>⟨[],i,rfl,by simp,rfl,k⟩,fun⟨b,j,o,_,e,f⟩=>by rw[Sp]at e;subst e;subst o;exact f⟩
 | O::L,M,i=>by
  constructor
  ·rintro⟨b,j,rfl,g,hp,hs⟩
   obtain⟨h,l,rfl,m,e,f⟩:=Sp.append.1 hs
   refine⟨b++h,l,by simp,fun a c n=>?_,⟨b,h,rfl,fun a c k=>g a c (List.mem_append_left _ k),hp,e⟩,f⟩
   rcases List.mem_append.1 c with d|d
   ·exact g a d (List.mem_append_right _ n)
   ·exact m a d n
  ·rintro⟨_,l,rfl,g,⟨b,h,rfl,m,hp,e⟩,f⟩
   refine⟨b,h++l,by simp,fun a c k=>?_,hp,Sp.append.2 ⟨h,l,rfl,fun a c=>g a (List.mem_append_right _ c),e,f⟩⟩
   rcases List.mem_append.1 k with d|d
   ·exact m a c d
   ·exact g a (List.mem_append_left _ c) d
def Hp(B:Nat)(A:Nat→Prop)(w:World)(L:List Ob):Prop:=∃U,Sp A w L U∧∀b∈U,B≤b∧b<w.heap.size∧¬A b
section
variable{B:Nat}{A A1:Nat→Prop}{w w1:World}{L M:List Ob}{O:Ob}{i:Nat}
theorem Hp.nil:Hp B A w []:=⟨[],rfl,fun _ a=>by cases a⟩
theorem Hp.kp(f:Hp B A w L)(d:Kp Dw w w1):Hp B A w1 L:=by{obtain⟨g,e,c⟩:=f;exact⟨g,e.keep (.kp d) fun a b=>d.block a (c a b).2.1,fun a b=>⟨(c a b).1,Nat.lt_of_lt_of_le (c a b).2.1 d.size,(c a b).2.2⟩⟩}
theorem Hp.lower{a:Nat}(f:Hp a A w L)(hB:B≤a):Hp B A w L:=by{obtain⟨g,e,b⟩:=f;exact⟨g,e,fun d c=>⟨Nat.le_trans hB (b d c).1,(b d c).2⟩⟩}
theorem Hp.at(y:Hp B A w L)(hi:L[i]?=some O):∃d,O.P d A w∧(∀a∈d,B≤a∧a<w.heap.size∧¬A a)∧
  ∀{Dw:Prop} A1 w1 j g h,Mv Dw B A w A1 w1 j→(∀p,j=some p→p∈d)→g.P h A1 w1→(∀a∈h,(a∈d∨w.heap.size≤a)∧B≤a∧¬A1 a)→Hp B A1 w1 (L.set i g):=by{
 obtain⟨z,v,f⟩:=y;obtain⟨d,hp,q,r,_⟩:=v.at hi;refine⟨d,hp,fun a c=>f a (q a c),fun A1 w1 j g h m s t k=>?_⟩
 obtain⟨x,o,n⟩:=r A1 w1 g h m.ex (fun a c u=>m.blk a (f a c).2.1 fun e=>u (s a e.symm)) t (fun a c=>by
  rcases (k a c).1 with b|b
  exact .inl b
  exact .inr fun l=>by have:=(f a l).2.1;omega)
 refine⟨x,o,fun a c=>⟨?_,o.lt a c,?_⟩⟩;rcases n a c with b|b;exact (k a b).2.1;exact (f a b.1).1;rcases n a c with b|b;exact (k a b).2.2;exact fun l=>(f a b.1).2.2 (m.sub a l)}
theorem Hp.new{f':List Nat}{O':Ob}(l:Hp B A w L)(f:Mv Dw B A w A1 w1 none)(hB:B≤w.heap.size)(i:O'.P f' A1 w1)(g:∀a∈f',w.heap.size≤a∧¬A1 a):Hp B A1 w1 (O'::L):=by{obtain⟨j,k,c⟩:=l;refine⟨f'++j,⟨f',j,rfl,fun a d h=>?_,i,k.keep f.ex fun a d=>f.blk a (c a d).2.1 (fun e=>by cases e)⟩,fun a d=>?_⟩;have:=(g a d).1;have:=(c a h).2.1;omega;rcases List.mem_append.1 d with b|b;exact⟨Nat.le_trans hB (g a b).1,O'.lt i a b,(g a b).2⟩;exact⟨(c a b).1,Nat.lt_of_lt_of_le (c a b).2.1 f.size,fun h=>(c a b).2.2 (f.sub a h)⟩}
theorem Hp.free{O':Ob}(e:Hp B A w L)(b:O'.P [] A w):Hp B A w (O'::L):=by{obtain⟨a,c,d⟩:=e;exact⟨a,⟨[],a,rfl,by simp,b,c⟩,d⟩}
theorem Hp.drop(a:Hp B A w L)(hi:L[i]?=some O):Hp B A w (L.eraseIdx i):=by{obtain⟨l,e,f⟩:=a;obtain⟨m,hp,k,_,c⟩:=e.at hi;obtain⟨g,h,d⟩:=c A w ⟨Nat.le_refl _,fun _ _ a=>⟨a,rfl⟩⟩ (fun _ _ _=>rfl);exact⟨g,h,fun b j=>f b (d b j).1⟩}
theorem Hp.frz(b:Hp B A w L)(hi:L[i]?=some O)(k:∀a,w.heap.size≤a→A a):∃(A1:Nat→Prop) (f:List Nat),O.P f A w∧(∀a∈f,A1 a∧a<w.heap.size)∧(∀c,A c→A1 c)∧Tr Dw B A w A1 w∧Hp B A1 w (L.eraseIdx i):=by{obtain⟨p,l,e⟩:=b;obtain⟨f,hp,h,_,j⟩:=l.at hi;refine⟨fun c=>A c∨c∈f,f,hp,fun a d=>⟨.inr d,(e a (h a d)).2.1⟩,fun _ b=>.inl b,⟨⟨Nat.le_refl _,fun _ _ b=>⟨.inl b,rfl⟩⟩,Bel.refl _ _,fun c m=>m.imp id fun b=>(e c (h c b)).1,fun a d=>.inl (k a d)⟩,?_⟩;obtain⟨n,o,g⟩:=j (fun c=>A c∨c∈f) w ⟨Nat.le_refl _,fun _ _ b=>⟨.inl b,rfl⟩⟩ (fun _ _ _=>rfl);exact⟨n,o,fun a d=>⟨(e a (g a d).1).1,(e a (g a d).1).2.1,fun b=>b.elim (e a (g a d).1).2.2 (g a d).2⟩⟩}
theorem Hp.perm{m:List Ob}(d:Hp B A w L)(hp:L.Perm m):Hp B A w m:=by{
 obtain⟨j,b,n⟩:=d
 have r:∃h,Sp A w m h∧∀a,a∈h↔a∈j:=by
  clear n
  induction hp generalizing j with
  | nil=>exact⟨j,b,fun _=>Iff.rfl⟩
  | cons x _ ih =>
   obtain⟨e,g,rfl,i,hp,b⟩:=b
   obtain⟨o,k,p⟩:=ih g b
   exact⟨e++o,⟨e,o,rfl,fun a c d=>i a c ((p a).1 d),hp,k⟩,fun a=>by simp[p]⟩
  | swap x y l =>
   obtain⟨e,_,rfl,i,hp,⟨q,g,rfl,s,t,b⟩⟩:=b
   refine⟨q++(e++g),⟨q,e++g,rfl,fun a c d=>?_,t,⟨e,g,rfl,fun a c d=>i a c (List.mem_append_right _ d),hp,b⟩⟩,fun a=>by simp;grind⟩
   rcases List.mem_append.1 d with f|f
   exact i a f (List.mem_append_left _ c)
   exact s a c f
  | trans _ _ ih1 ih2 =>
   obtain⟨U1,f,u⟩:=ih1 j b
   obtain⟨U2,v,z⟩:=ih2 U1 f
   exact⟨U2,v,fun a=>(z a).trans (u a)⟩
 obtain⟨h,k,D⟩:=r;exact⟨h,k,fun a c=>n a ((D a).1 c)⟩}
theorem Hp.front(a:Hp B A w L)(hi:L[i]?=some O):Hp B A w (O::L.eraseIdx i):=by{
 refine a.perm ?_;clear a;induction L generalizing i with
 | nil=>simp at hi
 | cons x L ih =>
  cases i with
  | zero=>simp at hi;subst hi;exact .refl _
  | succ i =>
   simp at hi
   exact ((ih hi).cons x).trans (.swap _ _ _)}
end
def obO(b:Nat)(o:Obj):Ob where
 P f _ w:=f=[b]∧w.heap[b]?=some o
 keep h _ hb:=⟨h.1,by rw[hb b (by simp[h.1])];exact h.2⟩
 lt h b' hb':=by
  obtain⟨rfl,h⟩:=h
  simp at hb'
  subst hb'
  exact (Array.getElem?_eq_some_iff.1 h).1
abbrev obC(b:Nat)(cs:List Value)(t:TypeId):Ob:=obO b (.cells cs.toArray t (0,0))
def OwP{α:Type}[GoT α](e:TypeId)(A:Nat→Prop)(w:World)(v:Value)(l:List α)(f:List Nat):Prop :=
 (v=.slice none 0 0∧l=[]∧f=[])∨
 ∃g cap cur cs,v=.slice (some ⟨g,0,none⟩) l.length cap∧f=[g]∧w.heap[g]?=some (.cells cur e (0,0))∧l.length≤cap∧cap≤maxLen∧cur.size=cap*GoT.cells α∧repL A w cs l∧cur.toList.take (l.length*GoT.cells α)=cs
def obS{α:Type}[GoT α](e:TypeId)(v:Value)(l:List α):Ob where
 P f A w:=OwP e A w v l f
 keep h he hb:=by
  rcases h with h|⟨g,cap,cur,cs,rfl,rfl,h4,h5,h6,h7,h8,h9⟩
  ·exact .inl h
  ·exact .inr ⟨g,cap,cur,cs,rfl,rfl,by rw[hb g (by simp)];exact h4,h5,h6,h7,h8.keep he,h9⟩
 lt h b' hb':=by
  rcases h with ⟨_,_,rfl⟩|⟨g,cap,cur,cs,rfl,rfl,h4,h5⟩
  ·cases hb'
  ·simp at hb';subst hb';exact (Array.getElem?_eq_some_iff.1 h4).1
def obF(p:(Nat→Prop)→World→Prop)(hk:∀{A w A' w'},p A w→Ex A w A' w'→p A' w'):Ob where
 P f A w:=f=[]∧p A w
 keep h he _:=⟨h.1,hk h.2 he⟩
 lt h b hb:=by rw[h.1]at hb;cases hb
abbrev obR{α:Type}[GoT α](v:Value)(l:List α):Ob:=obF (fun A w=>Sl A w v l) (fun h he=>h.keep he)
def obE{ι:Type}(F:ι→List Ob):Ob where
 P f A w:=∃i,Sp A w (F i) f
 keep h he hb:=let ⟨i,h⟩:=h;⟨i,h.keep he hb⟩
 lt h:=let ⟨_,h⟩:=h;h.lt
section
variable{B:Nat}{A A1:Nat→Prop}{w w1:World}{L M:List Ob}{O:Ob}{i:Nat}{α:Type}[GoT α]{e:TypeId}{v:Value}{l:List α}
theorem Hp.pack{ι:Type}{F:ι→List Ob}(j:ι)(f:Hp B A w (F j++L)):Hp B A w (obE F::L):=by{obtain⟨i,a,b⟩:=f;obtain⟨g,h,rfl,c,d,e⟩:=Sp.append.1 a;exact⟨_,⟨g,h,rfl,c,⟨j,d⟩,e⟩,b⟩}
theorem Hp.open{ι:Type}{F:ι→List Ob}(f:Hp B A w (obE F::L)):∃a,Hp B A w (F a++L):=by{obtain⟨i,⟨g,h,rfl,b,⟨a,c⟩,d⟩,e⟩:=f;exact⟨a,_,Sp.append.2 ⟨g,h,rfl,b,c,d⟩,e⟩}
theorem OwP.ow{f:List Nat}(a:OwP e A w v l f)(d:∀b∈f,B≤b∧b<w.heap.size∧¬A b):Ow e B A w v l:=by{rcases a with ⟨i,j,_⟩|⟨c,g,h,k,rfl,rfl,a⟩;exact .inl ⟨i,j⟩;exact .inr ⟨c,g,h,k,rfl,(d c (by simp)).1,(d c (by simp)).2.2,a⟩}
theorem OwP.fp{f:List Nat}(a:OwP e A w v l f):f=v.ownBlock.toList:=by{rcases a with ⟨rfl,_,rfl⟩|⟨g,b,c,d,rfl,rfl,_⟩ <;> simp[Value.ownBlock]}
theorem Ow.owp(a:Ow e B A w v l):OwP e A w v l v.ownBlock.toList:=by{rcases a with ⟨rfl,rfl⟩|⟨f,b,c,d,rfl,_,_,a⟩;exact .inl ⟨rfl,rfl,by simp[Value.ownBlock]⟩;exact .inr ⟨f,b,c,d,rfl,by simp[Value.ownBlock],a⟩}
theorem Ow.off(f:Ow e B A w v l):∀b∈v.ownBlock.toList,B≤b∧¬A b:=by{intro b a;rcases f with ⟨rfl,rfl⟩|⟨j,g,h,i,rfl,c,d,_⟩;simp[Value.ownBlock]at a;simp[Value.ownBlock]at a;subst a;exact⟨c,d⟩}
theorem Hp.any(b:Hp B A w L)(hi:L[i]?=some (obS e v l):=by exact rfl):Sl (fun _=>True) w v l:=by{obtain⟨c,hp,a,_⟩:=b.at hi;exact (OwP.ow hp a).any}
theorem Hp.form(b:Hp B A w L)(hi:L[i]?=some (obS e v l)):∃c a,v=.slice c l.length a∧l.length≤maxLen:=(b.any hi).form
theorem Hp.le(a:Hp B A w L)(hi:L[i]?=some (obS e v l)):l.length≤maxLen:=let ⟨_,_,_,a⟩:=a.form hi;a
theorem Hp.addNil(a:Hp B A w L):Hp B A w (obS (α:=α) e (.slice none 0 0) []::L):=a.free (O':=obS e (.slice none 0 0) ([]:List α)) (.inl ⟨rfl,rfl,rfl⟩)
theorem Hp.freeze(a:Hp B A w L)(hi:L[i]?=some (obS e v l))(f:∀b,w.heap.size≤b→A b):∃A1:Nat→Prop,Tr Dw B A w A1 w∧Sl A1 w v l∧Hp B A1 w (L.eraseIdx i):=by{obtain⟨A1,q,hp,g,h,j,k⟩:=a.frz hi f;obtain⟨p,c,d,_⟩:=a.at hi;have m:=OwP.fp hp;refine⟨A1,j,(OwP.ow c d).sl h fun o n=>(g o (by rw[m,n];simp)).1,k⟩}
theorem Hp.cells{b:Nat}{cs:List Value}{t:TypeId}(d:Hp B A w L)(hi:L[i]?=some (obC b cs t)):At w b 0 cs∧w.heap[b]?=some (.cells cs.toArray t (0,0))∧B≤b∧¬A b:=by{obtain⟨e,⟨rfl,hp⟩,a,_⟩:=d.at hi;refine⟨fun f u c=>?_,hp,(a b (by simp)).1,(a b (by simp)).2.2⟩;simp only[World.cell?,hp,Nat.zero_add];simpa using c}
theorem Hp.cell{b j:Nat}{cs:List Value}{t:TypeId}{u:Value}(c:Hp B A w L)(hi:L[i]?=some (obC b cs t))(a:cs[j]?=some u):w.cell? ⟨b,j,none⟩=some u:=by{have:=(c.cells hi).1 j u a;rwa[Nat.zero_add]at this}
theorem Hp.part{b off n:Nat}{cs ds:List Value}{t:TypeId}(d:Hp B A w L)(hi:L[i]?=some (obC b cs t))(c:(cs.drop off).take n=ds):At w b off ds:=by{
 intro e u a
 have:=(d.cells hi).1 (off+e) u (by
  subst c
  rw[List.getElem?_take]at a
  split at a
  rwa[List.getElem?_drop]at a
  cases a)
 rwa[Nat.zero_add]at this}
theorem Hp.el{b:Nat}{cs:List Value}{t:TypeId}{x:α}(e:Hp B A w L)(hi:L[i]?=some (obC b cs t))(a:GoT.rep (fun _=>True) w cs x):El (fun _=>True) w b 0 x:=by{obtain⟨c,d,_⟩:=e.cells hi;exact⟨trivial,(Array.getElem?_eq_some_iff.1 d).1,cs,a,c⟩}
end
section steps
variable{P:Program}{n:Fr}{ops:Array Oper}{Q:Exit→Act→World→Prop}{E:Env}{w:World}{rest:List Oper}{v u:Value}{d:Nat}
variable{ty t e:TypeId}{pos:String}{af:Array Edge}{x y z:Operand}{A:Nat→Prop}{α:Type}[GoT α]{B:Nat}{L:List Ob}{i:Nat}
theorem zir{l k r:List α}{lim bytes:Nat}{ti:TypeInfo}{g:Value}(I:Hp B A w L)(hi:L[i]?=some (obS e v l))(J:Sl A w u k)(K:Zc lim l k=some r)(M:P.underlying t=some (.slice e))(q:P.info? e=some ti)(N:ti.zero=some g)(m:ti.size=GoT.cells α)(s:ti.bytes=bytes)(z:g.cells.size=GoT.cells α)(D:GoT.cells α≠0)(o:lim*bytes≤140737488355328)(F:lim≤maxLen)(hB:B≤w.heap.size)(O:∀a,w.heap.size≤a→A a)(R:ev E x=some v)(S:ev E y=some u)(T:Nat.blt d n.sz=true)(W:∀b w1 A1,Hp B A1 w1 (L.set i (obS e b r))→Tr Dw B A w A1 w1→V P n ops Q rest ((d,b)::E) w1):
  V P n ops Q (⟨some d,.call ⟨.builtin .append,#[x,y],#[t,t]⟩,ty,pos,af,none⟩::rest) E w:=by{
 obtain⟨X,hp,c,p⟩:=I.at hi;have h:=OwP.fp hp;refine zhs (OwP.ow hp c) J K M q N m s z D o F hB O R S T fun b w1 A1 j mv G=>W b w1 A1 (p A1 w1 v.ownBlock _ _ mv (fun Z U=>by rw[h,U];simp) j.owp fun a c=>⟨?_,j.off a c⟩) (mv.tr hB);have H:b.ownBlock=some a:=by simpa using c
 rw[h];rcases G a H with f|f;exact .inl (by rw[f];simp);exact .inr f}
theorem zbD{b:α}{k:Int}{q s:IntKind}{r:List α}{lim bytes:Nat}{ti:TypeInfo}{c:Value}(u:Hp B A w L)(z:JC lim k b=some r)(j:∀(A:Nat→Prop) (w:World),GoT.rep A w c.cells.toList b)(D:P.underlying t=some (.slice e))(l:P.info? e=some ti)(F:ti.zero=some c)(h:ti.size=GoT.cells α)(m:ti.bytes=bytes)(i:bytes*lim≤281474976710656)(o:lim≤maxLen)(hB:B≤w.heap.size)(G:∀a,w.heap.size≤a→A a)(H:ev E x=some (.int q k))(I:ev E y=some (.int s k))(J:Nat.blt d n.sz=true)(K:∀v w1 A1,Hp B A1 w1 (obS e v r::L)→Tr Dw B A w A1 w1→V P n ops Q rest ((d,v)::E) w1):
  V P n ops Q (⟨some d,.makeSlice t x y,ty,pos,af,none⟩::rest) E w :=
 zjR z j D l F h m i o hB G H I J fun v w1 A1 f mv p=>K v w1 A1 (u.new mv hB f.owp fun a g=>⟨p a (by simpa using g),(f.off a g).2⟩) (mv.tr hB)
theorem zbF(g:Hp B A w L)(h:P.underlying t=some (.slice e))(i:∀w,(Go.sizeOf e).run P w=.ok (GoT.cells α) w)(hB:B≤w.heap.size)(j:∀a,w.heap.size≤a→A a)(k:Nat.blt d n.sz=true)(l:∀v w1 A1,Hp B A1 w1 (obS (α:=α) e v []::L)→Tr Dw B A w A1 w1→V P n ops Q rest ((d,v)::E) w1):
  V P n ops Q (⟨some d,.buildSlice t 0 #[],ty,pos,af,none⟩::rest) E w :=
 zhE h i hB j k fun v w1 A1 b mv f=>l v w1 A1 (g.new mv hB b.owp fun a c=>⟨f a (by simpa using c),(b.off a c).2⟩) (mv.tr hB)
theorem zaw{l:List α}{k:IntKind}{a:Int}{el:α}(g:Hp B A w L)(hi:L[i]?=some (obS e v l))(c:idx l a=some el)(h:P.underlying t=some (.slice e))(f:∀w,(Go.sizeOf e).run P w=.ok (GoT.cells α) w)(j:ev E x=some v)(m:ev E y=some (.int k a))(o:Nat.blt d n.sz=true)(q:∀b off,El (fun _=>True) w b off el→Loc v b off a (GoT.cells α)→V P n ops Q rest ((d,.pointer (some ⟨b,off,none⟩))::E) w):
  V P n ops Q (⟨some d,.indexAddr t x y,ty,pos,af,none⟩::rest) E w:=by{obtain⟨r,hp,p,_⟩:=g.at hi;exact zhe (OwP.ow hp p) c h f j m o q}
theorem jP{W:World→Prop}{QA:Act→Prop}{l:List α}{k:IntKind}{a:Int}{el:α}(g:Hp B A w L)(hi:L[i]?=some (obS e v l))(c:idx l a=some el)(h:P.underlying t=some (.slice e))(f:∀w,(Go.sizeOf e).run P w=.ok (GoT.cells α) w)(j:ev E x=some v)(m:ev E y=some (.int k a))(o:Nat.blt d n.sz=true)(q:∀b off,El (fun _=>True) w b off el→Loc v b off a (GoT.cells α)→VQ P n ops W QA rest ((d,.pointer (some ⟨b,off,none⟩))::E)):
  VQ P n ops W QA (⟨some d,.indexAddr t x y,ty,pos,af,none⟩::rest) E:=by{obtain⟨r,hp,p,_⟩:=g.at hi;exact zgz (OwP.ow hp p) c h f j m o q}
theorem zcd{l r:List α}{c:Int}{b off sz:Nat}{x':α}{nv:Value}(m:Hp B A w L)(hi:L[i]?=some (obS e v l))(g:Loc v b off c (GoT.cells α))(o:setI l c x'=some r)(h:GoT.rep A w nv.cells.toList x')(p:∀w,(Go.sizeOf t).run P w=.ok sz w)(k:sz=GoT.cells α)(hB:B≤w.heap.size)(q:∀b,w.heap.size≤b→A b)(s:ev E x=some (.pointer (some ⟨b,off,none⟩)))(u:ev E y=some nv)(D:∀w1,Hp B A w1 (L.set i (obS e v r))→Tr Dw B A w A w1→V P n ops Q rest E w1):V P n ops Q (⟨none,.store t x y,ty,pos,af,none⟩::rest) E w:=by{obtain⟨F,hp,a,j⟩:=m.at hi;have d:=OwP.fp hp;exact zjo (OwP.ow hp a) g o h p k q s u fun w1 f mv=>D w1 (j A w1 v.ownBlock _ _ mv (fun G z=>by rw[d,z];simp) f.owp fun b a=>⟨.inl (by rw[d];exact a),f.off b a⟩) (mv.tr hB)}
theorem zgp{l r:List α}{c:Int}{b off sz foff:Nat}{el x':α}{nv:Value}(s:Hp B A w L)(hi:L[i]?=some (obS e v l))(h:Loc v b off c (GoT.cells α))(j:idx l c=some el)(z:setI l c x'=some r)(k:∀d,GoT.rep A w d el→GoT.rep A w (d.take foff++nv.cells.toList++d.drop (foff+sz)) x')(D:∀w,(Go.sizeOf t).run P w=.ok sz w)(q:nv.cells.size=sz)(m:∀u∈nv.cells.toList,u.oneCell'=true)(o:foff+sz≤GoT.cells α)(hB:B≤w.heap.size)(F:∀b,w.heap.size≤b→A b)(G:ev E x=some (.pointer (some ⟨b,off+foff,none⟩)))(H:ev E y=some nv)(J:∀w1,Hp B A w1 (L.set i (obS e v r))→Tr Dw B A w A w1→V P n ops Q rest E w1):V P n ops Q (⟨none,.store t x y,ty,pos,af,none⟩::rest) E w:=by{obtain⟨K,hp,a,p⟩:=s.at hi;have f:=OwP.fp hp;exact ziY (OwP.ow hp a) h j z k D q m o F G H fun w1 g mv=>J w1 (p A w1 v.ownBlock _ _ mv (fun M I=>by rw[f,I];simp) g.owp fun b a=>⟨.inl (by rw[f];exact a),g.off b a⟩) (mv.tr hB)}
theorem zaJ(B:Nat){w:World}(o:Obj)(e:∀b,w.heap.size≤b→A b):Mv Dw B A w (fun b=>A b∧b≠w.heap.size) (w.alloc o) none:=by{
 have a:=Kp.alloc (Dw:=Dw) w o
 exact⟨a.os,a.tape,a.output,a.size,a.dr,fun d c _=>a.block d c,(fun d c=>by cases c),fun d c=>c.1,fun d a f=>⟨f,by omega⟩,fun b g=>⟨e b (Nat.le_trans a.size g),by
  have:w.heap.size<(w.alloc o).heap.size:=(Array.getElem?_eq_some_iff.1 (heap_alloc_new w o)).1
  omega⟩⟩}
theorem Hp.alloc{w:World}(o:Obj)(c:Hp B A w L)(hB:B≤w.heap.size)(d:∀a,w.heap.size≤a→A a):Hp B (fun a=>A a∧a≠w.heap.size) (w.alloc o) (obO w.heap.size o::L) :=
 c.new (zaJ (Dw:=True) B o d) hB ⟨rfl,heap_alloc_new w o⟩ fun a b=>by simp at b;subst b;exact⟨Nat.le_refl _,fun e=>e.2 rfl⟩
theorem zeR(c:Hp B A w L)(e:ev E y=some v)(hB:B≤w.heap.size)(b:∀a,w.heap.size≤a→A a)(f:Nat.blt d n.sz=true)(g:∀a w1 A1,Hp B A1 w1 (obC a v.cells.toList t::L)→Tr Dw B A w A1 w1→V P n ops Q rest ((d,.pointer (some ⟨a,0,none⟩))::E) w1):
  V P n ops Q (⟨some d,.box t y,ty,pos,af,none⟩::rest) E w :=
 V_y (w':=w.alloc (.cells v.cells t)) (v := .pointer (some ⟨w.heap.size,0,none⟩)) (fun h b=>by simp only[execOp,b.eval e,Instr.box];simp[newVar,newRow]) rfl rfl f (g _ _ _ (by simpa using c.alloc (.cells v.cells t) hB b) ((zaJ B _ b).tr hB))
theorem zdg{b:Value}(e:Hp B A w L)(f:∀w,(zeroValue t).run P w=.ok b w)(hB:B≤w.heap.size)(c:∀a,w.heap.size≤a→A a)(g:Nat.blt d n.sz=true)(h:∀a w1 A1,Hp B A1 w1 (obC a b.cells.toList t::L)→Tr Dw B A w A1 w1→V P n ops Q rest ((d,.pointer (some ⟨a,0,none⟩))::E) w1):
  V P n ops Q (⟨some d,.alloc t,ty,pos,af,none⟩::rest) E w :=
 V_y (w':=w.alloc (.cells b.cells t)) (v := .pointer (some ⟨w.heap.size,0,none⟩)) (fun i c=>by simp only[execOp,Instr.alloc];simp[f,newVar,newRow]) rfl rfl g (h _ _ _ (by simpa using e.alloc (.cells b.cells t) hB c) ((zaJ B _ c).tr hB))
theorem zgZ{b off sz:Nat}{cs ds:List Value}{d:TypeId}{nv:Value}(D:Hp B A w L)(hi:L[i]?=some (obC b cs d))(F:∀w,(Go.sizeOf t).run P w=.ok sz w)(l:nv.cells.size=sz)(J:off+sz≤cs.length)(p:∀u∈nv.cells.toList,u.oneCell'=true)(s:cs.take off++nv.cells.toList++cs.drop (off+sz)=ds)(hB:B≤w.heap.size)(G:∀b,w.heap.size≤b→A b)(H:ev E x=some (.pointer (some ⟨b,off,none⟩)))(I:ev E y=some nv)(c:∀w1,Hp B A w1 (L.set i (obC b ds d))→Tr Dw B A w A w1→V P n ops Q rest E w1):V P n ops Q (⟨none,.store t x y,ty,pos,af,none⟩::rest) E w:=by{
 obtain⟨K,⟨rfl,hp⟩,f,q⟩:=D.at hi;have v:nv.cells.toList.length=sz:=by simpa using l
 have j:=run_storeCells_at P b off d nv.cells.toList 0 cs.toArray w hp (by simp;omega) p;rw[Nat.add_zero]at j
 have r:((cs.toArray.toList.take off++nv.cells.toList++cs.toArray.toList.drop (off+nv.cells.toList.length))).toArray=ds.toArray:=by
  rw[← s,v]
 rw[r]at j
 have m:Mv Dw B A w A (w.setRow b ds.toArray) (some b) :=
  ⟨rfl,rfl,rfl,by simp,fun _=>Nat.le_refl _,fun k g z=>setRow_other w b k _ (fun e=>z (by rw[e])),fun k g=>by cases g;exact⟨(f b (by simp)).1,(f b (by simp)).2.2⟩,fun _ c=>c,fun _ _ c=>c,fun h a=>G h (by simpa using a)⟩
 refine V_s (w':=w.setRow b ds.toArray) (fun M o=>?_) rfl rfl (c _ (q A _ (some b) _ _ m (fun k g=>by cases g;simp) ⟨rfl,setRow_heap w b cs.toArray _ d _ hp⟩ fun h a=>⟨.inl a,(f h a).1,(f h a).2.2⟩) (m.tr hB));simp only[execOp,o.eval H,o.eval I,Instr.storeAt,Instr.sureAddr];simp[storeVar,F,l,j]}
end steps
end Go.Gw
