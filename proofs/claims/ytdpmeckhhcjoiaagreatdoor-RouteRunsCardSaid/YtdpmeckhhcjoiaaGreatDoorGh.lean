import Derived.Test.YtdpmeckhhcjoiaaGreatDoorGx
import Derived.RangeFuncRecord
namespace Go.Gw
open Go Go.RowKit Go.Pu
variable{Dw:Prop}
set_option linter.unusedSimpArgs false
set_option linter.unusedVariables false
structure Ob where
 P:List Nat→(Nat→Prop)→World→Prop
 keep:∀{f A w A' w'},P f A w→Ex A w A' w'→(∀b∈f,w'.heap[b]?=w.heap[b]?)→P f A' w'
 lt:∀{f A w},P f A w→∀b∈f,b<w.heap.size
def Sp(A:Nat→Prop)(w:World):List Ob→List Nat→Prop
 | [],U=>U=[]
 | O::L,U=>∃f g,U=f++g∧(∀b∈f,b∉g)∧O.P f A w∧Sp A w L g
theorem Sp.keep{A d:Nat→Prop}{w w':World}(e:Ex A w d w'):∀{L:List Ob} {b:List Nat},Sp A w L b→(∀a∈b,w'.heap[a]?=w.heap[a]?)→Sp d w' L b
 | [],_,h,_=>h
 | O::L,b,h,hu=>by
  obtain⟨f,g,rfl,hd,hp,hs⟩:=h
  exact⟨f,g,rfl,hd,O.keep hp e (fun a c=>hu a (List.mem_append_left _ c)),hs.keep e (fun a c=>hu a (List.mem_append_right _ c))⟩
theorem Sp.lt{A:Nat→Prop}{w:World}:∀{L:List Ob} {c:List Nat},Sp A w L c→∀a∈c,a<w.heap.size
 | [],_,h,a,hb=>by rw[Sp]at h;subst h;cases hb
 | O::L,c,h,a,hb=>by
  obtain⟨f,g,rfl,hd,hp,hs⟩:=h
  rcases List.mem_append.1 hb with b|b
  ·exact O.lt hp a b
  ·exact hs.lt a b
theorem Sp.at{A:Nat→Prop}{w:World}:∀{L:List Ob} {k:List Nat} {i:Nat} {O:Ob},Sp A w L k→L[i]?=some O→
  ∃d,O.P d A w∧(∀a∈d,a∈k)∧
   (∀A1 w1 p l,Ex A w A1 w1→(∀a∈k,a∉d→w1.heap[a]?=w.heap[a]?)→p.P l A1 w1→(∀a∈l,a∈d∨a∉k)→∃f,Sp A1 w1 (L.set i p) f∧∀a∈f,a∈l∨(a∈k∧a∉d))∧
   (∀A1 w1,Ex A w A1 w1→(∀a∈k,a∉d→w1.heap[a]?=w.heap[a]?)→∃f,Sp A1 w1 (L.eraseIdx i) f∧∀a∈f,a∈k∧a∉d)
 | [],_,_,_,_,hi=>by simp at hi
 | O::L,k,0,O0,e,hi=>by
  simp only[List.getElem?_cons_zero,Option.some.injEq]at hi
  subst hi
  obtain⟨d,u,rfl,g,q,r⟩:=e
  refine⟨d,q,fun a b=>List.mem_append_left _ b,fun A1 w1 p l h j v s=>⟨l++u,⟨l,u,rfl,fun a b t=>?_,v,r.keep h fun a b=>j a (List.mem_append_right _ b) fun e=>g a e b⟩,fun a b=>?_⟩,fun A1 w1 h j=>⟨u,r.keep h fun a b=>j a (List.mem_append_right _ b) fun e=>g a e b,fun a b=>⟨List.mem_append_right _ b,fun e=>g a e b⟩⟩⟩
  ·rcases s a b with c|c
   ·exact g a c t
   ·exact c (List.mem_append_right _ t)
  ·rcases List.mem_append.1 b with c|c
   ·exact .inl c
   ·exact .inr ⟨List.mem_append_right _ c,fun e=>g a e c⟩
 | O::L,k,i+1,O0,e,hi=>by
  simp only[List.getElem?_cons_succ]at hi
  obtain⟨d,u,rfl,g,q,r⟩:=e
  obtain⟨D,G,B,E,F⟩:=r.at hi
  have o:∀a∈d,a∉D:=fun a b e=>g a b (B a e)
  refine⟨D,G,fun a b=>List.mem_append_right _ (B a b),fun A1 w1 p l h j v s=>?_,fun A1 w1 h j=>?_⟩
  ·obtain⟨f,y,n⟩:=E A1 w1 p l h (fun a b x=>j a (List.mem_append_right _ b) x) v (fun a b=>(s a b).imp id fun e t=>e (List.mem_append_right _ t))
   refine⟨d++f,⟨d,f,rfl,fun a b z=>?_,O.keep q h (fun a b=>j a (List.mem_append_left _ b) (o a b)),y⟩,fun a b=>?_⟩
   ·rcases n a z with c|c
    ·rcases s a c with m|m
     ·exact o a b m
     ·exact m (List.mem_append_left _ b)
    ·exact g a b c.1
   ·rcases List.mem_append.1 b with c|c
    ·exact .inr ⟨List.mem_append_left _ c,o a c⟩
    ·rcases n a c with m|m
     ·exact .inl m
     ·exact .inr ⟨List.mem_append_right _ m.1,m.2⟩
  ·obtain⟨f,y,n⟩:=F A1 w1 h (fun a b x=>j a (List.mem_append_right _ b) x)
   refine⟨d++f,⟨d,f,rfl,fun a b z=>g a b (n a z).1,O.keep q h (fun a b=>j a (List.mem_append_left _ b) (o a b)),y⟩,fun a b=>?_⟩
   rcases List.mem_append.1 b with c|c
   ·exact⟨List.mem_append_left _ c,o a c⟩
   ·exact⟨List.mem_append_right _ (n a c).1,(n a c).2⟩
theorem Sp.append{A:Nat→Prop}{w:World}:∀{L M:List Ob} {i:List Nat},Sp A w (L++M) i↔∃b j,i=b++j∧(∀a∈b,a∉j)∧Sp A w L b∧Sp A w M j
 | [],M,i=>⟨fun k=>⟨[],i,rfl,by simp,rfl,k⟩,fun⟨b,j,p,_,e,f⟩=>by rw[Sp]at e;subst e;subst p;exact f⟩
 | O::L,M,i=>by
  constructor
  ·rintro⟨b,j,rfl,g,n,hs⟩
   obtain⟨h,l,rfl,m,e,f⟩:=Sp.append.1 hs
   refine⟨b++h,l,by simp,fun a c o=>?_,⟨b,h,rfl,fun a c k=>g a c (List.mem_append_left _ k),n,e⟩,f⟩
   rcases List.mem_append.1 c with d|d
   ·exact g a d (List.mem_append_right _ o)
   ·exact m a d o
  ·rintro⟨_,l,rfl,g,⟨b,h,rfl,m,n,e⟩,f⟩
   refine⟨b,h++l,by simp,fun a c k=>?_,n,Sp.append.2 ⟨h,l,rfl,fun a c=>g a (List.mem_append_right _ c),e,f⟩⟩
   rcases List.mem_append.1 k with d|d
   ·exact m a c d
   ·exact g a (List.mem_append_left _ c) d
def Hp(B:Nat)(A:Nat→Prop)(w:World)(L:List Ob):Prop:=∃U,Sp A w L U∧∀b∈U,B≤b∧b<w.heap.size∧¬A b
section
variable{B:Nat}{A A1:Nat→Prop}{w w1:World}{L M:List Ob}{O:Ob}{i:Nat}
theorem Hp.nil:Hp B A w []:=⟨[],rfl,fun _ a=>by cases a⟩
theorem Hp.kp(f:Hp B A w L)(d:Kp Dw w w1):Hp B A w1 L:=by{obtain⟨g,e,c⟩:=f;exact⟨g,e.keep (.kp d) fun a b=>d.block a (c a b).2.1,fun a b=>⟨(c a b).1,Nat.lt_of_lt_of_le (c a b).2.1 d.size,(c a b).2.2⟩⟩}
theorem Hp.lower{a:Nat}(f:Hp a A w L)(hB:B≤a):Hp B A w L:=by{obtain⟨g,e,b⟩:=f;exact⟨g,e,fun d c=>⟨Nat.le_trans hB (b d c).1,(b d c).2⟩⟩}
theorem Hp.at(z:Hp B A w L)(hi:L[i]?=some O):∃d,O.P d A w∧(∀a∈d,B≤a∧a<w.heap.size∧¬A a)∧
  ∀{Dw:Prop} A1 w1 j g h,Mv Dw B A w A1 w1 j→(∀p,j=some p→p∈d)→g.P h A1 w1→(∀a∈h,(a∈d∨w.heap.size≤a)∧B≤a∧¬A1 a)→Hp B A1 w1 (L.set i g):=by{
 obtain⟨D,v,f⟩:=z;obtain⟨d,x,q,r,_⟩:=v.at hi;refine⟨d,x,fun a c=>f a (q a c),fun A1 w1 j g h m s t k=>?_⟩
 obtain⟨y,o,n⟩:=r A1 w1 g h m.ex (fun a c u=>m.blk a (f a c).2.1 fun e=>u (s a e.symm)) t (fun a c=>by
  rcases (k a c).1 with b|b
  exact .inl b
  exact .inr fun l=>by have:=(f a l).2.1;omega)
 refine⟨y,o,fun a c=>⟨?_,o.lt a c,?_⟩⟩;rcases n a c with b|b;exact (k a b).2.1;exact (f a b.1).1;rcases n a c with b|b;exact (k a b).2.2;exact fun l=>(f a b.1).2.2 (m.sub a l)}
theorem Hp.new{f':List Nat}{O':Ob}(k:Hp B A w L)(m:Mv Dw B A w A1 w1 none)(hB:B≤w.heap.size)(h:O'.P f' A1 w1)(f:∀a∈f',w.heap.size≤a∧¬A1 a):Hp B A1 w1 (O'::L):=by{obtain⟨i,j,c⟩:=k;refine⟨f'++i,⟨f',i,rfl,fun a d g=>?_,h,j.keep m.ex fun a d=>m.blk a (c a d).2.1 (fun e=>by cases e)⟩,fun a d=>?_⟩;have:=(f a d).1;have:=(c a g).2.1;omega;rcases List.mem_append.1 d with b|b;exact⟨Nat.le_trans hB (f a b).1,O'.lt h a b,(f a b).2⟩;exact⟨(c a b).1,Nat.lt_of_lt_of_le (c a b).2.1 m.size,fun g=>(c a b).2.2 (m.sub a g)⟩}
theorem Hp.free{O':Ob}(e:Hp B A w L)(b:O'.P [] A w):Hp B A w (O'::L):=by{obtain⟨a,c,d⟩:=e;exact⟨a,⟨[],a,rfl,by simp,b,c⟩,d⟩}
theorem Hp.drop(a:Hp B A w L)(hi:L[i]?=some O):Hp B A w (L.eraseIdx i):=by{obtain⟨m,e,f⟩:=a;obtain⟨n,l,k,_,c⟩:=e.at hi;obtain⟨g,h,d⟩:=c A w ⟨Nat.le_refl _,fun _ _ a=>⟨a,rfl⟩⟩ (fun _ _ _=>rfl);exact⟨g,h,fun b j=>f b (d b j).1⟩}
theorem Hp.frz(b:Hp B A w L)(hi:L[i]?=some O)(k:∀a,w.heap.size≤a→A a):∃(A1:Nat→Prop) (f:List Nat),O.P f A w∧(∀a∈f,A1 a∧a<w.heap.size)∧(∀c,A c→A1 c)∧Tr Dw B A w A1 w∧Hp B A1 w (L.eraseIdx i):=by{obtain⟨q,l,e⟩:=b;obtain⟨f,m,h,_,j⟩:=l.at hi;refine⟨fun c=>A c∨c∈f,f,m,fun a d=>⟨.inr d,(e a (h a d)).2.1⟩,fun _ b=>.inl b,⟨⟨Nat.le_refl _,fun _ _ b=>⟨.inl b,rfl⟩⟩,Bel.refl _ _,fun c n=>n.imp id fun b=>(e c (h c b)).1,fun a d=>.inl (k a d)⟩,?_⟩;obtain⟨o,p,g⟩:=j (fun c=>A c∨c∈f) w ⟨Nat.le_refl _,fun _ _ b=>⟨.inl b,rfl⟩⟩ (fun _ _ _=>rfl);exact⟨o,p,fun a d=>⟨(e a (g a d).1).1,(e a (g a d).1).2.1,fun b=>b.elim (e a (g a d).1).2.2 (g a d).2⟩⟩}
theorem Hp.perm{n:List Ob}(d:Hp B A w L)(f:L.Perm n):Hp B A w n:=by{
 obtain⟨k,b,o⟩:=d
 have s:∃i,Sp A w n i∧∀a,a∈i↔a∈k:=by
  clear o
  induction f generalizing k with
  | nil=>exact⟨k,b,fun _=>Iff.rfl⟩
  | cons x _ ih =>
   obtain⟨e,h,rfl,j,f,b⟩:=b
   obtain⟨p,m,q⟩:=ih h b
   exact⟨e++p,⟨e,p,rfl,fun a c d=>j a c ((q a).1 d),f,m⟩,fun a=>by simp[q]⟩
  | swap x y l =>
   obtain⟨e,_,rfl,j,f,⟨r,h,rfl,t,u,b⟩⟩:=b
   refine⟨r++(e++h),⟨r,e++h,rfl,fun a c d=>?_,u,⟨e,h,rfl,fun a c d=>j a c (List.mem_append_right _ d),f,b⟩⟩,fun a=>by simp;grind⟩
   rcases List.mem_append.1 d with g|g
   exact j a g (List.mem_append_left _ c)
   exact t a c g
  | trans _ _ ih1 ih2 =>
   obtain⟨U1,g,v⟩:=ih1 k b
   obtain⟨U2,z,D⟩:=ih2 U1 g
   exact⟨U2,z,fun a=>(D a).trans (v a)⟩
 obtain⟨i,m,E⟩:=s;exact⟨i,m,fun a c=>o a ((E a).1 c)⟩}
theorem Hp.front(a:Hp B A w L)(hi:L[i]?=some O):Hp B A w (O::L.eraseIdx i):=by{
 refine a.perm ?_;clear a;induction L generalizing i with
 | nil=>simp at hi
 | cons x L ih =>
  cases i with
  | zero=>simp at hi;subst hi;exact .refl _
  | succ i =>
   simp at hi
   exact ((ih hi).cons x).trans (.swap _ _ _)}
theorem Hp.drops(e:Hp B A w (L++M)):Hp B A w M:=by{obtain⟨h,a,b⟩:=e;obtain⟨i,f,rfl,_,_,c⟩:=Sp.append.1 a;exact⟨f,c,fun g d=>b g (List.mem_append_right _ d)⟩}
end
def obO(b:Nat)(o:Obj):Ob where
 P f _ w:=f=[b]∧w.heap[b]?=some o
 keep h _ hb:=⟨h.1,by rw[hb b (by simp[h.1])];exact h.2⟩
 lt h b' hb':=by
  obtain⟨rfl,h⟩:=h
  simp at hb'
  subst hb'
  exact (Array.getElem?_eq_some_iff.1 h).1
abbrev obC(b:Nat)(cs:List Value)(t:TypeId):Ob:=obO b (.cells cs.toArray t (0,0))
def OwP{α:Type}[GoT α](e:TypeId)(A:Nat→Prop)(w:World)(v:Value)(l:List α)(f:List Nat):Prop :=
 (v=.slice none 0 0∧l=[]∧f=[])∨
 ∃g cap cur cs,v=.slice (some ⟨g,0,none⟩) l.length cap∧f=[g]∧w.heap[g]?=some (.cells cur e (0,0))∧l.length≤cap∧cap≤maxLen∧cur.size=cap*GoT.cells α∧repL A w cs l∧cur.toList.take (l.length*GoT.cells α)=cs
def obS{α:Type}[GoT α](e:TypeId)(v:Value)(l:List α):Ob where
 P f A w:=OwP e A w v l f
 keep h he hb:=by
  rcases h with h|⟨g,cap,cur,cs,rfl,rfl,h4,h5,h6,h7,h8,h9⟩
  ·exact .inl h
  ·exact .inr ⟨g,cap,cur,cs,rfl,rfl,by rw[hb g (by simp)];exact h4,h5,h6,h7,h8.keep he,h9⟩
 lt h b' hb':=by
  rcases h with ⟨_,_,rfl⟩|⟨g,cap,cur,cs,rfl,rfl,h4,h5⟩
  ·cases hb'
  ·simp at hb';subst hb';exact (Array.getElem?_eq_some_iff.1 h4).1
def obF(p:(Nat→Prop)→World→Prop)(hk:∀{A w A' w'},p A w→Ex A w A' w'→p A' w'):Ob where
 P f A w:=f=[]∧p A w
 keep h he _:=⟨h.1,hk h.2 he⟩
 lt h b hb:=by rw[h.1]at hb;cases hb
abbrev obR{α:Type}[GoT α](v:Value)(l:List α):Ob:=obF (fun A w=>Sl A w v l) (fun h he=>h.keep he)
def obE{ι:Type}(F:ι→List Ob):Ob where
 P f A w:=∃i,Sp A w (F i) f
 keep h he hb:=let ⟨i,h⟩:=h;⟨i,h.keep he hb⟩
 lt h:=let ⟨_,h⟩:=h;h.lt
section
variable{B:Nat}{A A1:Nat→Prop}{w w1:World}{L M:List Ob}{O:Ob}{i:Nat}{α:Type}[GoT α]{e:TypeId}{v:Value}{l:List α}
theorem Hp.pack{ι:Type}{F:ι→List Ob}(j:ι)(f:Hp B A w (F j++L)):Hp B A w (obE F::L):=by{obtain⟨i,a,b⟩:=f;obtain⟨g,h,rfl,c,d,e⟩:=Sp.append.1 a;exact⟨_,⟨g,h,rfl,c,⟨j,d⟩,e⟩,b⟩}
theorem Hp.open{ι:Type}{F:ι→List Ob}(f:Hp B A w (obE F::L)):∃a,Hp B A w (F a++L):=by{obtain⟨i,⟨g,h,rfl,b,⟨a,c⟩,d⟩,e⟩:=f;exact⟨a,_,Sp.append.2 ⟨g,h,rfl,b,c,d⟩,e⟩}
theorem OwP.ow{f:List Nat}(a:OwP e A w v l f)(d:∀b∈f,B≤b∧b<w.heap.size∧¬A b):Ow e B A w v l:=by{rcases a with ⟨i,j,_⟩|⟨c,g,h,k,rfl,rfl,a⟩;exact .inl ⟨i,j⟩;exact .inr ⟨c,g,h,k,rfl,(d c (by simp)).1,(d c (by simp)).2.2,a⟩}
theorem OwP.fp{f:List Nat}(a:OwP e A w v l f):f=v.ownBlock.toList:=by{rcases a with ⟨rfl,_,rfl⟩|⟨g,b,c,d,rfl,rfl,_⟩ <;> simp[Value.ownBlock]}
theorem Ow.owp(a:Ow e B A w v l):OwP e A w v l v.ownBlock.toList:=by{rcases a with ⟨rfl,rfl⟩|⟨f,b,c,d,rfl,_,_,a⟩;exact .inl ⟨rfl,rfl,by simp[Value.ownBlock]⟩;exact .inr ⟨f,b,c,d,rfl,by simp[Value.ownBlock],a⟩}
theorem Ow.off(f:Ow e B A w v l):∀b∈v.ownBlock.toList,B≤b∧¬A b:=by{intro b a;rcases f with ⟨rfl,rfl⟩|⟨j,g,h,i,rfl,c,d,_⟩;simp[Value.ownBlock]at a;simp[Value.ownBlock]at a;subst a;exact⟨c,d⟩}
theorem Hp.any(c:Hp B A w L)(hi:L[i]?=some (obS e v l):=by exact rfl):Sl (fun _=>True) w v l:=by{obtain⟨d,a,b,_⟩:=c.at hi;exact (OwP.ow a b).any}
theorem Hp.form(b:Hp B A w L)(hi:L[i]?=some (obS e v l)):∃c a,v=.slice c l.length a∧l.length≤maxLen:=(b.any hi).form
theorem Hp.le(a:Hp B A w L)(hi:L[i]?=some (obS e v l)):l.length≤maxLen:=let ⟨_,_,_,a⟩:=a.form hi;a
theorem Hp.addNil(a:Hp B A w L):Hp B A w (obS (α:=α) e (.slice none 0 0) []::L):=a.free (O':=obS e (.slice none 0 0) ([]:List α)) (.inl ⟨rfl,rfl,rfl⟩)
theorem Hp.freeze(a:Hp B A w L)(hi:L[i]?=some (obS e v l))(f:∀b,w.heap.size≤b→A b):∃A1:Nat→Prop,Tr Dw B A w A1 w∧Sl A1 w v l∧Hp B A1 w (L.eraseIdx i):=by{obtain⟨A1,r,g,h,j,k,m⟩:=a.frz hi f;obtain⟨q,c,d,_⟩:=a.at hi;have n:=OwP.fp g;refine⟨A1,k,(OwP.ow c d).sl j fun p o=>(h p (by rw[n,o];simp)).1,m⟩}
theorem Hp.cells{b:Nat}{cs:List Value}{t:TypeId}(e:Hp B A w L)(hi:L[i]?=some (obC b cs t)):At w b 0 cs∧w.heap[b]?=some (.cells cs.toArray t (0,0))∧B≤b∧¬A b:=by{obtain⟨f,⟨rfl,a⟩,c,_⟩:=e.at hi;refine⟨fun g u d=>?_,a,(c b (by simp)).1,(c b (by simp)).2.2⟩;simp only[World.cell?,a,Nat.zero_add];simpa using d}
theorem Hp.cell{b j:Nat}{cs:List Value}{t:TypeId}{u:Value}(c:Hp B A w L)(hi:L[i]?=some (obC b cs t))(a:cs[j]?=some u):w.cell? ⟨b,j,none⟩=some u:=by{have:=(c.cells hi).1 j u a;rwa[Nat.zero_add]at this}
theorem Hp.part{b off n:Nat}{cs ds:List Value}{t:TypeId}(d:Hp B A w L)(hi:L[i]?=some (obC b cs t))(c:(cs.drop off).take n=ds):At w b off ds:=by{
 intro e u a
 have:=(d.cells hi).1 (off+e) u (by
  subst c
  rw[List.getElem?_take]at a
  split at a
  rwa[List.getElem?_drop]at a
  cases a)
 rwa[Nat.zero_add]at this}
theorem Hp.el{b:Nat}{cs:List Value}{t:TypeId}{x:α}(e:Hp B A w L)(hi:L[i]?=some (obC b cs t))(a:GoT.rep (fun _=>True) w cs x):El (fun _=>True) w b 0 x:=by{obtain⟨c,d,_⟩:=e.cells hi;exact⟨trivial,(Array.getElem?_eq_some_iff.1 d).1,cs,a,c⟩}
end
section steps
variable{P:Program}{n:Fr}{ops:Array Oper}{Q:Exit→Act→World→Prop}{E:Env}{w:World}{rest:List Oper}{v u:Value}{d:Nat}
variable{ty t e:TypeId}{pos:String}{af:Array Edge}{x y z:Operand}{A:Nat→Prop}{α:Type}[GoT α]{B:Nat}{L:List Ob}{i:Nat}
theorem zms{l m r:List α}{lim bytes:Nat}{ti:TypeInfo}{g:Value}(J:Hp B A w L)(hi:L[i]?=some (obS e v l))(K:Sl A w u m)(M:zC lim l m=some r)(N:P.underlying t=some (.slice e))(s:P.info? e=some ti)(O:ti.zero=some g)(o:ti.size=GoT.cells α)(z:ti.bytes=bytes)(D:g.cells.size=GoT.cells α)(F:GoT.cells α≠0)(p:lim*bytes≤140737488355328)(G:lim≤maxLen)(hB:B≤w.heap.size)(R:∀a,w.heap.size≤a→A a)(S:ev E x=some v)(T:ev E y=some u)(U:Nat.blt d n.sz=true)(X:∀b w1 A1,Hp B A1 w1 (L.set i (obS e b r))→Tr Dw B A w A1 w1→V P n ops Q rest ((d,b)::E) w1):
  V P n ops Q (⟨some d,.call ⟨.builtin .append,#[x,y],#[t,t]⟩,ty,pos,af,none⟩::rest) E w:=by{
 obtain⟨Z,h,c,q⟩:=J.at hi;have j:=OwP.fp h;refine znb (OwP.ow h c) K M N s O o z D F p G hB R S T U fun b w1 A1 k mv H=>X b w1 A1 (q A1 w1 v.ownBlock _ _ mv (fun a0 W=>by rw[j,W];simp) k.owp fun a c=>⟨?_,k.off a c⟩) (mv.tr hB);have I:b.ownBlock=some a:=by simpa using c
 rw[j];rcases H a I with f|f;exact .inl (by rw[f];simp);exact .inr f}
theorem zbe{b:α}{k:Int}{q s:IntKind}{r:List α}{lim bytes:Nat}{ti:TypeInfo}{c:Value}(u:Hp B A w L)(z:JS lim k b=some r)(j:∀(A:Nat→Prop) (w:World),GoT.rep A w c.cells.toList b)(D:P.underlying t=some (.slice e))(l:P.info? e=some ti)(F:ti.zero=some c)(h:ti.size=GoT.cells α)(m:ti.bytes=bytes)(i:bytes*lim≤281474976710656)(o:lim≤maxLen)(hB:B≤w.heap.size)(G:∀a,w.heap.size≤a→A a)(H:ev E x=some (.int q k))(I:ev E y=some (.int s k))(J:Nat.blt d n.sz=true)(K:∀v w1 A1,Hp B A1 w1 (obS e v r::L)→Tr Dw B A w A1 w1→V P n ops Q rest ((d,v)::E) w1):
  V P n ops Q (⟨some d,.makeSlice t x y,ty,pos,af,none⟩::rest) E w :=
 zsz z j D l F h m i o hB G H I J fun v w1 A1 f mv p=>K v w1 A1 (u.new mv hB f.owp fun a g=>⟨p a (by simpa using g),(f.off a g).2⟩) (mv.tr hB)
theorem zos{l:List α}{len:Nat}{b:Array (Nat×Operand)}{c:Value}{vs:List Value}{cells:Array Value}(k:Hp B A w L)(m:P.underlying t=some (.slice e))(o:∀w,(Go.sizeOf e).run P w=.ok (GoT.cells α) w)(p:∀w,(zeroValue e).run P w=.ok c w)(q:evs E (b.toList.map (·.2))=some vs)(r:Instr.fill (fun i=>some (i*GoT.cells α,GoT.cells α)) ((Array.range (len*GoT.cells α)).map (c.cells[· % c.cells.size]!)) ((b.toList.map (·.1)).zip vs)=some cells)(s:len*GoT.cells α≠0)(h:len*GoT.cells α≤2^24)(hB:B≤w.heap.size)(u:∀a,w.heap.size≤a→A a)(x:repL A w cells.toList l)(hlen:l.length=len)(y:Nat.blt d n.sz=true)(z:∀v w1 A1,Hp B A1 w1 (obS e v l::L)→Tr Dw B A w A1 w1→V P n ops Q rest ((d,v)::E) w1):
  V P n ops Q (⟨some d,.buildSlice t len b,ty,pos,af,none⟩::rest) E w :=
 zpl m o p q r s h hB u x hlen y fun v w1 A1 f mv j=>z v w1 A1 (k.new mv hB f.owp fun a g=>⟨j a (by simpa using g),(f.off a g).2⟩) (mv.tr hB)
theorem zbu(g:Hp B A w L)(h:P.underlying t=some (.slice e))(i:∀w,(Go.sizeOf e).run P w=.ok (GoT.cells α) w)(hB:B≤w.heap.size)(j:∀a,w.heap.size≤a→A a)(k:Nat.blt d n.sz=true)(l:∀v w1 A1,Hp B A1 w1 (obS (α:=α) e v []::L)→Tr Dw B A w A1 w1→V P n ops Q rest ((d,v)::E) w1):
  V P n ops Q (⟨some d,.buildSlice t 0 #[],ty,pos,af,none⟩::rest) E w :=
 zop h i hB j k fun v w1 A1 b mv f=>l v w1 A1 (g.new mv hB b.owp fun a c=>⟨f a (by simpa using c),(b.off a c).2⟩) (mv.tr hB)
theorem QS{l:List α}{k:IntKind}{a:Int}{el:α}(g:Hp B A w L)(hi:L[i]?=some (obS e v l))(c:idx l a=some el)(h:P.underlying t=some (.slice e))(f:∀w,(Go.sizeOf e).run P w=.ok (GoT.cells α) w)(j:ev E x=some v)(m:ev E y=some (.int k a))(o:Nat.blt d n.sz=true)(r:∀b off,El (fun _=>True) w b off el→Loc v b off a (GoT.cells α)→V P n ops Q rest ((d,.pointer (some ⟨b,off,none⟩))::E) w):
  V P n ops Q (⟨some d,.indexAddr t x y,ty,pos,af,none⟩::rest) E w:=by{obtain⟨s,p,q,_⟩:=g.at hi;exact zmX (OwP.ow p q) c h f j m o r}
theorem Qd{W:World→Prop}{QA:Act→Prop}{l:List α}{k:IntKind}{a:Int}{el:α}(g:Hp B A w L)(hi:L[i]?=some (obS e v l))(c:idx l a=some el)(h:P.underlying t=some (.slice e))(f:∀w,(Go.sizeOf e).run P w=.ok (GoT.cells α) w)(j:ev E x=some v)(m:ev E y=some (.int k a))(o:Nat.blt d n.sz=true)(r:∀b off,El (fun _=>True) w b off el→Loc v b off a (GoT.cells α)→VQ P n ops W QA rest ((d,.pointer (some ⟨b,off,none⟩))::E)):
  VQ P n ops W QA (⟨some d,.indexAddr t x y,ty,pos,af,none⟩::rest) E:=by{obtain⟨s,p,q,_⟩:=g.at hi;exact zmC (OwP.ow p q) c h f j m o r}
theorem zcd{l r:List α}{c:Int}{b off sz:Nat}{d:α}{nv:Value}(p:Hp B A w L)(hi:L[i]?=some (obS e v l))(j:Loc v b off c (GoT.cells α))(q:setI l c d=some r)(k:GoT.rep A w nv.cells.toList d)(s:∀w,(Go.sizeOf t).run P w=.ok sz w)(o:sz=GoT.cells α)(hB:B≤w.heap.size)(u:∀b,w.heap.size≤b→A b)(z:ev E x=some (.pointer (some ⟨b,off,none⟩)))(D:ev E y=some nv)(G:∀w1,Hp B A w1 (L.set i (obS e v r))→Tr Dw B A w A w1→V P n ops Q rest E w1):V P n ops Q (⟨none,.store t x y,ty,pos,af,none⟩::rest) E w:=by{obtain⟨H,f,a,m⟩:=p.at hi;have g:=OwP.fp f;exact zrA (OwP.ow f a) j q k s o u z D fun w1 h mv=>G w1 (m A w1 v.ownBlock _ _ mv (fun I F=>by rw[g,F];simp) h.owp fun b a=>⟨.inl (by rw[g];exact a),h.off b a⟩) (mv.tr hB)}
theorem zhs{l r:List α}{c:Int}{b off sz foff:Nat}{el f:α}{nv:Value}(D:Hp B A w L)(hi:L[i]?=some (obS e v l))(k:Loc v b off c (GoT.cells α))(m:idx l c=some el)(F:setI l c f=some r)(o:∀d,GoT.rep A w d el→GoT.rep A w (d.take foff++nv.cells.toList++d.drop (foff+sz)) f)(G:∀w,(Go.sizeOf t).run P w=.ok sz w)(z:nv.cells.size=sz)(p:∀u∈nv.cells.toList,u.oneCell'=true)(q:foff+sz≤GoT.cells α)(hB:B≤w.heap.size)(H:∀b,w.heap.size≤b→A b)(I:ev E x=some (.pointer (some ⟨b,off+foff,none⟩)))(J:ev E y=some nv)(M:∀w1,Hp B A w1 (L.set i (obS e v r))→Tr Dw B A w A w1→V P n ops Q rest E w1):V P n ops Q (⟨none,.store t x y,ty,pos,af,none⟩::rest) E w:=by{obtain⟨N,g,a,s⟩:=D.at hi;have h:=OwP.fp g;exact zqE (OwP.ow g a) k m F o G z p q H I J fun w1 j mv=>M w1 (s A w1 v.ownBlock _ _ mv (fun O K=>by rw[h,K];simp) j.owp fun b a=>⟨.inl (by rw[h];exact a),j.off b a⟩) (mv.tr hB)}
theorem zaH(B:Nat){w:World}(o:Obj)(e:∀b,w.heap.size≤b→A b):Mv Dw B A w (fun b=>A b∧b≠w.heap.size) (w.alloc o) none:=by{
 have a:=Kp.alloc (Dw:=Dw) w o
 exact⟨a.os,a.tape,a.output,a.size,a.dr,fun d c _=>a.block d c,(fun d c=>by cases c),fun d c=>c.1,fun d a f=>⟨f,by omega⟩,fun b g=>⟨e b (Nat.le_trans a.size g),by
  have:w.heap.size<(w.alloc o).heap.size:=(Array.getElem?_eq_some_iff.1 (heap_alloc_new w o)).1
  omega⟩⟩}
theorem Hp.alloc{w:World}(o:Obj)(c:Hp B A w L)(hB:B≤w.heap.size)(d:∀a,w.heap.size≤a→A a):Hp B (fun a=>A a∧a≠w.heap.size) (w.alloc o) (obO w.heap.size o::L) :=
 c.new (zaH (Dw:=True) B o d) hB ⟨rfl,heap_alloc_new w o⟩ fun a b=>by simp at b;subst b;exact⟨Nat.le_refl _,fun e=>e.2 rfl⟩
theorem zgp(c:Hp B A w L)(e:ev E y=some v)(hB:B≤w.heap.size)(b:∀a,w.heap.size≤a→A a)(f:Nat.blt d n.sz=true)(g:∀a w1 A1,Hp B A1 w1 (obC a v.cells.toList t::L)→Tr Dw B A w A1 w1→V P n ops Q rest ((d,.pointer (some ⟨a,0,none⟩))::E) w1):
  V P n ops Q (⟨some d,.box t y,ty,pos,af,none⟩::rest) E w :=
 V_y (w':=w.alloc (.cells v.cells t)) (v := .pointer (some ⟨w.heap.size,0,none⟩)) (fun h b=>by simp only[execOp,b.eval e,Instr.box];simp[newVar,newRow]) rfl rfl f (g _ _ _ (by simpa using c.alloc (.cells v.cells t) hB b) ((zaH B _ b).tr hB))
theorem zaL{b:Value}(e:Hp B A w L)(f:∀w,(zeroValue t).run P w=.ok b w)(hB:B≤w.heap.size)(c:∀a,w.heap.size≤a→A a)(g:Nat.blt d n.sz=true)(h:∀a w1 A1,Hp B A1 w1 (obC a b.cells.toList t::L)→Tr Dw B A w A1 w1→V P n ops Q rest ((d,.pointer (some ⟨a,0,none⟩))::E) w1):
  V P n ops Q (⟨some d,.alloc t,ty,pos,af,none⟩::rest) E w :=
 V_y (w':=w.alloc (.cells b.cells t)) (v := .pointer (some ⟨w.heap.size,0,none⟩)) (fun i c=>by simp only[execOp,Instr.alloc];simp[f,newVar,newRow]) rfl rfl g (h _ _ _ (by simpa using e.alloc (.cells b.cells t) hB c) ((zaH B _ c).tr hB))
theorem znc{b off sz:Nat}{cs ds:List Value}{d:TypeId}{nv:Value}(F:Hp B A w L)(hi:L[i]?=some (obC b cs d))(G:∀w,(Go.sizeOf t).run P w=.ok sz w)(l:nv.cells.size=sz)(K:off+sz≤cs.length)(q:∀u∈nv.cells.toList,u.oneCell'=true)(v:cs.take off++nv.cells.toList++cs.drop (off+sz)=ds)(hB:B≤w.heap.size)(H:∀b,w.heap.size≤b→A b)(I:ev E x=some (.pointer (some ⟨b,off,none⟩)))(J:ev E y=some nv)(c:∀w1,Hp B A w1 (L.set i (obC b ds d))→Tr Dw B A w A w1→V P n ops Q rest E w1):V P n ops Q (⟨none,.store t x y,ty,pos,af,none⟩::rest) E w:=by{
 obtain⟨M,⟨rfl,p⟩,f,r⟩:=F.at hi;have z:nv.cells.toList.length=sz:=by simpa using l
 have j:=run_storeCells_at P b off d nv.cells.toList 0 cs.toArray w p (by simp;omega) q;rw[Nat.add_zero]at j
 have s:((cs.toArray.toList.take off++nv.cells.toList++cs.toArray.toList.drop (off+nv.cells.toList.length))).toArray=ds.toArray:=by
  rw[← v,z]
 rw[s]at j
 have m:Mv Dw B A w A (w.setRow b ds.toArray) (some b) :=
  ⟨rfl,rfl,rfl,by simp,fun _=>Nat.le_refl _,fun k g D=>setRow_other w b k _ (fun e=>D (by rw[e])),fun k g=>by cases g;exact⟨(f b (by simp)).1,(f b (by simp)).2.2⟩,fun _ c=>c,fun _ _ c=>c,fun h a=>H h (by simpa using a)⟩
 refine V_s (w':=w.setRow b ds.toArray) (fun N o=>?_) rfl rfl (c _ (r A _ (some b) _ _ m (fun k g=>by cases g;simp) ⟨rfl,setRow_heap w b cs.toArray _ d _ p⟩ fun h a=>⟨.inl a,(f h a).1,(f h a).2.2⟩) (m.tr hB));simp only[execOp,o.eval I,o.eval J,Instr.storeAt,Instr.sureAddr];simp[storeVar,G,l,j]}
end steps
end Go.Gw
