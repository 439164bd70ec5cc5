import Derived.Test.YtligccioljhapaaGreatDoorGq
namespace Go.Gw
open Go Go.RowKit Go.Pu
variable{Dw:Prop}
set_option linter.unusedSimpArgs false
set_option linter.unusedVariables false
section
variable{P:Program}{ops:Array Oper}{md:Region.Mode}
def chZ(Dw:Prop)(P:Program)(ops:Array Oper)(ro:Option Nat)(A:Nat→Prop)(T:Act→World→Prop)(z:Nat)(c2:List (Nat×Nat)):List (Nat×Nat)→Act→World→Prop
 | [],a,w=>chOK Dw P ops ro A T ((2,z)::c2) a w
 | (b,i)::c,a,w=>if b<2 then qOp P ops (fun w'=>cls Dw A b w w') i (fun a'=>chZ Dw P ops ro A T z c2 c a' w) a
  else chOK Dw P ops ro A T ((2,z)::(b,i)::(c++c2)) a w∧wpOpIn (FR ro) 0 P ops QF i (fun a' w'=>sw Dw A b w w'∧chZ Dw P ops ro A T z c2 c a' w') a w
theorem zhS{ro:Option Nat}{A:Nat→Prop}{T:Act→World→Prop}{n i g z:Nat}(E:g<2){f c2:List (Nat×Nat)}{w:World}{m:Oper}(t:Region.noSelect ops=true)(j:ops[i]?=some m)(F:Ju m=true):
  ∀(b:List (Nat×Nat)) (a:Act),ChP md ops n (b++(g,i)::(f++c2))→(∀B∈b,B.1<2)→(∀c∈m.after,Region.binds md c=true→c.on∉idxs (b++(g,i)::(f++c2)))→chZ Dw P ops ro A T z c2 (b++(g,i)::f) a w→
   qOp P ops (fun e=>e=w) i (fun r=>chZ Dw P ops ro A T z c2 (b++f) r w) a
 | [],a,_,_,_,h=>by
  have h1:qOp P ops (fun e=>cls Dw A g w e) i (fun r=>chZ Dw P ops ro A T z c2 f r w) a:=by
   simp only[List.nil_append,chZ,if_pos E]at h
   exact h
  obtain⟨J,o,u⟩:=yieldsIn_of_qOp j h1
  exact (zbs F (fun e c=>by subst c;exact zcr) o).qOp j u
 | (d,x)::b,a,hg,hq,hno,h=>by
  have l:d<2:=hq (d,x) (by simp)
  obtain⟨_,_,⟨p,q,_,_,H⟩,N⟩:=hg
  have D:p.apart ops m=true:=(zeM (n:=n) (b:=g) (c:=b++(g,i)::(f++c2)) q j (by simp) (fun c v l y=>hno c v l (by simpa [idxs]using y)) (H l).2).1
  have O:qOp P ops (fun e=>cls Dw A d w e) x (fun r=>chZ Dw P ops ro A T z c2 (b++(g,i)::f) r w) a:=by
   simp only[List.cons_append,chZ,if_pos l]at h
   exact h
  obtain⟨J,o,u⟩:=yieldsIn_of_qOp q O
  have Q:=zhS E t j F b _ N (fun B o=>hq B (List.mem_cons_of_mem _ o)) (fun c v l y=>hno c v l (by simp only[List.cons_append,idxs,List.map_cons,List.mem_cons];exact .inr y)) u
  have K:YieldsIn P ops (fun e=>e=w) p J a:=zbs (H l).1 (fun e c=>by subst c;exact zcr) o
  have R:=qOp_put j D (fun s d=>Region.noSelect_spec t x p s d q) (fun s d=>Region.noSelect_spec t i m s d j) K Q
  obtain⟨I,L,M⟩:=yieldsIn_of_qOp j R
  refine L.qOp j ?_
  obtain⟨S,U,G⟩:=Oper.apart_spec D
  show chZ Dw P ops ro A T z c2 ((d,x)::(b++f)) _ w
  simp only[chZ,if_pos l]
  refine YieldsIn.qOp q ?_ M.2
  exact o.of_same (execOp_put p (fun s d=>Region.noSelect_spec t x p s d q) a m.dst I G) (wanted_put p a m.dst I G)
theorem ziS{ro:Option Nat}{A:Nat→Prop}{T:Act→World→Prop}{n i k z:Nat}(y:2≤k){e c2:List (Nat×Nat)}{w:World}{m:Oper}(p:Region.noSelect ops=true)(o:ops[i]?=some m)(B:zax m=false):
  ∀(b:List (Nat×Nat)) (a:Act),ChP md ops n (b++(k,i)::(e++c2))→(∀v∈b,v.1<2)→(∀g∈m.after,Region.binds md g=true→g.on∉idxs (b++(k,i)::(e++c2)))→chZ Dw P ops ro A T z c2 (b++(k,i)::e) a w→
   wpOpIn (FR ro) 0 P ops QF i (fun j f=>sw Dw A k w f∧chZ Dw P ops ro A T z c2 (b++e) j f) a w
 | [],_,_,_,_,h=>by
  simp only[List.nil_append,chZ,if_neg (show ¬k<2 by omega)]at h
  exact h.2
 | (d,x)::b,a,hg,hq,hno,h=>by
  have c:d<2:=hq (d,x) (by simp)
  obtain⟨_,_,⟨H,l,_,_,q⟩,I⟩:=hg
  obtain⟨G,F⟩:=zeM (n:=n) (b:=k) (c:=b++(k,i)::(e++c2)) l o (by simp) (fun g r c s=>hno g r c (by simpa [idxs]using s)) (q c).2
  have J:qOp P ops (fun f=>cls Dw A d w f) x (fun j=>chZ Dw P ops ro A T z c2 (b++(k,i)::e) j w) a:=by
   simp only[List.cons_append,chZ,if_pos c]at h
   exact h
  obtain⟨U,t,K⟩:=yieldsIn_of_qOp l J
  have L:=ziS y p o B b _ I (fun v t=>hq v (List.mem_cons_of_mem _ t)) (fun g r c s=>hno g r c (by simp only[List.cons_append,idxs,List.map_cons,List.mem_cons];exact .inr s)) K
  have M:=zfE o B G (fun u d=>Region.noSelect_spec p x H u d l) (fun u d=>Region.noSelect_spec p i m u d o) t L
  refine wpOpIn_mono (fun j f ⟨D,E,N⟩=>⟨E,?_⟩) M
  show chZ Dw P ops ro A T z c2 ((d,x)::(b++e)) j f
  simp only[chZ,if_pos c]
  refine YieldsIn.qOp l ?_ N
  rcases F with O|Q
  ·exact zbs (q c).1 (fun S R=>zjD c y O E R) D
  ·exact zgu (q c).1 Q zcr D
theorem zgW{ro:Option Nat}{A:Nat→Prop}{T:Act→World→Prop}{z:Nat}{c2:List (Nat×Nat)}{w:World}{f:Oper}(i:Region.noSelect ops=true)(j:ops[z]?=some f)(m:zax f=false):
  ∀(c:List (Nat×Nat)) (a:Act),(∀g∈c,g.1<2→∃o,ops[g.2]?=some o∧o.apart ops f=true∧Ju o=true)→chZ Dw P ops ro A T z c2 c a w→
   wpOpIn (FR ro) 0 P ops QF z (fun e d=>sw Dw A 2 w d∧chOK Dw P ops ro A T (c++c2) e d) a w
 | [],a,_,h=>by
  simp only[chZ,chOK,if_neg (show ¬2<2 by omega)]at h
  exact h
 | (b,x)::c,a,hq,h=>by
  rcases Nat.lt_or_ge b 2 with hb|hb
  ·obtain⟨ox,hox,hap,hpx⟩:=hq (b,x) (by simp) hb
   have q:qOp P ops (fun d=>cls Dw A b w d) x (fun e=>chZ Dw P ops ro A T z c2 c e w) a:=by
    simp only[chZ,if_pos hb]at h
    exact h
   obtain⟨E,r,s⟩:=yieldsIn_of_qOp hox q
   have t:=zgW i j m c _ (fun g hp=>hq g (List.mem_cons_of_mem _ hp)) s
   have u:=zfE j m hap (fun l b=>Region.noSelect_spec i x ox l b hox) (fun l b=>Region.noSelect_spec i z f l b j) r t
   refine wpOpIn_mono (fun e d ⟨v,n,y⟩=>⟨n,?_⟩) u
   show chOK Dw P ops ro A T ((b,x)::(c++c2)) e d
   simp only[chOK,if_pos hb]
   refine YieldsIn.qOp hox ?_ y
   exact zbs hpx (fun D B=>zjD hb (by decide) (by simp[zdW]) n B) v
  ·simp only[chZ,if_neg (show ¬b<2 by omega)]at h
   have p:=h.1
   simp only[chOK,if_neg (show ¬2<2 by omega)]at p
   exact p
theorem zhX{n i:Nat}{c2:List (Nat×Nat)}:∀(c:List (Nat×Nat)),ChP md ops n (c++c2)→i∈idxs c→(∃o,ops[i]?=some o∧∀a∈o.after,Region.binds md a=true→a.on∉idxs (c++c2))→
  ∃d b e,c=d++(b,i)::e∧∀j∈d,j.1<2
 | [],_,hi,_=>by simp[idxs]at hi
 | (b,x)::c,hg,hi,⟨o,ho,hdep⟩=>by
  by_cases hx:x=i
  ·subst hx
   exact⟨[],b,c,rfl,by simp⟩
  ·have hi':i∈idxs c:=by
    simp only[idxs,List.map_cons,List.mem_cons]at hi
    exact hi.resolve_left fun a=>hx a.symm
   obtain⟨_,_,⟨y,w,_,q,_⟩,r⟩:=hg
   have s:b<2:=by
    rcases Nat.lt_or_ge b 2 with l|l
    ·exact l
    ·obtain⟨z,m,a,g,f,p⟩:=(q l).2 i (by show i∈idxs (c++c2);rw[zbV];exact List.mem_append_left _ hi')
     have:=Option.some.inj (ho.symm.trans m)
     subst this
     exact absurd (by simp only[List.cons_append,idxs,List.map_cons,List.mem_cons];exact p) (hdep a g f)
   obtain⟨d,u,e,rfl,v⟩:=zhX c r hi' ⟨o,ho,fun a g f t=>hdep a g f (by simp only[List.cons_append,idxs,List.map_cons,List.mem_cons];exact .inr t)⟩
   exact⟨(b,x)::d,u,e,rfl,fun j h=>by
    rcases List.mem_cons.1 h with rfl|h
    ·exact s
    ·exact v j h⟩
theorem zhf{a:Array Bool}(d:∀i,i<ops.size→a.getD i false=true):Region.ready md ops a=[]:=by{refine List.eq_nil_iff_forall_not_mem.2 fun i e=>?_;obtain⟨c,o,f,_⟩:=mem_ready.1 e;have b:=d i (Array.getElem?_eq_some_iff.1 f).1;rw[getD_both c]at b;cases b}
theorem zjI{ro:Option Nat}{A:Nat→Prop}{Q:Exit→Act→World→Prop}{T:Act→World→Prop}{z:Nat}{E:Oper}{c2:List (Nat×Nat)}(I:Region.noSelect ops=true)(b3:∀a w,T a w→wpListIn (FR ro) 0 P ops Q (ops.toList.drop ops.size) a w)(G:ops[z]?=some E)(a8:zax E=false)(a9:∀c∈E.after,Region.binds md c=false)(b9:∀h∈idxs c2,∃O,ops[h]?=some O∧∃c∈O.after,Region.binds md c=true∧(c.on=z∨c.on∈idxs c2)):
  ∀(m:Nat) (j:List (Nat×Nat)) (g:Array Bool) (a:Act) (w:World),j.length+c2.length=m→ChP md ops ops.size (j++c2)→z∉idxs (j++c2)→
   (∀F∈j,F.1<2→∃o,ops[F.2]?=some o∧o.apart ops E=true∧Ju o=true)→
   (∀i,i<ops.size→(g.getD i false=false↔i=z∨i∈idxs (j++c2)))→HeadInv md ops ops.size g→
   chZ Dw P ops ro A T z c2 j a w→wpAnyIn (FR ro) 0 P md ops Q (m+1) g a w:=by{
 have N:z<ops.size:=(Array.getElem?_eq_some_iff.1 G).1;intro m;induction m with
 | zero =>
  intro j g a w b4 R U W v u b
  have c6:j=[]:=List.eq_nil_of_length_eq_zero (by omega)
  have c7:c2=[]:=List.eq_nil_of_length_eq_zero (by omega)
  subst c6
  subst c7
  have X:g.getD z true=false:=getD_in (by rw[u.size];exact N) ((v z N).2 (.inl rfl))
  refine⟨(by
   intro b
   have:z∈Region.ready md ops g:=mem_ready.2 ⟨X,E,G,fun c s f=>by rw[a9 c s]at f;cases f⟩
   rw[b]at this
   exact absurd this (by simp)),fun i K=>?_⟩
  obtain⟨Z,o,n,a6⟩:=mem_ready.1 K
  have J:i<ops.size:=(Array.getElem?_eq_some_iff.1 n).1
  obtain rfl:i=z:=by
   rcases (v i J).1 (getD_both Z)with b|b
   exact b
   simp[idxs]at b
  obtain rfl:E=o:=Option.some.inj (G.symm.trans n)
  have a3:=zgW I G a8 [] a (fun F hp=>by simp at hp) b
  refine wpOpIn_mono (fun p x ⟨_,B⟩=>?_) (ziF a3)
  have l:=zfd (ro:=ro) (A:=A) (md:=md) (P:=P) (ops:=ops) (Q:=Q) (n:=ops.size) (T:=T) I (Nat.le_refl _) (fun b=>absurd b (Nat.lt_irrefl _)) (fun g c0 H M=>by
   rw[Nat.sub_self]
   simp[Region.seqB,zhf H]) b3 0 [] (g.setIfInBounds i true) p x rfl trivial (fun h t=>by
    by_cases r:h=i
    subst r
    have L:h<g.size:=by rw[u.size];exact t
    simp[L,idxs]
    rw[getD_set_ne false (Ne.symm r),v h t]
    simp[idxs,r]) (u.set K J) B
  simpa using l
 | succ m ih =>
  intro j g a w b4 R U W v u b
  have X:g.getD z true=false:=getD_in (by rw[u.size];exact N) ((v z N).2 (.inl rfl))
  refine⟨(by
   intro b
   have:z∈Region.ready md ops g:=mem_ready.2 ⟨X,E,G,fun c s f=>by rw[a9 c s]at f;cases f⟩
   rw[b]at this
   exact absurd this (by simp)),fun i K=>?_⟩
  obtain⟨Z,o,n,a6⟩:=mem_ready.1 K
  have J:i<ops.size:=(Array.getElem?_eq_some_iff.1 n).1
  have a0:∀c∈o.after,Region.binds md c=true→c.on≠z∧c.on∉idxs (j++c2):=fun c s f=>by
   have e:=a6 c s f
   have b0:c.on<ops.size:=by
    rcases Nat.lt_or_ge c.on ops.size with l|l
    exact l
    simp[Array.getElem?_eq_none (show g.size≤c.on by rw[u.size];exact l)]at e
   refine⟨fun a4=>?_,fun a4=>?_⟩
   rw[(v _ b0).2 (.inl a4)]at e
   cases e
   rw[(v _ b0).2 (.inr a4)]at e
   cases e
  by_cases a1:i=z
  subst a1
  obtain rfl:E=o:=Option.some.inj (G.symm.trans n)
  have a3:=zgW I G a8 j a W b
  refine wpOpIn_mono (fun p x ⟨_,B⟩=>?_) (ziF a3)
  have l:=zfd (ro:=ro) (A:=A) (md:=md) (P:=P) (ops:=ops) (Q:=Q) (n:=ops.size) (T:=T) I (Nat.le_refl _) (fun b=>absurd b (Nat.lt_irrefl _)) (fun g c0 H M=>by
   rw[Nat.sub_self]
   simp[Region.seqB,zhf H]) b3 (m+1) (j++c2) (g.setIfInBounds i true) p x (by simp;omega) R (fun h t=>by
    by_cases r:h=i
    subst r
    have L:h<g.size:=by rw[u.size];exact t
    simp only[U,iff_false]
    simp[L]
    rw[getD_set_ne false (Ne.symm r),v h t]
    simp[r]) (u.set K J) B
  simpa using l
  ·have b1:i∈idxs (j++c2):=((v i J).1 (getD_both Z)).resolve_left a1
   have b6:i∈idxs j:=by
    rw[zbV,List.mem_append]at b1
    rcases b1 with e|e
    ·exact e
    ·obtain⟨O,c1,c,s,f,c3⟩:=b9 i e
     obtain rfl:o=O:=Option.some.inj (n.symm.trans c1)
     obtain⟨H,M⟩:=a0 c s f
     rcases c3 with l|l
     ·exact absurd l H
     ·exact absurd (by rw[zbV];exact List.mem_append_right _ l) M
   obtain⟨d,y,q,rfl,a5⟩:=zhX j R b6 ⟨o,n,fun c s f=>(a0 c s f).2⟩
   have b5:d++(y,i)::q++c2=d++(y,i)::(q++c2):=by simp
   have D:=R
   rw[b5]at D
   have S:∀c∈o.after,Region.binds md c=true→c.on∉idxs (d++(y,i)::(q++c2)):=fun c s f=>by rw[← b5];exact (a0 c s f).2
   have b2:=zhD (x:=(y,i)) n a5 S D
   rw[← List.append_assoc]at b2
   have b7:i∉idxs (d++q++c2):=by
    rw[List.append_assoc]
    have c4:∀(d:List (Nat×Nat)),ChP md ops ops.size (d++(y,i)::(q++c2))→i∉idxs (d++(q++c2)):=by
     intro d
     induction d with
     | nil=>exact fun b=>b.2.1
     | cons F d ihp =>
      obtain⟨c8,d0⟩:=F
      intro b
      have e:=ihp b.2.2.2
      have l:=b.2.1
      simp only[List.cons_append,idxs,List.map_cons,List.mem_cons,not_or]
      refine⟨fun c=>l (by subst c;simp[idxs]),e⟩
    exact c4 d D
   have b8:∀h,h∈idxs (d++q++c2)→h∈idxs (d++(y,i)::q++c2):=fun h t=>by
    simp only[idxs,List.map_append,List.mem_append,List.map_cons,List.mem_cons]at t ⊢
    rcases t with (e|e)|e
    ·exact .inl (.inl e)
    ·exact .inl (.inr (.inr e))
    ·exact .inr e
   have a7:∀p x,chZ Dw P ops ro A T z c2 (d++q) p x→wpAnyIn (FR ro) 0 P md ops Q (m+1) (g.setIfInBounds i true) p x:=fun p x B =>
    ih (d++q) _ p x (by simp at b4 ⊢;omega) b2 (fun b=>U (b8 _ b)) (fun F hp=>W F (by
     rcases List.mem_append.1 hp with e|e
     ·exact List.mem_append_left _ e
     ·exact List.mem_append_right _ (List.mem_cons_of_mem _ e))) (fun h t=>by
     by_cases r:h=i
     ·subst r
      have L:h<g.size:=by rw[u.size];exact t
      simp only[b7,a1,or_self,iff_false]
      simp[L]
     ·rw[getD_set_ne false (Ne.symm r),v h t]
      simp only[zbV,List.mem_append]
      simp[idxs,r]) (u.set K J) B
   have a2:∀(d:List (Nat×Nat)),ChP md ops ops.size (d++(y,i)::(q++c2))→(2≤y→zax o=false)∧(y<2→Ju o=true):=by
    intro d
    induction d with
    | nil =>
     rintro⟨_,_,⟨c9,c5,_,H,M⟩,_⟩
     have:=Option.some.inj (n.symm.trans c5)
     subst this
     exact⟨fun b=>(H b).1,fun b=>(M b).1⟩
    | cons F d ihp=>exact fun b=>ihp b.2.2.2
   rcases Nat.lt_or_ge y 2 with f|f
   ·exact zlR n ((a2 d D).2 f) (zhS f I n ((a2 d D).2 f) d a D a5 S b) fun p B=>a7 p w B
   ·exact wpOpIn_mono (fun p x ⟨_,B⟩=>a7 p x B) (ziF (ziS f I n ((a2 d D).1 f) d a D a5 S b))}
def chzB(md:Region.Mode)(ops:Array Oper)(z:Nat)(c1 c2:List (Nat×Nat)):Bool :=
 Region.noSelect ops&&decide (c1.length+c2.length+1=ops.size)&&chG md ops ops.size (c1++c2)&&((List.range ops.size).all fun i=>(i==z)||(idxs (c1++c2)).contains i)&&!(idxs (c1++c2)).contains z &&
  (match ops[z]? with
  | none=>false
  | some oz=>!zax oz&&(oz.after.all fun e=>!Region.binds md e)&&c1.all fun p=>decide (2≤p.1)||match ops[p.2]? with
   | none=>false
   | some o=>o.apart ops oz&&Ju o) &&
  (idxs c2).all fun j=>match ops[j]? with
   | none=>false
   | some oj=>oj.after.any fun e=>Region.binds md e&&(e.on==z||(idxs c2).contains e.on)
def CHZ(Dw:Prop)(P:Program)(nn:Fr)(ops:Array Oper)(A:Nat→Prop)(T:Act→World→Prop)(z:Nat)(c2 c:List (Nat×Nat))(E:Env)(w:World):Prop:=∀a,Has nn a E→chZ Dw P ops nn.ro A T z c2 c a w
end
section
variable{P:Program}{nn:Fr}{Q:Exit→Act→World→Prop}{A:Nat→Prop}{T:Act→World→Prop}{E:Env}{w w0:World}{l tl r:List Oper}{o:Oper}{c c2:List (Nat×Nat)}{i n id z:Nat}
theorem zfQ(A:Nat→Prop)(z:Nat)(c c2:List (Nat×Nat))(B:P.follows .mixedOrders=true)(hB:chzB .any l.toArray z c c2=true)(n:∀u,Kp Dw w u→CHZ Dw P nn l.toArray A (fun j m=>wpListIn (FR nn.ro) 0 P l.toArray Q [] j m) z c2 c E u):C P nn (.region id l.toArray true) Q E w:=by{
 intro p D;refine wpIn_region_any B ?_;simp only[chzB,Bool.and_eq_true,decide_eq_true_eq]at hB;obtain⟨⟨⟨⟨⟨⟨F,G⟩,H⟩,I⟩,J⟩,e⟩,f⟩:=hB
 obtain⟨a,x,g⟩:∃a,l.toArray[z]?=some a∧(!zax a&&(a.after.all fun q=>!Region.binds .any q)&&c.all fun d=>decide (2≤d.1)||match l.toArray[d.2]? with
   | none=>false
   | some o=>o.apart l.toArray a&&Ju o)=true:=by
  cases ho:l.toArray[z]? with
  | none=>rw[ho]at e;cases e
  | some a=>rw[ho]at e;exact⟨a,rfl,e⟩
 simp only[Bool.and_eq_true]at g;obtain⟨⟨g,K⟩,y⟩:=g
 have s:=zjI (ro:=nn.ro) (A:=A) (md := .any) (P:=P) (ops:=l.toArray) (Q:=Q) (c2:=c2) (T:=fun j m=>wpListIn (FR nn.ro) 0 P l.toArray Q [] j m) F (fun p w n=>by simpa using n) x (by simpa using g)
  (fun q L=>by
   have:=Array.all_eq_true'.1 K q L
   simpa using this)
  (fun r M=>by
   have:=List.all_eq_true.1 f r M
   cases hoj:l.toArray[r]? with
   | none=>rw[hoj]at this;cases this
   | some h =>
    rw[hoj]at this
    obtain⟨T,N,f⟩:=Array.any_eq_true.1 this
    simp only[Bool.and_eq_true,Bool.or_eq_true,beq_iff_eq,List.contains_iff_mem]at f
    exact⟨h,rfl,_,Array.getElem_mem N,f⟩)
  (c.length+c2.length) c (Array.replicate l.toArray.size false) p { w with drawn:=w.drawn+1 } rfl (zjA H) (by simpa using J)
  (fun d hp S=>by
   have:=List.all_eq_true.1 y d hp
   simp only[Bool.or_eq_true,decide_eq_true_eq]at this
   have b:=this.resolve_left (by omega)
   cases hoj:l.toArray[d.2]? with
   | none=>rw[hoj]at b;cases b
   | some h =>
    rw[hoj]at b
    simp only[Bool.and_eq_true]at b
    exact⟨h,rfl,b⟩)
  (fun i O=>by
   rw[getD_replicate_false]
   have:=List.all_eq_true.1 I i (List.mem_range.2 O)
   simpa using this)
  ⟨by simp,fun r h _ v=>(by rw[getD_replicate_false]at v;cases v),fun t _ R=>getD_in (by simpa using R) (getD_replicate_false _ _)⟩
  (n _ (Kp.drew (Dw:=Dw) _) p D)
 rw[G]at s;exact s}
theorem zkv(a:CH Dw P nn l.toArray A T ((2,z)::c2) E w):CHZ Dw P nn l.toArray A T z c2 [] E w:=a
theorem zhx(d:l.drop i=o::r)(g:VQ P nn l.toArray (fun a=>Kp Dw w a) (fun e=>chZ Dw P l.toArray nn.ro A T z c2 c e w) [o] E):CHZ Dw P nn l.toArray A T z c2 ((0,i)::c) E w:=by{intro b f;simp only[chZ,if_pos (show 0<2 by decide)];show qOp P l.toArray (fun a=>Kp Dw w a) i _ b;unfold qOp;simp only[zcw d];exact g b f}
theorem jP(d:l.drop i=o::r)(g:VQ P nn l.toArray (fun a=>XA A w a) (fun e=>chZ Dw P l.toArray nn.ro A T z c2 c e w) [o] E):CHZ Dw P nn l.toArray A T z c2 ((1,i)::c) E w:=by{intro b f;simp only[chZ,if_pos (show 1<2 by decide)];show qOp P l.toArray (fun a=>XA A w a) i _ b;unfold qOp;simp only[zcw d];exact g b f}
theorem jc{W:World→Prop}(d:CHZ Dw P nn l.toArray A T z c2 c E w):VQ P nn l.toArray W (fun a=>chZ Dw P l.toArray nn.ro A T z c2 c a w) [] E:=fun e b=>wpQuiet_nil (d e b)
theorem zlr(h:List (Nat×Nat)){k:Nat}(m:h=(2,z)::(k+2,i)::(c++c2))(p:CH Dw P nn l.toArray A T h E w)(q:l.drop i=o::r)(d:V P nn l.toArray (Exit.then (fun s e=>sw Dw A (k+2) w e∧chZ Dw P l.toArray nn.ro A T z c2 c s e) QF) [o] E w):CHZ Dw P nn l.toArray A T z c2 ((k+2,i)::c) E w:=by{
 subst m;intro f j;simp only[chZ,if_neg (show ¬k+2<2 by omega)];refine⟨p f j,?_⟩;show wpOpIn _ 0 P l.toArray QF i _ f w;have a:=d f j;unfold wpListIn at a;unfold wpOpIn;simp only[zcw q];split;rename_i hw;rw[if_pos hw]at a;refine⟨a.1,?_⟩;have a:=a.2;generalize (o.semAt (FR nn.ro).round f.eval).run P w=r at *;cases r with
 | ok x e =>
  cases x <;> simp only[Oper.uponIn]at a ⊢ <;>
   first
    | exact a
    | exact⟨a.1,CallsIn.mono a.2 (fun g n b=>by
      cases g with
      | returned u=>exact b
      | panicked c=>exact False.elim b
      | outgrown=>exact False.elim (by obtain⟨_,_,d⟩:=b;exact d))⟩
    | exact⟨a.1,RoundIn.mono a.2 (fun g n b=>by
      cases g with
      | returned u=>exact b
      | panicked c=>exact False.elim b
      | outgrown=>exact False.elim (by obtain⟨_,_,d⟩:=b;exact d))⟩
 | halt x e=>cases x <;> simp only[Oper.uponIn]at a ⊢ <;> exact False.elim a
 rename_i hw;rw[if_neg hw]at a;exact a}
theorem zmq(d:Kp Dw w0 w)(a:CHZ Dw P nn l.toArray A T z c2 c E w):V P nn l.toArray (Exit.then (fun e b=>sw Dw A (0+2) w0 b∧chZ Dw P l.toArray nn.ro A T z c2 c e b) QF) [] E w:=fun g f=>wpListIn_nil ⟨⟨fun _=>d,fun a=>absurd a (by decide)⟩,a g f⟩
end
section
variable{P:Program}{n:Fr}{ops:Array Oper}{Q:Exit→Act→World→Prop}{rest:List Oper}{E:Env}{w:World}{B:Nat}{A:Nat→Prop}{L:List Ob}{d ty t:Nat}{pos:String}{af:Array Edge}
theorem zek{b:Value}(g:Hp B A w L)(h:∀w,(zeroValue t).run P w=.ok b w)(hB:B≤w.heap.size)(e:∀a,w.heap.size≤a→A a)(i:Nat.blt d n.sz=true)(j:∀a c f,Kp Dw w c→Hp B f c (obC a b.cells.toList t::L)→Tr Dw B A w f c→V P n ops Q rest ((d,.pointer (some ⟨a,0,none⟩))::E) c):
  V P n ops Q (⟨some d,.alloc t,ty,pos,af,none⟩::rest) E w :=
 V_y (w':=w.alloc (.cells b.cells t)) (v := .pointer (some ⟨w.heap.size,0,none⟩)) (fun l e=>by simp only[execOp,Instr.alloc];simp[h,newVar,newRow]) rfl rfl i (j _ _ _ (Kp.alloc _ _) (by simpa using g.alloc (.cells b.cells t) hB e) ((zaT (Dw:=Dw) B _ e).tr hB))
end
end Go.Gw
