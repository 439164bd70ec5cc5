import Derived.Test.YtcnidlpginehjaaGreatGq
namespace Go.Gw
open Go Go.RowKit Go.Pu
variable{Dw:Prop}
set_option linter.unusedSimpArgs false
set_option linter.unusedVariables false
section
variable{P:Program}{ops:Array Oper}{md:Region.Mode}
def chZ(Dw:Prop)(P:Program)(ops:Array Oper)(ro:Option Nat)(A:Nat→Prop)(T:Act→World→Prop)(z:Nat)(c2:List (Nat×Nat)):List (Nat×Nat)→Act→World→Prop
 | [],a,w=>chOK Dw P ops ro A T ((2,z)::c2) a w
 | (b,i)::c,a,w=>if b<2 then qOp P ops (fun w'=>cls Dw A b w w') i (fun a'=>chZ Dw P ops ro A T z c2 c a' w) a
  else chOK Dw P ops ro A T ((2,z)::(b,i)::(c++c2)) a w∧wpOpIn (FR ro) 0 P ops QF i (fun a' w'=>sw Dw A b w w'∧chZ Dw P ops ro A T z c2 c a' w') a w
theorem zgq{ro:Option Nat}{A:Nat→Prop}{T:Act→World→Prop}{n i g z:Nat}(D:g<2){f c2:List (Nat×Nat)}{w:World}{l:Oper}(s:Region.noSelect ops=true)(j:ops[i]?=some l)(E:jp l=true):
  ∀(b:List (Nat×Nat)) (a:Act),ChP md ops n (b++(g,i)::(f++c2))→(∀y∈b,y.1<2)→(∀c∈l.after,Region.binds md c=true→c.on∉idxs (b++(g,i)::(f++c2)))→chZ Dw P ops ro A T z c2 (b++(g,i)::f) a w→
   qOp P ops (fun e=>e=w) i (fun q=>chZ Dw P ops ro A T z c2 (b++f) q w) a
 | [],a,_,_,_,h=>by
  have h1:qOp P ops (fun e=>cls Dw A g w e) i (fun q=>chZ Dw P ops ro A T z c2 f q w) a:=by
   simp only[List.nil_append,chZ,if_pos D]at h
   exact h
  obtain⟨I,m,t⟩:=yieldsIn_of_qOp j h1
  exact (JH E (fun e c=>by subst c;exact zaM) m).qOp j t
 | (d,x)::b,a,hg,hq,hno,h=>by
  have k:d<2:=hq (d,x) (by simp)
  obtain⟨_,_,⟨o,p,_,_,G⟩,M⟩:=hg
  have B:o.apart ops l=true:=(zce (n:=n) (b:=g) (c:=b++(g,i)::(f++c2)) p j (by simp) (fun c u k v=>hno c u k (by simpa [idxs]using v)) (G k).2).1
  have N:qOp P ops (fun e=>cls Dw A d w e) x (fun q=>chZ Dw P ops ro A T z c2 (b++(g,i)::f) q w) a:=by
   simp only[List.cons_append,chZ,if_pos k]at h
   exact h
  obtain⟨I,m,t⟩:=yieldsIn_of_qOp p N
  have O:=zgq D s j E b _ M (fun y m=>hq y (List.mem_cons_of_mem _ m)) (fun c u k v=>hno c u k (by simp only[List.cons_append,idxs,List.map_cons,List.mem_cons];exact .inr v)) t
  have J:YieldsIn P ops (fun e=>e=w) o I a:=JH (G k).1 (fun e c=>by subst c;exact zaM) m
  have Q:=qOp_put j B (fun r d=>Region.noSelect_spec s x o r d p) (fun r d=>Region.noSelect_spec s i l r d j) J O
  obtain⟨H,K,L⟩:=yieldsIn_of_qOp j Q
  refine K.qOp j ?_
  obtain⟨R,S,F⟩:=Oper.apart_spec B
  show chZ Dw P ops ro A T z c2 ((d,x)::(b++f)) _ w
  simp only[chZ,if_pos k]
  refine YieldsIn.qOp p ?_ L.2
  exact m.of_same (execOp_put o (fun r d=>Region.noSelect_spec s x o r d p) a l.dst H F) (wanted_put o a l.dst H F)
theorem zgR{ro:Option Nat}{A:Nat→Prop}{T:Act→World→Prop}{n i k z:Nat}(y:2≤k){e c2:List (Nat×Nat)}{w:World}{m:Oper}(p:Region.noSelect ops=true)(o:ops[i]?=some m)(B:Jl m=false):
  ∀(b:List (Nat×Nat)) (a:Act),ChP md ops n (b++(k,i)::(e++c2))→(∀v∈b,v.1<2)→(∀g∈m.after,Region.binds md g=true→g.on∉idxs (b++(k,i)::(e++c2)))→chZ Dw P ops ro A T z c2 (b++(k,i)::e) a w→
   wpOpIn (FR ro) 0 P ops QF i (fun j f=>sw Dw A k w f∧chZ Dw P ops ro A T z c2 (b++e) j f) a w
 | [],_,_,_,_,h=>by
  simp only[List.nil_append,chZ,if_neg (show ¬k<2 by omega)]at h
  exact h.2
 | (d,x)::b,a,hg,hq,hno,h=>by
  have c:d<2:=hq (d,x) (by simp)
  obtain⟨_,_,⟨H,l,_,_,q⟩,I⟩:=hg
  obtain⟨G,F⟩:=zce (n:=n) (b:=k) (c:=b++(k,i)::(e++c2)) l o (by simp) (fun g r c s=>hno g r c (by simpa [idxs]using s)) (q c).2
  have J:qOp P ops (fun f=>cls Dw A d w f) x (fun j=>chZ Dw P ops ro A T z c2 (b++(k,i)::e) j w) a:=by
   simp only[List.cons_append,chZ,if_pos c]at h
   exact h
  obtain⟨U,t,K⟩:=yieldsIn_of_qOp l J
  have L:=zgR y p o B b _ I (fun v t=>hq v (List.mem_cons_of_mem _ t)) (fun g r c s=>hno g r c (by simp only[List.cons_append,idxs,List.map_cons,List.mem_cons];exact .inr s)) K
  have M:=zdm o B G (fun u d=>Region.noSelect_spec p x H u d l) (fun u d=>Region.noSelect_spec p i m u d o) t L
  refine wpOpIn_mono (fun j f ⟨D,E,N⟩=>⟨E,?_⟩) M
  show chZ Dw P ops ro A T z c2 ((d,x)::(b++e)) j f
  simp only[chZ,if_pos c]
  refine YieldsIn.qOp l ?_ N
  rcases F with O|Q
  ·exact JH (q c).1 (fun S R=>zfN c y O E R) D
  ·exact zdz (q c).1 Q zaM D
theorem zed{ro:Option Nat}{A:Nat→Prop}{T:Act→World→Prop}{z:Nat}{c2:List (Nat×Nat)}{w:World}{f:Oper}(i:Region.noSelect ops=true)(j:ops[z]?=some f)(l:Jl f=false):
  ∀(c:List (Nat×Nat)) (a:Act),(∀g∈c,g.1<2→∃o,ops[g.2]?=some o∧o.apart ops f=true∧jp o=true)→chZ Dw P ops ro A T z c2 c a w→
   wpOpIn (FR ro) 0 P ops QF z (fun e d=>sw Dw A 2 w d∧chOK Dw P ops ro A T (c++c2) e d) a w
 | [],a,_,h=>by
  simp only[chZ,chOK,if_neg (show ¬2<2 by omega)]at h
  exact h
 | (b,x)::c,a,hq,h=>by
  rcases Nat.lt_or_ge b 2 with hb|hb
  ·obtain⟨ox,hox,hap,hpx⟩:=hq (b,x) (by simp) hb
   have p:qOp P ops (fun d=>cls Dw A b w d) x (fun e=>chZ Dw P ops ro A T z c2 c e w) a:=by
    simp only[chZ,if_pos hb]at h
    exact h
   obtain⟨D,q,r⟩:=yieldsIn_of_qOp hox p
   have s:=zed i j l c _ (fun g hp=>hq g (List.mem_cons_of_mem _ hp)) r
   have t:=zdm j l hap (fun k b=>Region.noSelect_spec i x ox k b hox) (fun k b=>Region.noSelect_spec i z f k b j) q s
   refine wpOpIn_mono (fun e d ⟨u,m,v⟩=>⟨m,?_⟩) t
   show chOK Dw P ops ro A T ((b,x)::(c++c2)) e d
   simp only[chOK,if_pos hb]
   refine YieldsIn.qOp hox ?_ v
   exact JH hpx (fun B y=>zfN hb (by decide) (by simp[zdf]) m y) u
  ·simp only[chZ,if_neg (show ¬b<2 by omega)]at h
   have n:=h.1
   simp only[chOK,if_neg (show ¬2<2 by omega)]at n
   exact n
theorem zeI{n i:Nat}{c2:List (Nat×Nat)}:∀(c:List (Nat×Nat)),ChP md ops n (c++c2)→i∈idxs c→(∃o,ops[i]?=some o∧∀a∈o.after,Region.binds md a=true→a.on∉idxs (c++c2))→
  ∃d b e,c=d++(b,i)::e∧∀j∈d,j.1<2
 | [],_,hi,_=>by simp[idxs]at hi
 | (b,x)::c,hg,hi,⟨o,ho,hdep⟩=>by
  by_cases hx:x=i
  ·subst hx
   exact⟨[],b,c,rfl,by simp⟩
  ·have hi':i∈idxs c:=by
    simp only[idxs,List.map_cons,List.mem_cons]at hi
    exact hi.resolve_left fun a=>hx a.symm
   obtain⟨_,_,⟨w,v,_,p,_⟩,q⟩:=hg
   have r:b<2:=by
    rcases Nat.lt_or_ge b 2 with k|k
    ·exact k
    ·obtain⟨y,l,a,g,f,m⟩:=(p k).2 i (by show i∈idxs (c++c2);rw[jg];exact List.mem_append_left _ hi')
     have:=Option.some.inj (ho.symm.trans l)
     subst this
     exact absurd (by simp only[List.cons_append,idxs,List.map_cons,List.mem_cons];exact m) (hdep a g f)
   obtain⟨d,t,e,rfl,u⟩:=zeI c q hi' ⟨o,ho,fun a g f s=>hdep a g f (by simp only[List.cons_append,idxs,List.map_cons,List.mem_cons];exact .inr s)⟩
   exact⟨(b,x)::d,t,e,rfl,fun j h=>by
    rcases List.mem_cons.1 h with rfl|h
    ·exact r
    ·exact u j h⟩
theorem zeb{listed:Array Bool}(c:∀i,i<ops.size→listed.getD i false=true):Region.ready md ops listed=[]:=by{refine List.eq_nil_iff_forall_not_mem.2 fun i d=>?_;obtain⟨b,o,e,_⟩:=mem_ready.1 d;have a:=c i (Array.getElem?_eq_some_iff.1 e).1;rw[getD_both b]at a;cases a}
theorem zhH{ro:Option Nat}{A:Nat→Prop}{Q:Exit→Act→World→Prop}{T:Act→World→Prop}{z:Nat}{y:Oper}{c2:List (Nat×Nat)}(G:Region.noSelect ops=true)(b1:∀a w,T a w→wpListIn (FR ro) 0 P ops Q (ops.toList.drop ops.size) a w)(D:ops[z]?=some y)(a6:Jl y=false)(a7:∀c∈y.after,Region.binds md c=false)(b7:∀g∈idxs c2,∃M,ops[g]?=some M∧∃c∈M.after,Region.binds md c=true∧(c.on=z∨c.on∈idxs c2)):
  ∀(F:Nat) (h:List (Nat×Nat)) (listed:Array Bool) (a:Act) (w:World),h.length+c2.length=F→ChP md ops ops.size (h++c2)→z∉idxs (h++c2)→
   (∀B∈h,B.1<2→∃o,ops[B.2]?=some o∧o.apart ops y=true∧jp o=true)→
   (∀i,i<ops.size→(listed.getD i false=false↔i=z∨i∈idxs (h++c2)))→HeadInv md ops ops.size listed→
   chZ Dw P ops ro A T z c2 h a w→wpAnyIn (FR ro) 0 P md ops Q (F+1) listed a w:=by{
 have L:z<ops.size:=(Array.getElem?_eq_some_iff.1 D).1;intro F;induction F with
 | zero =>
  intro h listed a w b2 N R S s r b
  have c4:h=[]:=List.eq_nil_of_length_eq_zero (by omega)
  have c5:c2=[]:=List.eq_nil_of_length_eq_zero (by omega)
  subst c4
  subst c5
  have U:listed.getD z true=false:=getD_in (by rw[r.size];exact L) ((s z L).2 (.inl rfl))
  refine⟨(by
   intro b
   have:z∈Region.ready md ops listed:=mem_ready.2 ⟨U,y,D,fun c p f=>by rw[a7 c p]at f;cases f⟩
   rw[b]at this
   exact absurd this (by simp)),fun i I=>?_⟩
  obtain⟨W,o,k,a4⟩:=mem_ready.1 I
  have H:i<ops.size:=(Array.getElem?_eq_some_iff.1 k).1
  obtain rfl:i=z:=by
   rcases (s i H).1 (getD_both W)with b|b
   exact b
   simp[idxs]at b
  obtain rfl:y=o:=Option.some.inj (D.symm.trans k)
  have a1:=zed G D a6 [] a (fun B hp=>by simp at hp) b
  refine wpOpIn_mono (fun l t ⟨_,v⟩=>?_) (zeZ a1)
  have j:=zcH (ro:=ro) (A:=A) (md:=md) (P:=P) (ops:=ops) (Q:=Q) (n:=ops.size) (T:=T) G (Nat.le_refl _) (fun b=>absurd b (Nat.lt_irrefl _)) (fun listed b8 E K=>by
   rw[Nat.sub_self]
   simp[Region.seqB,zeb E]) b1 0 [] (listed.setIfInBounds i true) l t rfl trivial (fun g q=>by
    by_cases n:g=i
    subst n
    have J:g<listed.size:=by rw[r.size];exact q
    simp[J,idxs]
    rw[getD_set_ne false (Ne.symm n),s g q]
    simp[idxs,n]) (r.set I H) v
  simpa using j
 | succ F ih =>
  intro h listed a w b2 N R S s r b
  have U:listed.getD z true=false:=getD_in (by rw[r.size];exact L) ((s z L).2 (.inl rfl))
  refine⟨(by
   intro b
   have:z∈Region.ready md ops listed:=mem_ready.2 ⟨U,y,D,fun c p f=>by rw[a7 c p]at f;cases f⟩
   rw[b]at this
   exact absurd this (by simp)),fun i I=>?_⟩
  obtain⟨W,o,k,a4⟩:=mem_ready.1 I
  have H:i<ops.size:=(Array.getElem?_eq_some_iff.1 k).1
  have X:∀c∈o.after,Region.binds md c=true→c.on≠z∧c.on∉idxs (h++c2):=fun c p f=>by
   have e:=a4 c p f
   have a8:c.on<ops.size:=by
    rcases Nat.lt_or_ge c.on ops.size with j|j
    exact j
    simp[Array.getElem?_eq_none (show listed.size≤c.on by rw[r.size];exact j)]at e
   refine⟨fun a2=>?_,fun a2=>?_⟩
   rw[(s _ a8).2 (.inl a2)]at e
   cases e
   rw[(s _ a8).2 (.inr a2)]at e
   cases e
  by_cases Z:i=z
  subst Z
  obtain rfl:y=o:=Option.some.inj (D.symm.trans k)
  have a1:=zed G D a6 h a S b
  refine wpOpIn_mono (fun l t ⟨_,v⟩=>?_) (zeZ a1)
  have j:=zcH (ro:=ro) (A:=A) (md:=md) (P:=P) (ops:=ops) (Q:=Q) (n:=ops.size) (T:=T) G (Nat.le_refl _) (fun b=>absurd b (Nat.lt_irrefl _)) (fun listed b8 E K=>by
   rw[Nat.sub_self]
   simp[Region.seqB,zeb E]) b1 (F+1) (h++c2) (listed.setIfInBounds i true) l t (by simp;omega) N (fun g q=>by
    by_cases n:g=i
    subst n
    have J:g<listed.size:=by rw[r.size];exact q
    simp only[R,iff_false]
    simp[J]
    rw[getD_set_ne false (Ne.symm n),s g q]
    simp[n]) (r.set I H) v
  simpa using j
  ·have a9:i∈idxs (h++c2):=((s i H).1 (getD_both W)).resolve_left Z
   have b4:i∈idxs h:=by
    rw[jg,List.mem_append]at a9
    rcases a9 with e|e
    ·exact e
    ·obtain⟨M,b9,c,p,f,c0⟩:=b7 i e
     obtain rfl:o=M:=Option.some.inj (k.symm.trans b9)
     obtain⟨E,K⟩:=X c p f
     rcases c0 with j|j
     ·exact absurd j E
     ·exact absurd (by rw[jg];exact List.mem_append_right _ j) K
   obtain⟨d,u,m,rfl,a3⟩:=zeI h N b4 ⟨o,k,fun c p f=>(X c p f).2⟩
   have b3:d++(u,i)::m++c2=d++(u,i)::(m++c2):=by simp
   have x:=N
   rw[b3]at x
   have O:∀c∈o.after,Region.binds md c=true→c.on∉idxs (d++(u,i)::(m++c2)):=fun c p f=>by rw[← b3];exact (X c p f).2
   have b0:=zdK (x:=(u,i)) k a3 O x
   rw[← List.append_assoc]at b0
   have b5:i∉idxs (d++m++c2):=by
    rw[List.append_assoc]
    have c1:∀(d:List (Nat×Nat)),ChP md ops ops.size (d++(u,i)::(m++c2))→i∉idxs (d++(m++c2)):=by
     intro d
     induction d with
     | nil=>exact fun b=>b.2.1
     | cons B d ihp =>
      obtain⟨c6,c8⟩:=B
      intro b
      have e:=ihp b.2.2.2
      have j:=b.2.1
      simp only[List.cons_append,idxs,List.map_cons,List.mem_cons,not_or]
      refine⟨fun c=>j (by subst c;simp[idxs]),e⟩
    exact c1 d x
   have b6:∀g,g∈idxs (d++m++c2)→g∈idxs (d++(u,i)::m++c2):=fun g q=>by
    simp only[idxs,List.map_append,List.mem_append,List.map_cons,List.mem_cons]at q ⊢
    rcases q with (e|e)|e
    ·exact .inl (.inl e)
    ·exact .inl (.inr (.inr e))
    ·exact .inr e
   have a5:∀l t,chZ Dw P ops ro A T z c2 (d++m) l t→wpAnyIn (FR ro) 0 P md ops Q (F+1) (listed.setIfInBounds i true) l t:=fun l t v =>
    ih (d++m) _ l t (by simp at b2 ⊢;omega) b0 (fun b=>R (b6 _ b)) (fun B hp=>S B (by
     rcases List.mem_append.1 hp with e|e
     ·exact List.mem_append_left _ e
     ·exact List.mem_append_right _ (List.mem_cons_of_mem _ e))) (fun g q=>by
     by_cases n:g=i
     ·subst n
      have J:g<listed.size:=by rw[r.size];exact q
      simp only[b5,Z,or_self,iff_false]
      simp[J]
     ·rw[getD_set_ne false (Ne.symm n),s g q]
      simp only[jg,List.mem_append]
      simp[idxs,n]) (r.set I H) v
   have a0:∀(d:List (Nat×Nat)),ChP md ops ops.size (d++(u,i)::(m++c2))→(2≤u→Jl o=false)∧(u<2→jp o=true):=by
    intro d
    induction d with
    | nil =>
     rintro⟨_,_,⟨c7,c3,_,E,K⟩,_⟩
     have:=Option.some.inj (k.symm.trans c3)
     subst this
     exact⟨fun b=>(E b).1,fun b=>(K b).1⟩
    | cons B d ihp=>exact fun b=>ihp b.2.2.2
   rcases Nat.lt_or_ge u 2 with f|f
   ·exact zhx k ((a0 d x).2 f) (zgq f G k ((a0 d x).2 f) d a x a3 O b) fun l v=>a5 l w v
   ·exact wpOpIn_mono (fun l t ⟨_,v⟩=>a5 l t v) (zeZ (zgR f G k ((a0 d x).1 f) d a x a3 O b))}
def chzB(md:Region.Mode)(ops:Array Oper)(z:Nat)(c1 c2:List (Nat×Nat)):Bool :=
 Region.noSelect ops&&decide (c1.length+c2.length+1=ops.size)&&chG md ops ops.size (c1++c2)&&((List.range ops.size).all fun i=>(i==z)||(idxs (c1++c2)).contains i)&&!(idxs (c1++c2)).contains z &&
  (match ops[z]? with
  | none=>false
  | some oz=>!Jl oz&&(oz.after.all fun e=>!Region.binds md e)&&c1.all fun p=>decide (2≤p.1)||match ops[p.2]? with
   | none=>false
   | some o=>o.apart ops oz&&jp o) &&
  (idxs c2).all fun j=>match ops[j]? with
   | none=>false
   | some oj=>oj.after.any fun e=>Region.binds md e&&(e.on==z||(idxs c2).contains e.on)
def CHZ(Dw:Prop)(P:Program)(nn:Fr)(ops:Array Oper)(A:Nat→Prop)(T:Act→World→Prop)(z:Nat)(c2 c:List (Nat×Nat))(E:Env)(w:World):Prop:=∀a,Has nn a E→chZ Dw P ops nn.ro A T z c2 c a w
end
section
variable{P:Program}{nn:Fr}{Q:Exit→Act→World→Prop}{A:Nat→Prop}{T:Act→World→Prop}{E:Env}{w w0:World}{l tl r:List Oper}{o:Oper}{c c2:List (Nat×Nat)}{i n id z:Nat}
theorem zcO(A:Nat→Prop)(z:Nat)(c c2:List (Nat×Nat))(y:P.follows .mixedOrders=true)(hB:chzB .any l.toArray z c c2=true)(m:∀s,Kp Dw w s→CHZ Dw P nn l.toArray A (fun j k=>wpListIn (FR nn.ro) 0 P l.toArray Q [] j k) z c2 c E s):C P nn (.region id l.toArray true) Q E w:=by{
 intro n B;refine wpIn_region_any y ?_;simp only[chzB,Bool.and_eq_true,decide_eq_true_eq]at hB;obtain⟨⟨⟨⟨⟨⟨D,F⟩,G⟩,H⟩,I⟩,e⟩,f⟩:=hB
 obtain⟨a,v,g⟩:∃a,l.toArray[z]?=some a∧(!Jl a&&(a.after.all fun p=>!Region.binds .any p)&&c.all fun d=>decide (2≤d.1)||match l.toArray[d.2]? with
   | none=>false
   | some o=>o.apart l.toArray a&&jp o)=true:=by
  cases ho:l.toArray[z]? with
  | none=>rw[ho]at e;cases e
  | some a=>rw[ho]at e;exact⟨a,rfl,e⟩
 simp only[Bool.and_eq_true]at g;obtain⟨⟨g,J⟩,x⟩:=g
 have r:=zhH (ro:=nn.ro) (A:=A) (md := .any) (P:=P) (ops:=l.toArray) (Q:=Q) (c2:=c2) (T:=fun j k=>wpListIn (FR nn.ro) 0 P l.toArray Q [] j k) D (fun n w m=>by simpa using m) v (by simpa using g)
  (fun p K=>by
   have:=Array.all_eq_true'.1 J p K
   simpa using this)
  (fun q L=>by
   have:=List.all_eq_true.1 f q L
   cases hoj:l.toArray[q]? with
   | none=>rw[hoj]at this;cases this
   | some h =>
    rw[hoj]at this
    obtain⟨S,M,f⟩:=Array.any_eq_true.1 this
    simp only[Bool.and_eq_true,Bool.or_eq_true,beq_iff_eq,List.contains_iff_mem]at f
    exact⟨h,rfl,_,Array.getElem_mem M,f⟩)
  (c.length+c2.length) c (Array.replicate l.toArray.size false) n { w with drawn:=w.drawn+1 } rfl (zeS G) (by simpa using I)
  (fun d hp R=>by
   have:=List.all_eq_true.1 x d hp
   simp only[Bool.or_eq_true,decide_eq_true_eq]at this
   have b:=this.resolve_left (by omega)
   cases hoj:l.toArray[d.2]? with
   | none=>rw[hoj]at b;cases b
   | some h =>
    rw[hoj]at b
    simp only[Bool.and_eq_true]at b
    exact⟨h,rfl,b⟩)
  (fun i N=>by
   rw[getD_replicate_false]
   have:=List.all_eq_true.1 H i (List.mem_range.2 N)
   simpa using this)
  ⟨by simp,fun q h _ u=>(by rw[getD_replicate_false]at u;cases u),fun t _ O=>getD_in (by simpa using O) (getD_replicate_false _ _)⟩
  (m _ (Kp.drew (Dw:=Dw) _) n B)
 rw[F]at r;exact r}
theorem zdH(a:CH Dw P nn l.toArray A T ((2,z)::c2) E w):CHZ Dw P nn l.toArray A T z c2 [] E w:=a
theorem zct(d:l.drop i=o::r)(g:VQ P nn l.toArray (fun a=>Kp Dw w a) (fun e=>chZ Dw P l.toArray nn.ro A T z c2 c e w) [o] E):CHZ Dw P nn l.toArray A T z c2 ((0,i)::c) E w:=by{intro b f;simp only[chZ,if_pos (show 0<2 by decide)];show qOp P l.toArray (fun a=>Kp Dw w a) i _ b;unfold qOp;simp only[zci d];exact g b f}
theorem ZL(d:l.drop i=o::r)(g:VQ P nn l.toArray (fun a=>XA A w a) (fun e=>chZ Dw P l.toArray nn.ro A T z c2 c e w) [o] E):CHZ Dw P nn l.toArray A T z c2 ((1,i)::c) E w:=by{intro b f;simp only[chZ,if_pos (show 1<2 by decide)];show qOp P l.toArray (fun a=>XA A w a) i _ b;unfold qOp;simp only[zci d];exact g b f}
theorem Zw{W:World→Prop}(d:CHZ Dw P nn l.toArray A T z c2 c E w):VQ P nn l.toArray W (fun a=>chZ Dw P l.toArray nn.ro A T z c2 c a w) [] E:=fun e b=>wpQuiet_nil (d e b)
theorem zcY(h:List (Nat×Nat)){k:Nat}(m:h=(2,z)::(k+2,i)::(c++c2))(p:CH Dw P nn l.toArray A T h E w)(q:l.drop i=o::r)(d:V P nn l.toArray (Exit.then (fun s e=>sw Dw A (k+2) w e∧chZ Dw P l.toArray nn.ro A T z c2 c s e) QF) [o] E w):CHZ Dw P nn l.toArray A T z c2 ((k+2,i)::c) E w:=by{
 subst m;intro f j;simp only[chZ,if_neg (show ¬k+2<2 by omega)];refine⟨p f j,?_⟩;show wpOpIn _ 0 P l.toArray QF i _ f w;have a:=d f j;unfold wpListIn at a;unfold wpOpIn;simp only[zci q];split;rename_i hw;rw[if_pos hw]at a;refine⟨a.1,?_⟩;have a:=a.2;generalize (o.semAt (FR nn.ro).round f.eval).run P w=r at *;cases r with
 | ok x e =>
  cases x <;> simp only[Oper.uponIn]at a ⊢ <;>
   first
    | exact a
    | exact⟨a.1,CallsIn.mono a.2 (fun g n b=>by
      cases g with
      | returned u=>exact b
      | panicked c=>exact False.elim b
      | outgrown=>exact False.elim (by obtain⟨_,_,d⟩:=b;exact d))⟩
    | exact⟨a.1,RoundIn.mono a.2 (fun g n b=>by
      cases g with
      | returned u=>exact b
      | panicked c=>exact False.elim b
      | outgrown=>exact False.elim (by obtain⟨_,_,d⟩:=b;exact d))⟩
 | halt x e=>cases x <;> simp only[Oper.uponIn]at a ⊢ <;> exact False.elim a
 rename_i hw;rw[if_neg hw]at a;exact a}
theorem zfX(d:Kp Dw w0 w)(a:CHZ Dw P nn l.toArray A T z c2 c E w):V P nn l.toArray (Exit.then (fun e b=>sw Dw A (0+2) w0 b∧chZ Dw P l.toArray nn.ro A T z c2 c e b) QF) [] E w:=fun g f=>wpListIn_nil ⟨⟨fun _=>d,fun a=>absurd a (by decide)⟩,a g f⟩
end
section
variable{P:Program}{n:Fr}{ops:Array Oper}{Q:Exit→Act→World→Prop}{rest:List Oper}{E:Env}{w:World}{B:Nat}{A:Nat→Prop}{L:List Ob}{d ty t:Nat}{pos:String}{af:Array Edge}
theorem zbC{b:Value}(g:Hp B A w L)(h:∀w,(zeroValue t).run P w=.ok b w)(hB:B≤w.heap.size)(e:∀a,w.heap.size≤a→A a)(i:Nat.blt d n.sz=true)(j:∀a c f,Kp Dw w c→Hp B f c (obC a b.cells.toList t::L)→Tr Dw B A w f c→V P n ops Q rest ((d,.pointer (some ⟨a,0,none⟩))::E) c):
  V P n ops Q (⟨some d,.alloc t,ty,pos,af,none⟩::rest) E w :=
 V_y (w':=w.alloc (.cells b.cells t)) (v := .pointer (some ⟨w.heap.size,0,none⟩)) (fun k e=>by simp only[execOp,Instr.alloc];simp[h,newVar,newRow]) rfl rfl i (j _ _ _ (Kp.alloc _ _) (by simpa using g.alloc (.cells b.cells t) hB e) ((zaJ (Dw:=Dw) B _ e).tr hB))
end
end Go.Gw
