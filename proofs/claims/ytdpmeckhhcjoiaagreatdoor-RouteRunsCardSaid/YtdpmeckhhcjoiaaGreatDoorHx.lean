import Derived.Test.YtdpmeckhhcjoiaaGreatDoorHu
namespace Go.Gw
open Go Go.RowKit Go.Pu
variable{Dw:Prop}
set_option linter.unusedSimpArgs false
set_option linter.unusedVariables false
section
variable{P:Program}{ops:Array Oper}{md:Region.Mode}
def chA(Dw:Prop)(P:Program)(ops:Array Oper)(ro:Option Nat)(A:Nat→Prop)(T:Act→World→Prop):Nat→List Nat→Act→World→Prop
 | 0,_,a,w=>T a w
 | n+1,zs,a,w=>∀z∈zs,wpOpIn (FR ro) 0 P ops QF z (fun a' w'=>sw Dw A 2 w w'∧chA Dw P ops ro A T n (zs.erase z) a' w') a w
def chM(Dw:Prop)(P:Program)(ops:Array Oper)(ro:Option Nat)(A:Nat→Prop)(T:Act→World→Prop)(n:Nat)(zs:List Nat):List (Nat×Nat)→Act→World→Prop
 | [],a,w=>chA Dw P ops ro A T n zs a w
 | (b,i)::c,a,w=>qOp P ops (fun w'=>cls Dw A b w w') i (fun a'=>chM Dw P ops ro A T n zs c a' w) a
theorem zlW{ro:Option Nat}{A:Nat→Prop}{T:Act→World→Prop}{n m i g:Nat}{zs:List Nat}(I:g<2){f c2:List (Nat×Nat)}{w:World}{k:Oper}(s:Region.noSelect ops=true)(j:ops[i]?=some k)(E:JK k=true):
  ∀(b:List (Nat×Nat)) (a:Act),ChP md ops n (b++(g,i)::(f++c2))→(∀B∈b,B.1<2)→(∀c∈k.after,Region.binds md c=true→c.on∉idxs (b++(g,i)::(f++c2)))→chM Dw P ops ro A T m zs (b++(g,i)::f) a w→
   qOp P ops (fun e=>e=w) i (fun q=>chM Dw P ops ro A T m zs (b++f) q w) a
 | [],a,_,_,_,h=>by
  have h1:qOp P ops (fun e=>cls Dw A g w e) i (fun q=>chM Dw P ops ro A T m zs f q w) a:=h
  obtain⟨v,t,u⟩:=yieldsIn_of_qOp j h1
  exact (zbV E (fun e c=>by subst c;exact zdS) t).qOp j u
 | (d,x)::b,a,hg,hq,hno,h=>by
  have l:d<2:=hq (d,x) (by simp)
  obtain⟨_,_,⟨o,p,_,_,G⟩,M⟩:=hg
  have D:o.apart ops k=true:=(zgx (n:=n) (b:=g) (c:=b++(g,i)::(f++c2)) p j (by simp) (fun c y l z=>hno c y l (by simpa [idxs]using z)) (G l).2).1
  have N:qOp P ops (fun e=>cls Dw A d w e) x (fun q=>chM Dw P ops ro A T m zs (b++(g,i)::f) q w) a:=h
  obtain⟨v,t,u⟩:=yieldsIn_of_qOp p N
  have Q:=zlW I s j E b _ M (fun B O=>hq B (List.mem_cons_of_mem _ O)) (fun c y l z=>hno c y l (by simp only[List.cons_append,idxs,List.map_cons,List.mem_cons];exact .inr z)) u
  have J:YieldsIn P ops (fun e=>e=w) o v a:=zbV (G l).1 (fun e c=>by subst c;exact zdS) t
  have R:=qOp_put j D (fun r d=>Region.noSelect_spec s x o r d p) (fun r d=>Region.noSelect_spec s i k r d j) J Q
  obtain⟨H,K,L⟩:=yieldsIn_of_qOp j R
  refine K.qOp j ?_
  obtain⟨S,U,F⟩:=Oper.apart_spec D
  show chM Dw P ops ro A T m zs ((d,x)::(b++f)) _ w
  refine YieldsIn.qOp p ?_ L.2
  exact t.of_same (execOp_put o (fun r d=>Region.noSelect_spec s x o r d p) a k.dst H F) (wanted_put o a k.dst H F)
theorem znv{ro:Option Nat}{A:Nat→Prop}{T:Act→World→Prop}{n z:Nat}{zs:List Nat}{w:World}{f:Oper}(i:Region.noSelect ops=true)(j:ops[z]?=some f)(l:zbp f=false)(m:z∈zs):
  ∀(b:List (Nat×Nat)) (a:Act),(∀g∈b,g.1<2∧∃o,ops[g.2]?=some o∧o.apart ops f=true∧JK o=true)→chM Dw P ops ro A T (n+1) zs b a w→
   wpOpIn (FR ro) 0 P ops QF z (fun e c=>sw Dw A 2 w c∧chM Dw P ops ro A T n (zs.erase z) b e c) a w
 | [],a,_,h=>h z m
 | (d,x)::b,a,hq,h=>by
  obtain⟨hb,ox,hox,hap,hpx⟩:=hq (d,x) (by simp)
  have r:qOp P ops (fun c=>cls Dw A d w c) x (fun e=>chM Dw P ops ro A T (n+1) zs b e w) a:=h
  obtain⟨v,s,t⟩:=yieldsIn_of_qOp hox r
  have y:=znv i j l m b _ (fun g u=>hq g (List.mem_cons_of_mem _ u)) t
  have B:=zhk j l hap (fun k d=>Region.noSelect_spec i x ox k d hox) (fun k d=>Region.noSelect_spec i z f k d j) s y
  refine wpOpIn_mono (fun e c ⟨D,p,E⟩=>⟨p,?_⟩) B
  show qOp P ops (fun q=>cls Dw A d c q) x (fun F=>chM Dw P ops ro A T n (zs.erase z) b F c) e
  refine YieldsIn.qOp hox ?_ E
  exact zbV hpx (fun q G=>zln hb (by decide) (by simp[zfH]) p G) D
theorem zqR{ro:Option Nat}{A:Nat→Prop}{T T0:Act→World→Prop}{c2:List (Nat×Nat)}{zs:List Nat}{w:World}(e:∀a w,T a w→chOK Dw P ops ro A T0 c2 a w):
  ∀(c:List (Nat×Nat)) (a:Act),(∀d∈c,d.1<2∧∃o,ops[d.2]?=some o)→chM Dw P ops ro A T 0 zs c a w→chOK Dw P ops ro A T0 (c++c2) a w
 | [],a,_,h=>e a w h
 | (b,x)::c,a,hq,h=>by
  obtain⟨hb,ox,hox⟩:=hq (b,x) (by simp)
  have f:qOp P ops (fun g=>cls Dw A b w g) x (fun i=>chM Dw P ops ro A T 0 zs c i w) a:=h
  obtain⟨v,j,k⟩:=yieldsIn_of_qOp hox f
  simp only[List.cons_append,chOK,if_pos hb]
  exact j.qOp hox (zqR e c _ (fun d l=>hq d (List.mem_cons_of_mem _ l)) k)
theorem zoB{ro:Option Nat}{A:Nat→Prop}{Q:Exit→Act→World→Prop}{T T0:Act→World→Prop}{c2:List (Nat×Nat)}(b1:Region.noSelect ops=true)(d7:∀a w,T0 a w→wpListIn (FR ro) 0 P ops Q (ops.toList.drop ops.size) a w)(e4:∀a w,T a w→chOK Dw P ops ro A T0 c2 a w):
  ∀(m:Nat) (zs:List Nat) (d:List (Nat×Nat)) (listed:Array Bool) (a:Act) (w:World),zs.length+(d.length+c2.length)=m→zs.Nodup→ChP md ops ops.size (d++c2)→(∀h∈zs,h<ops.size∧h∉idxs (d++c2))→
   (∀h∈zs,∃E,ops[h]?=some E∧zbp E=false∧(∀b∈E.after,Region.binds md b=true→b.on<ops.size∧b.on∉zs∧b.on∉idxs c2)∧
    ∀c∈d,(∃b∈E.after,Region.binds md b=true∧b.on=c.2)∨∃o,ops[c.2]?=some o∧o.apart ops E=true)→
   (∀c∈d,c.1<2∧∃o,ops[c.2]?=some o∧JK o=true∧∀b∈o.after,Region.binds md b=true→b.on∉zs)→
   (∀h∈zs,∀n∈idxs c2,∃a8,ops[n]?=some a8∧∃b∈a8.after,Region.binds md b=true∧(b.on=h∨b.on∈idxs c2))→
   (∀i,i<ops.size→(listed.getD i false=false↔i∈zs∨i∈idxs (d++c2)))→HeadInv md ops ops.size listed→
   chM Dw P ops ro A T zs.length zs d a w→wpAnyIn (FR ro) 0 P md ops Q m listed a w:=by{
 have c1:∀(d:List (Nat×Nat)) (listed:Array Bool) (a:Act) (w:World) (m:Nat),d.length+c2.length=m→ChP md ops ops.size (d++c2)→(∀c∈d,c.1<2∧∃o,ops[c.2]?=some o)→
   (∀i,i<ops.size→(listed.getD i false=false↔i∈idxs (d++c2)))→HeadInv md ops ops.size listed→chM Dw P ops ro A T 0 [] d a w→wpAnyIn (FR ro) 0 P md ops Q m listed a w:=by
  intro d listed a w m W B q p s j
  have r:=ziz (ro:=ro) (A:=A) (md:=md) (P:=P) (ops:=ops) (Q:=Q) (n:=ops.size) (T:=T0) b1 (Nat.le_refl _) (fun j=>absurd j (Nat.lt_irrefl _)) (fun listed e9 v x=>by
   rw[Nat.sub_self]
   simp[Region.seqB,zle v]) d7 m (d++c2) listed a w (by simp;omega) B p s (zqR e4 d a q j)
  simpa using r
 intro m;induction m with
 | zero =>
  intro zs d listed a w W a2 B J M q a3 p s j
  have a9:zs=[]:=List.eq_nil_of_length_eq_zero (by omega)
  subst a9
  exact c1 d listed a w 0 (by simpa using W) B (fun c l=>⟨(q c l).1,(q c l).2.imp fun o u=>u.1⟩) (fun i N=>by rw[p i N];simp) s j
 | succ m ih =>
  intro zs d listed a w W a2 B J M q a3 p s j
  cases hzs:zs with
  | nil =>
   subst hzs
   exact c1 d listed a w (m+1) (by simpa using W) B (fun c l=>⟨(q c l).1,(q c l).2.imp fun o u=>u.1⟩) (fun i N=>by rw[p i N];simp) s j
  | cons z0 zs0 =>
  have S:z0∈zs:=by rw[hzs];exact List.mem_cons_self
  have b3:∀R,R<ops.size→R∉zs→R∉idxs (d++c2)→listed.getD R false=true:=fun R e5 e r=>by
   cases g:listed.getD R false with
   | true=>rfl
   | false=>exact ((p R e5).1 g).elim (fun j=>absurd j e) (fun j=>absurd j r)
  have d1:Region.ready md ops listed≠[]:=by
   intro f
   cases a4:d with
   | nil =>
    obtain⟨E,a5,_,e6,_⟩:=M z0 S
    have:z0∈Region.ready md ops listed:=mem_ready.2 ⟨getD_in (by rw[s.size];exact (J z0 S).1) ((p z0 (J z0 S).1).2 (.inl S)),E,a5,fun b f g=>by
     obtain⟨v,x,O⟩:=e6 b f g
     exact b3 _ v x (by rw[a4];exact O)⟩
    rw[f]at this
    exact absurd this (by simp)
   | cons c c1' =>
    obtain⟨D,b0⟩:=c
    rw[a4]at B q p b3
    obtain⟨c9,f0,⟨d0,c3,d8,_⟩,_⟩:=B
    obtain⟨_,F,b4,_,d9⟩:=q (D,b0) (by simp)
    obtain rfl:d0=F:=Option.some.inj (c3.symm.trans b4)
    have:b0∈Region.ready md ops listed:=mem_ready.2 ⟨getD_in (by rw[s.size];exact c9) ((p b0 c9).2 (.inr (by simp[idxs]))),d0,c3,fun b f g=>by
     obtain⟨v,x,O⟩:=d8 b f g
     refine b3 _ v (d9 b f g) ?_
     simp only[List.cons_append,idxs,List.map_cons,List.mem_cons,not_or]
     exact⟨x,O⟩⟩
    rw[f]at this
    exact absurd this (by simp)
  refine⟨fun f=>absurd f d1,fun i N=>?_⟩
  obtain⟨e0,o,u,d2⟩:=mem_ready.1 N
  have b5:i<ops.size:=(Array.getElem?_eq_some_iff.1 u).1
  have a6:∀b∈o.after,Region.binds md b=true→b.on∉zs∧b.on∉idxs (d++c2):=fun b f g=>by
   have e:=d2 b f g
   have c4:b.on<ops.size:=by
    rcases Nat.lt_or_ge b.on ops.size with r|r
    exact r
    simp[Array.getElem?_eq_none (show listed.size≤b.on by rw[s.size];exact r)]at e
   refine⟨fun y=>?_,fun y=>?_⟩
   rw[(p _ c4).2 (.inl y)]at e
   cases e
   rw[(p _ c4).2 (.inr y)]at e
   cases e
  by_cases K:i∈zs
  obtain⟨E,a5,d3,_,e1⟩:=M i K
  obtain rfl:E=o:=Option.some.inj (a5.symm.trans u)
  have hlen:zs.length=(zs.erase i).length+1:=by
   rw[List.length_erase_of_mem K]
   have:=List.length_pos_of_mem K
   omega
  rw[hlen]at j
  have e7:=znv b1 a5 d3 K d a (fun c l=>by
   obtain⟨v,F,x,O,_⟩:=q c l
   refine⟨v,F,x,?_,O⟩
   rcases e1 c l with ⟨b,f,g,b6⟩|⟨o3,X,Z⟩
   refine absurd ?_ (a6 b f g).2
   rw[b6,Jp]
   exact List.mem_append_left _ (List.mem_map_of_mem l)
   obtain rfl:F=o3:=Option.some.inj (x.symm.trans X)
   exact Z) j
  refine wpOpIn_mono (fun G U ⟨_,a0⟩=>?_) (zmT e7)
  have I:∀h∈zs.erase i,h∈zs:=fun h M=>List.mem_of_mem_erase M
  refine ih (zs.erase i) d (listed.setIfInBounds i true) G U (by omega) (a2.erase i) B (fun h z=>J h (I h z)) (fun h z=>?_) (fun c l=>?_) (fun h z=>a3 h (I h z)) (fun n H=>?_) (s.set N b5) a0
  obtain⟨b7,X,Z,a1,b8⟩:=M h (I h z)
  exact⟨b7,X,Z,fun b f g=>⟨(a1 b f g).1,fun y=>(a1 b f g).2.1 (I _ y),(a1 b f g).2.2⟩,b8⟩
  obtain⟨v,F,x,O,e8⟩:=q c l
  exact⟨v,F,x,O,fun b f g y=>e8 b f g (I _ y)⟩
  by_cases L:n=i
  subst L
  have b2:n<listed.size:=by rw[s.size];exact H
  have e:n∉zs.erase n:=fun y=>(List.Nodup.not_mem_erase a2) y
  simp only[e,(J n K).2,or_self,iff_false]
  simp[b2]
  rw[getD_set_ne false (Ne.symm L),p n H]
  rw[List.mem_erase_of_ne L]
  ·have c5:i∈idxs (d++c2):=((p i b5).1 (getD_both e0)).resolve_left K
   have d4:i∈idxs d:=by
    rw[Jp,List.mem_append]at c5
    rcases c5 with e|e
    ·exact e
    ·obtain⟨a8,e2,b,f,g,b6⟩:=a3 z0 S i e
     obtain rfl:o=a8:=Option.some.inj (u.symm.trans e2)
     obtain⟨v,x⟩:=a6 b f g
     rcases b6 with r|r
     ·exact absurd (by rw[r];exact S) v
     ·exact absurd (by rw[Jp];exact List.mem_append_right _ r) x
   obtain⟨k,D,t,a4,c6⟩:=zjD d B d4 ⟨o,u,fun b f g=>(a6 b f g).2⟩
   subst a4
   have a9:k++(D,i)::t++c2=k++(D,i)::(t++c2):=by simp
   have a7:=B
   rw[a9]at a7
   have c0:∀b∈o.after,Region.binds md b=true→b.on∉idxs (k++(D,i)::(t++c2)):=fun b f g=>by rw[← a9];exact (a6 b f g).2
   have c7:=zhV (x:=(D,i)) u c6 c0 a7
   rw[← List.append_assoc]at c7
   have d5:i∉idxs (k++t++c2):=by
    rw[List.append_assoc]
    have e3:∀(k:List (Nat×Nat)),ChP md ops ops.size (k++(D,i)::(t++c2))→i∉idxs (k++(t++c2)):=by
     intro k
     induction k with
     | nil=>exact fun j=>j.2.1
     | cons c k ihp =>
      obtain⟨f1,b0⟩:=c
      intro j
      have e:=ihp j.2.2.2
      have r:=j.2.1
      simp only[List.cons_append,idxs,List.map_cons,List.mem_cons,not_or]
      refine⟨fun b=>r (by subst b;simp[idxs]),e⟩
    exact e3 k a7
   have I:∀n,n∈idxs (k++t++c2)→n∈idxs (k++(D,i)::t++c2):=fun n H=>by
    simp only[idxs,List.map_append,List.mem_append,List.map_cons,List.mem_cons]at H ⊢
    rcases H with (e|e)|e
    ·exact .inl (.inl e)
    ·exact .inl (.inr (.inr e))
    ·exact .inr e
   have b9:∀c,c∈k++t→c∈k++(D,i)::t:=fun c l=>by
    rcases List.mem_append.1 l with e|e
    ·exact List.mem_append_left _ e
    ·exact List.mem_append_right _ (List.mem_cons_of_mem _ e)
   have d6:∀G U,chM Dw P ops ro A T zs.length zs (k++t) G U→wpAnyIn (FR ro) 0 P md ops Q m (listed.setIfInBounds i true) G U:=fun G U a0 =>
    ih zs (k++t) _ G U (by simp at W ⊢;omega) a2 c7 (fun h z=>⟨(J h z).1,fun y=>(J h z).2 (I _ y)⟩) (fun h z=>by
     obtain⟨b7,X,Z,a1,b8⟩:=M h z
     exact⟨b7,X,Z,a1,fun c l=>b8 c (b9 c l)⟩) (fun c l=>q c (b9 c l)) a3 (fun n H=>by
     by_cases L:n=i
     ·subst L
      have b2:n<listed.size:=by rw[s.size];exact H
      simp only[d5,K,or_self,iff_false]
      simp[b2]
     ·rw[getD_set_ne false (Ne.symm L),p n H]
      simp only[Jp,List.mem_append]
      simp[idxs,L]) (s.set N b5) a0
   obtain⟨g,F,b4,c8,_⟩:=q (D,i) (by simp)
   obtain rfl:o=F:=Option.some.inj (u.symm.trans b4)
   exact znj u c8 (zlW g b1 u c8 k a a7 c6 c0 j) fun G a0=>d6 G w a0}
def chmB(md:Region.Mode)(ops:Array Oper)(zs:List Nat)(c1 c2:List (Nat×Nat)):Bool :=
 Region.noSelect ops&&decide (zs.length+(c1.length+c2.length)=ops.size)&&decide zs.Nodup&&chG md ops ops.size (c1++c2)&&((List.range ops.size).all fun i=>zs.contains i||(idxs (c1++c2)).contains i) &&
  (zs.all fun z=>decide (z<ops.size)&&!(idxs (c1++c2)).contains z) &&
  (zs.all fun z=>match ops[z]? with
  | none=>false
  | some oz=>!zbp oz&&(oz.after.all fun e=>!Region.binds md e||(decide (e.on<ops.size)&&!zs.contains e.on&&!(idxs c2).contains e.on))&&c1.all fun p=>(oz.after.any fun e=>Region.binds md e&&e.on==p.2)||match ops[p.2]? with
   | none=>false
   | some o=>o.apart ops oz) &&
  (c1.all fun p=>decide (p.1<2)&&match ops[p.2]? with
   | none=>false
   | some o=>JK o&&o.after.all fun e=>!Region.binds md e||!zs.contains e.on) &&
  zs.all fun z=>(idxs c2).all fun j=>match ops[j]? with
   | none=>false
   | some oj=>oj.after.any fun e=>Region.binds md e&&(e.on==z||(idxs c2).contains e.on)
def CHM(Dw:Prop)(P:Program)(nn:Fr)(ops:Array Oper)(A:Nat→Prop)(T:Act→World→Prop)(n:Nat)(zs:List Nat)(c:List (Nat×Nat))(E:Env)(w:World):Prop:=∀a,Has nn a E→chM Dw P ops nn.ro A T n zs c a w
def CHA(Dw:Prop)(P:Program)(nn:Fr)(ops:Array Oper)(A:Nat→Prop)(T:Act→World→Prop)(n:Nat)(zs:List Nat)(E:Env)(w:World):Prop:=∀a,Has nn a E→chA Dw P ops nn.ro A T n zs a w
end
section
variable{P:Program}{nn:Fr}{Q:Exit→Act→World→Prop}{A:Nat→Prop}{T:Act→World→Prop}{E:Env}{w w0:World}{l tl r:List Oper}{o:Oper}{c c2:List (Nat×Nat)}{i n id:Nat}{zs:List Nat}
theorem zjy(A:Nat→Prop)(T:World→Act→World→Prop)(zs:List Nat)(k c2:List (Nat×Nat))(x:P.follows .mixedOrders=true)(hB:chmB .any l.toArray zs k c2=true)(a:∀c,Kp Dw w c→CHM Dw P nn l.toArray A (T c) zs.length zs k E c)(y:∀c,Kp Dw w c→∀d e,T c d e→chOK Dw P l.toArray nn.ro A (fun d e=>wpListIn (FR nn.ro) 0 P l.toArray Q [] d e) c2 d e):C P nn (.region id l.toArray true) Q E w:=by{
 intro q z;refine wpIn_region_any x ?_;simp only[chmB,Bool.and_eq_true,decide_eq_true_eq]at hB;obtain⟨⟨⟨⟨⟨⟨⟨⟨B,D⟩,F⟩,G⟩,H⟩,I⟩,b⟩,J⟩,K⟩:=hB
 have u:=zoB (ro:=nn.ro) (A:=A) (md := .any) (P:=P) (ops:=l.toArray) (Q:=Q) (c2:=c2) (T:=T { w with drawn:=w.drawn+1 }) (T0:=fun d e=>wpListIn (FR nn.ro) 0 P l.toArray Q [] d e) B (fun q w a=>by simpa using a) (y _ (Kp.drew (Dw:=Dw) _))
  (zs.length+(k.length+c2.length)) zs k (Array.replicate l.toArray.size false) q { w with drawn:=w.drawn+1 } rfl F (zjF G)
  (fun g h=>by
   have:=List.all_eq_true.1 I g h
   simpa using this)
  (fun g h=>by
   have:=List.all_eq_true.1 b g h
   cases hoz:l.toArray[g]? with
   | none=>rw[hoz]at this;cases this
   | some oz =>
    rw[hoz]at this
    simp only[Bool.and_eq_true]at this
    obtain⟨⟨L,M⟩,N⟩:=this
    refine⟨oz,rfl,by simpa using L,fun r m n=>?_,fun j o=>?_⟩
    ·have:=Array.all_eq_true'.1 M r m
     simp only[n,Bool.not_true,Bool.false_or,Bool.and_eq_true,decide_eq_true_eq]at this
     exact⟨this.1.1,by simpa using this.1.2,by simpa using this.2⟩
    ·have:=List.all_eq_true.1 N j o
     rw[Bool.or_eq_true]at this
     rcases this with a|a
     ·obtain⟨U,p,b⟩:=Array.any_eq_true.1 a
      simp only[Bool.and_eq_true,beq_iff_eq]at b
      exact .inl ⟨_,Array.getElem_mem p,b⟩
     ·cases hoj:l.toArray[j.2]? with
      | none=>rw[hoj]at a;cases a
      | some f=>rw[hoj]at a;exact .inr ⟨f,rfl,a⟩)
  (fun j o=>by
   have:=List.all_eq_true.1 J j o
   rw[Bool.and_eq_true,decide_eq_true_eq]at this
   refine⟨this.1,?_⟩
   have a:=this.2
   cases hoj:l.toArray[j.2]? with
   | none=>rw[hoj]at a;cases a
   | some f =>
    rw[hoj]at a
    simp only[Bool.and_eq_true]at a
    refine⟨f,rfl,a.1,fun r m n=>?_⟩
    have:=Array.all_eq_true'.1 a.2 r m
    simpa [n]using this)
  (fun g h s O=>by
   have:=List.all_eq_true.1 (List.all_eq_true.1 K g h) s O
   cases hoj:l.toArray[s]? with
   | none=>rw[hoj]at this;cases this
   | some f =>
    rw[hoj]at this
    obtain⟨U,p,b⟩:=Array.any_eq_true.1 this
    simp only[Bool.and_eq_true,Bool.or_eq_true,beq_iff_eq,List.contains_iff_mem]at b
    exact⟨f,rfl,_,Array.getElem_mem p,b⟩)
  (fun i R=>by
   rw[getD_replicate_false]
   have:=List.all_eq_true.1 H i (List.mem_range.2 R)
   simpa using this)
  ⟨by simp,fun s f _ v=>(by rw[getD_replicate_false]at v;cases v),fun t _ S=>getD_in (by simpa using S) (getD_replicate_false _ _)⟩
  (a _ (Kp.drew (Dw:=Dw) _) q z)
 rw[D]at u;exact u}
theorem zau(d:l.drop i=o::r)(g:VQ P nn l.toArray (fun a=>Kp Dw w a) (fun e=>chM Dw P l.toArray nn.ro A T n zs c e w) [o] E):CHM Dw P nn l.toArray A T n zs ((0,i)::c) E w:=by{intro b f;show qOp P l.toArray (fun a=>Kp Dw w a) i _ b;unfold qOp;simp only[zdR d];exact g b f}
theorem zhO(d:l.drop i=o::r)(g:VQ P nn l.toArray (fun a=>XA A w a) (fun e=>chM Dw P l.toArray nn.ro A T n zs c e w) [o] E):CHM Dw P nn l.toArray A T n zs ((1,i)::c) E w:=by{intro b f;show qOp P l.toArray (fun a=>XA A w a) i _ b;unfold qOp;simp only[zdR d];exact g b f}
theorem jX{W:World→Prop}(d:CHM Dw P nn l.toArray A T n zs c E w):VQ P nn l.toArray W (fun a=>chM Dw P l.toArray nn.ro A T n zs c a w) [] E:=fun e b=>wpQuiet_nil (d e b)
theorem zoP(a:CHA Dw P nn l.toArray A T n zs E w):CHM Dw P nn l.toArray A T n zs [] E w:=a
theorem zhe(b:∀a,Has nn a E→T a w):CHA Dw P nn l.toArray A T 0 zs E w:=b
theorem zho{x:Nat}{a:Oper}{d:List Oper}(e:l.drop x=a::d)(f : [x].erase x=[])(g:V P nn l.toArray (Exit.then (fun h b=>sw Dw A (0+2) w b∧chA Dw P l.toArray nn.ro A T n [] h b) QF) [a] E w):CHA Dw P nn l.toArray A T (n+1) [x] E w:=by{intro j i k c;rw[List.mem_singleton]at c;subst c;rw[f];exact zgl e g j i}
theorem zmP{x y:Nat}{c d:Oper}{h i:List Oper}(j:l.drop x=c::h)(k:l.drop y=d::i)(m : [x,y].erase x=[y])(o : [x,y].erase y=[x])(p:V P nn l.toArray (Exit.then (fun b a=>sw Dw A (0+2) w a∧chA Dw P l.toArray nn.ro A T n [y] b a) QF) [c] E w)(q:V P nn l.toArray (Exit.then (fun b a=>sw Dw A (0+2) w a∧chA Dw P l.toArray nn.ro A T n [x] b a) QF) [d] E w):CHA Dw P nn l.toArray A T (n+1) [x,y] E w:=by{intro g e r f;simp only[List.mem_cons,List.not_mem_nil,or_false]at f;rcases f with rfl|rfl;rw[m];exact zgl j p g e;rw[o];exact zgl k q g e}
theorem zsV{x y u:Nat}{e f g:Oper}{i j k:List Oper}(m:l.drop x=e::i)(o:l.drop y=f::j)(p:l.drop u=g::k)(q : [x,y,u].erase x=[y,u])(r : [x,y,u].erase y=[x,u])(s : [x,y,u].erase u=[x,y])(t:V P nn l.toArray (Exit.then (fun b a=>sw Dw A (0+2) w a∧chA Dw P l.toArray nn.ro A T n [y,u] b a) QF) [e] E w)(v:V P nn l.toArray (Exit.then (fun b a=>sw Dw A (0+2) w a∧chA Dw P l.toArray nn.ro A T n [x,u] b a) QF) [f] E w)(z:V P nn l.toArray (Exit.then (fun b a=>sw Dw A (0+2) w a∧chA Dw P l.toArray nn.ro A T n [x,y] b a) QF) [g] E w):CHA Dw P nn l.toArray A T (n+1) [x,y,u] E w:=by{intro d c B h;simp only[List.mem_cons,List.not_mem_nil,or_false]at h;rcases h with rfl|rfl|rfl;rw[q];exact zgl m t d c;rw[r];exact zgl o v d c;rw[s];exact zgl p z d c}
theorem zbN(c:Kp Dw w0 w)(a:CHA Dw P nn l.toArray A T n zs E w):V P nn l.toArray (Exit.then (fun d b=>sw Dw A (0+2) w0 b∧chA Dw P l.toArray nn.ro A T n zs d b) QF) [] E w:=fun f e=>wpListIn_nil ⟨⟨fun _=>c,fun a=>absurd a (by decide)⟩,a f e⟩
end
section
variable{P:Program}{n:Fr}{ops:Array Oper}{Q:Exit→Act→World→Prop}{rest:List Oper}{E:Env}{w:World}{B:Nat}{A:Nat→Prop}{L:List Ob}{d:Nat}{ty t:TypeId}{y:Operand}{pos:String}{af:Array Edge}{v:Value}
theorem Hp.newS{α:Type}[GoT α]{e:TypeId}{l:List α}{i:Nat}(f:Hp B A w L)(hi:L[i]?=some (obS e v l)):∀a,v.ownBlock=some a→B≤a:=by{obtain⟨g,b,c,_⟩:=f.at hi;intro a d;have:=OwP.fp b;exact (c a (by rw[this,d];simp)).1}
theorem zrS(f:Hp B A w L)(g:ev E y=some v)(hB:B≤w.heap.size)(b:∀a,w.heap.size≤a→A a)(h:Nat.blt d n.sz=true)(i:∀a c e,Kp Dw w c→Hp B e c (obC a v.cells.toList t::L)→Tr Dw B A w e c→V P n ops Q rest ((d,.pointer (some ⟨a,0,none⟩))::E) c):
  V P n ops Q (⟨some d,.box t y,ty,pos,af,none⟩::rest) E w :=
 V_y (w':=w.alloc (.cells v.cells t)) (v := .pointer (some ⟨w.heap.size,0,none⟩)) (fun j b=>by simp only[execOp,b.eval g,Instr.box];simp[newVar,newRow]) rfl rfl h (i _ _ _ (Kp.alloc _ _) (by simpa using f.alloc (.cells v.cells t) hB b) ((zaH (Dw:=Dw) B _ b).tr hB))
end
end Go.Gw
