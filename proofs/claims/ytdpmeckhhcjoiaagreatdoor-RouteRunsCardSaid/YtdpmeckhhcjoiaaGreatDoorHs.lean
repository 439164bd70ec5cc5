import Derived.Test.YtdpmeckhhcjoiaaGreatDoorGu
namespace Go.Gw
open Go Go.RowKit Go.Pu
variable{Dw:Prop}
set_option linter.unusedSimpArgs false
set_option linter.unusedVariables false
section
variable{P:Program}{ops:Array Oper}{md:Region.Mode}
def ancB(md:Region.Mode)(ops:Array Oper):List Nat→List Nat→Bool
 | _, []=>true
 | seen,d::D=>(seen.any fun s=>match ops[s]? with
   | none=>false
   | some o=>o.after.any fun e=>Region.binds md e&&e.on==d)&&ancB md ops (d::seen) D
theorem zqn{listed:Array Bool}(k:∀q l,ops[q]?=some l→listed.getD q false=true→∀a∈l.after,Region.binds md a=true→listed.getD a.on false=true):
  ∀(D f:List Nat),ancB md ops f D=true→(∀b∈f,∀o,ops[b]?=some o→∀a∈o.after,Region.binds md a=true→listed.getD a.on false=true)→∀i∈D,listed.getD i false=true
 | [],_,_,_,i,e=>by cases e
 | m::D,f,h,hs,i,e=>by
  simp only[ancB,Bool.and_eq_true]at h
  have h0:listed.getD m false=true:=by
   obtain⟨b,d,g⟩:=List.any_eq_true.1 h.1
   cases c:ops[b]? with
   | none=>rw[c]at g;cases g
   | some o =>
    rw[c]at g
    obtain⟨s,r,j⟩:=Array.any_eq_true.1 g
    rw[Bool.and_eq_true,beq_iff_eq]at j
    have:=hs b d o c _ (Array.getElem_mem r) j.1
    rwa[j.2]at this
  rcases List.mem_cons.1 e with rfl|e
  ·exact h0
  ·refine zqn k D (m::f) h.2 (fun b d o c a n p=>?_) i e
   rcases List.mem_cons.1 d with rfl|d
   ·exact k b o c h0 a n p
   ·exact hs b d o c a n p
theorem zlc{ro:Option Nat}{A:Nat→Prop}{T:Act→World→Prop}{n i g z:Nat}(D:g<2){f c2:List (Nat×Nat)}{w:World}{l:Oper}(s:Region.noSelect ops=true)(j:ops[i]?=some l)(E:JK l=true):
  ∀(b:List (Nat×Nat)) (a:Act),ChP md ops n (b++(g,i)::f)→(∀y∈b,y.1<2)→(∀c∈l.after,Region.binds md c=true→c.on∉idxs (b++(g,i)::f))→chZ Dw P ops ro A T z c2 (b++(g,i)::f) a w→
   qOp P ops (fun e=>e=w) i (fun q=>chZ Dw P ops ro A T z c2 (b++f) q w) a
 | [],a,_,_,_,h=>by
  have h1:qOp P ops (fun e=>cls Dw A g w e) i (fun q=>chZ Dw P ops ro A T z c2 f q w) a:=by
   simp only[List.nil_append,chZ,if_pos D]at h
   exact h
  obtain⟨I,m,t⟩:=yieldsIn_of_qOp j h1
  exact (zbV E (fun e c=>by subst c;exact zdS) m).qOp j t
 | (d,x)::b,a,hg,hq,hno,h=>by
  have k:d<2:=hq (d,x) (by simp)
  obtain⟨_,_,⟨o,p,_,_,G⟩,M⟩:=hg
  have B:o.apart ops l=true:=(zgx (n:=n) (b:=g) (c:=b++(g,i)::f) p j (by simp) (fun c u k v=>hno c u k (by simpa [idxs]using v)) (G k).2).1
  have N:qOp P ops (fun e=>cls Dw A d w e) x (fun q=>chZ Dw P ops ro A T z c2 (b++(g,i)::f) q w) a:=by
   simp only[List.cons_append,chZ,if_pos k]at h
   exact h
  obtain⟨I,m,t⟩:=yieldsIn_of_qOp p N
  have O:=zlc D s j E b _ M (fun y m=>hq y (List.mem_cons_of_mem _ m)) (fun c u k v=>hno c u k (by simp only[List.cons_append,idxs,List.map_cons,List.mem_cons];exact .inr v)) t
  have J:YieldsIn P ops (fun e=>e=w) o I a:=zbV (G k).1 (fun e c=>by subst c;exact zdS) m
  have Q:=qOp_put j B (fun r d=>Region.noSelect_spec s x o r d p) (fun r d=>Region.noSelect_spec s i l r d j) J O
  obtain⟨H,K,L⟩:=yieldsIn_of_qOp j Q
  refine K.qOp j ?_
  obtain⟨R,S,F⟩:=Oper.apart_spec B
  show chZ Dw P ops ro A T z c2 ((d,x)::(b++f)) _ w
  simp only[chZ,if_pos k]
  refine YieldsIn.qOp p ?_ L.2
  exact m.of_same (execOp_put o (fun r d=>Region.noSelect_spec s x o r d p) a l.dst H F) (wanted_put o a l.dst H F)
theorem zlX{ro:Option Nat}{A:Nat→Prop}{T:Act→World→Prop}{n i k z:Nat}(y:2≤k){e c2:List (Nat×Nat)}{w:World}{m:Oper}(p:Region.noSelect ops=true)(o:ops[i]?=some m)(B:zbp m=false):
  ∀(b:List (Nat×Nat)) (a:Act),ChP md ops n (b++(k,i)::e)→(∀v∈b,v.1<2)→(∀g∈m.after,Region.binds md g=true→g.on∉idxs (b++(k,i)::e))→chZ Dw P ops ro A T z c2 (b++(k,i)::e) a w→
   wpOpIn (FR ro) 0 P ops QF i (fun j f=>sw Dw A k w f∧chZ Dw P ops ro A T z c2 (b++e) j f) a w
 | [],_,_,_,_,h=>by
  simp only[List.nil_append,chZ,if_neg (show ¬k<2 by omega)]at h
  exact h.2
 | (d,x)::b,a,hg,hq,hno,h=>by
  have c:d<2:=hq (d,x) (by simp)
  obtain⟨_,_,⟨H,l,_,_,q⟩,I⟩:=hg
  obtain⟨G,F⟩:=zgx (n:=n) (b:=k) (c:=b++(k,i)::e) l o (by simp) (fun g r c s=>hno g r c (by simpa [idxs]using s)) (q c).2
  have J:qOp P ops (fun f=>cls Dw A d w f) x (fun j=>chZ Dw P ops ro A T z c2 (b++(k,i)::e) j w) a:=by
   simp only[List.cons_append,chZ,if_pos c]at h
   exact h
  obtain⟨U,t,K⟩:=yieldsIn_of_qOp l J
  have L:=zlX y p o B b _ I (fun v t=>hq v (List.mem_cons_of_mem _ t)) (fun g r c s=>hno g r c (by simp only[List.cons_append,idxs,List.map_cons,List.mem_cons];exact .inr s)) K
  have M:=zhk o B G (fun u d=>Region.noSelect_spec p x H u d l) (fun u d=>Region.noSelect_spec p i m u d o) t L
  refine wpOpIn_mono (fun j f ⟨D,E,N⟩=>⟨E,?_⟩) M
  show chZ Dw P ops ro A T z c2 ((d,x)::(b++e)) j f
  simp only[chZ,if_pos c]
  refine YieldsIn.qOp l ?_ N
  rcases F with O|Q
  ·exact zbV (q c).1 (fun S R=>zln c y O E R) D
  ·exact zkp (q c).1 Q zdS D
def offD(D:List Nat)(c:List (Nat×Nat)):List (Nat×Nat):=c.filter fun p=>!D.contains p.2
theorem zqu{D:List Nat}{c:List (Nat×Nat)}{j:Nat}(a:j∈idxs (offD D c)):j∈idxs c:=by{simp only[idxs,offD,List.mem_map,List.mem_filter]at a⊢;obtain⟨d,⟨b,_⟩,rfl⟩:=a;exact⟨d,b,rfl⟩}
theorem zqw{D:List Nat}{c:List (Nat×Nat)}(d:∀a∈c,a.2∉D):offD D c=c:=by{unfold offD;rw[List.filter_eq_self];intro a b;simpa using d a b}
theorem zow{ro:Option Nat}{A:Nat→Prop}{Q:Exit→Act→World→Prop}{T:Act→World→Prop}{z:Nat}{x:Oper}{c2:List (Nat×Nat)}{D:List Nat}(a0:Region.noSelect ops=true)(e6:∀a w,T a w→wpListIn (FR ro) 0 P ops Q (ops.toList.drop ops.size) a w)(R:ops[z]?=some x)(d4:zbp x=false)(d5:∀b∈x.after,Region.binds md b=true→b.on<ops.size∧b.on≠z∧b.on∉idxs c2)(e7:ancB md ops [z] D=true)(d6:∀g∈idxs c2,∃y,ops[g]?=some y∧∃b∈y.after,Region.binds md b=true∧(b.on=z∨b.on∈idxs c2)):
  ∀(m:Nat) (c:List (Nat×Nat)) (listed:Array Bool) (a:Act) (w:World),c.length+c2.length=m→ChP md ops ops.size c→ChP md ops ops.size (offD D c++c2)→z∉idxs (c++c2)→
   (∀g∈idxs c,∀y,ops[g]?=some y→∀b∈y.after,Region.binds md b=true→b.on≠z∧b.on∉idxs c2)→(∀d∈c,d.2∈D→d.1<2)→(∀g∈idxs c,g∉idxs c2)→
   (∀d∈c,d.1<2→d.2∈D∨∃o,ops[d.2]?=some o∧o.apart ops x=true∧JK o=true)→
   (∀i,i<ops.size→(listed.getD i false=false↔i=z∨i∈idxs (c++c2)))→HeadInv md ops ops.size listed→
   chZ Dw P ops ro A T z c2 c a w→wpAnyIn (FR ro) 0 P md ops Q (m+1) listed a w:=by{
 have a6:z<ops.size:=(Array.getElem?_eq_some_iff.1 R).1
 have b8:∀(c:List (Nat×Nat)) (listed:Array Bool),ChP md ops ops.size c→(∀g∈idxs c,∀y,ops[g]?=some y→∀b∈y.after,Region.binds md b=true→b.on≠z∧b.on∉idxs c2)→(∀i,i<ops.size→(listed.getD i false=false↔i=z∨i∈idxs (c++c2)))→HeadInv md ops ops.size listed→Region.ready md ops listed≠[]:=by
  intro c listed r L n q f
  have b9:∀K,K<ops.size→K≠z→K∉idxs (c++c2)→listed.getD K false=true:=fun K e8 h p=>by
   cases j:listed.getD K false with
   | true=>rfl
   | false=>exact ((n K e8).1 j).elim (fun f=>absurd f h) (fun f=>absurd f p)
  cases c with
  | nil =>
   have:z∈Region.ready md ops listed:=mem_ready.2 ⟨getD_in (by rw[q.size];exact a6) ((n z a6).2 (.inl rfl)),x,R,fun b l j=>by
    obtain⟨F,G,b2⟩:=d5 b l j
    exact b9 _ F G b2⟩
   rw[f]at this
   exact absurd this (by simp)
  | cons d c =>
   obtain⟨u,a4⟩:=d
   obtain⟨c6,f5,⟨c7,c0,d7,_⟩,_⟩:=r
   have:a4∈Region.ready md ops listed:=mem_ready.2 ⟨getD_in (by rw[q.size];exact c6) ((n a4 c6).2 (.inr (by simp[idxs]))),c7,c0,fun b l j=>by
    obtain⟨F,G,b2⟩:=d7 b l j
    obtain⟨e9,f0⟩:=L a4 (by simp[idxs]) c7 c0 b l j
    refine b9 _ F e9 ?_
    rw[Jp,List.mem_append,not_or]
    refine⟨?_,f0⟩
    simp only[idxs,List.map_cons,List.mem_cons,not_or]
    exact⟨G,b2⟩⟩
   rw[f]at this
   exact absurd this (by simp)
 have free:∀(c:List (Nat×Nat)) (listed:Array Bool) (a:Act) (w:World) (m:Nat),c.length+c2.length=m→ChP md ops ops.size (offD D c++c2)→z∉idxs (c++c2)→
   (∀d∈c,d.1<2→d.2∈D∨∃o,ops[d.2]?=some o∧o.apart ops x=true∧JK o=true)→(∀i,i<ops.size→(listed.getD i false=false↔i=z∨i∈idxs (c++c2)))→HeadInv md ops ops.size listed→
   (∀b∈x.after,Region.binds md b=true→listed.getD b.on false=true)→chZ Dw P ops ro A T z c2 c a w→z∈Region.ready md ops listed→wpOpIn (FR ro) 0 P ops Q z (fun v B=>wpAnyIn (FR ro) 0 P md ops Q m (listed.setIfInBounds z true) v B) a w:=by
  intro c listed a w m Z r M N n q d8 f d9
  have c9:=zqn (md:=md) (ops:=ops) (listed:=listed) q.closed D [z] e7 (fun f9 c8 o s b l j=>by
   rw[List.mem_singleton]at c8
   subst c8
   obtain rfl:x=o:=Option.some.inj (R.symm.trans s)
   exact d8 b l j)
  have b4:∀d∈c,d.2∉D:=fun d E f1=>by
   have h:=c9 d.2 f1
   have e0:d.2∈idxs (c++c2):=by
    simp only[idxs,List.map_append,List.mem_append]
    exact .inl (List.mem_map_of_mem E)
   have W:d.2<ops.size:=by
    rcases Nat.lt_or_ge d.2 ops.size with p|p
    ·exact p
    ·simp[Array.getElem?_eq_none (show listed.size≤d.2 by rw[q.size];exact p)]at h
   rw[(n d.2 W).2 (.inr e0)]at h
   cases h
  rw[zqw b4]at r
  have f2:=znh a0 R d4 c a (fun d E O=>(N d E O).resolve_left (b4 d E)) f
  refine wpOpIn_mono (fun v B ⟨_,J⟩=>?_) (zmT f2)
  have p:=ziz (ro:=ro) (A:=A) (md:=md) (P:=P) (ops:=ops) (Q:=Q) (n:=ops.size) (T:=T) a0 (Nat.le_refl _) (fun f=>absurd f (Nat.lt_irrefl _)) (fun listed f6 F G=>by
   rw[Nat.sub_self]
   simp[Region.seqB,zle F]) e6 m (c++c2) (listed.setIfInBounds z true) v B (by simp;omega) r (fun g t=>by
    by_cases I:g=z
    ·subst I
     have W:g<listed.size:=by rw[q.size];exact t
     simp only[M,iff_false]
     simp[W]
    ·rw[getD_set_ne false (Ne.symm I),n g t]
     simp[I]) (q.set d9 a6) J
  simpa using p
 intro m;induction m with
 | zero =>
  intro c listed a w Z r X M L c1 a7 N n q f
  refine⟨fun l=>absurd l (b8 c listed r L n q),fun i S=>?_⟩
  obtain⟨a8,o,s,a1⟩:=mem_ready.1 S
  have O:i<ops.size:=(Array.getElem?_eq_some_iff.1 s).1
  have U:c=[]:=List.eq_nil_of_length_eq_zero (by omega)
  have b3:c2=[]:=List.eq_nil_of_length_eq_zero (by omega)
  obtain rfl:i=z:=by
   rcases (n i O).1 (getD_both a8)with f|f
   exact f
   rw[U,b3]at f;simp[idxs]at f
  obtain rfl:x=o:=Option.some.inj (R.symm.trans s)
  exact free c listed a w 0 Z X M N n q a1 f S
 | succ m ih =>
  intro c listed a w Z r X M L c1 a7 N n q f
  refine⟨fun l=>absurd l (b8 c listed r L n q),fun i S=>?_⟩
  obtain⟨a8,o,s,a1⟩:=mem_ready.1 S
  have O:i<ops.size:=(Array.getElem?_eq_some_iff.1 s).1
  have a9:∀b∈o.after,Region.binds md b=true→b.on≠z∧b.on∉idxs (c++c2):=fun b l j=>by
   have h:=a1 b l j
   have c3:b.on<ops.size:=by
    rcases Nat.lt_or_ge b.on ops.size with p|p
    exact p
    simp[Array.getElem?_eq_none (show listed.size≤b.on by rw[q.size];exact p)]at h
   refine⟨fun H=>?_,fun H=>?_⟩
   rw[(n _ c3).2 (.inl H)]at h
   cases h
   rw[(n _ c3).2 (.inr H)]at h
   cases h
  by_cases b0:i=z
  subst b0
  obtain rfl:x=o:=Option.some.inj (R.symm.trans s)
  exact free c listed a w (m+1) Z X M N n q a1 f S
  ·have c4:i∈idxs (c++c2):=((n i O).1 (getD_both a8)).resolve_left b0
   have b6:i∈idxs c:=by
    rw[Jp,List.mem_append]at c4
    rcases c4 with h|h
    ·exact h
    ·obtain⟨y,e1,b,l,j,e2⟩:=d6 i h
     obtain rfl:o=y:=Option.some.inj (s.symm.trans e1)
     obtain⟨F,G⟩:=a9 b l j
     rcases e2 with p|p
     ·exact absurd p F
     ·exact absurd (by rw[Jp];exact List.mem_append_right _ p) G
   have a2:∀b∈o.after,Region.binds md b=true→b.on∉idxs c:=fun b l j H=>(a9 b l j).2 (by rw[Jp];exact List.mem_append_left _ H)
   obtain⟨e,u,k,rfl,a3⟩:=zjD (c2 := []) c (by rw[List.append_nil];exact r) b6 ⟨o,s,fun b l j=>by rw[List.append_nil];exact a2 b l j⟩
   have e3:=zhV (x:=(u,i)) s a3 a2 r
   have d0:ChP md ops ops.size (offD D (e++k)++c2):=by
    by_cases c5:i∈D
    ·have U:offD D (e++k)=offD D (e++(u,i)::k):=by
      unfold offD
      rw[List.filter_append,List.filter_append,List.filter_cons_of_neg (by simpa using c5)]
     rw[U]
     exact X
    ·have U:offD D (e++(u,i)::k)++c2=offD D e++(u,i)::(offD D k++c2):=by
      unfold offD
      rw[List.filter_append,List.filter_cons_of_pos (by simpa using c5)]
      simp
     have b3:offD D (e++k)++c2=offD D e++(offD D k++c2):=by
      unfold offD
      rw[List.filter_append,List.append_assoc]
     rw[b3]
     refine zhV (x:=(u,i)) s (fun f4 f3=>a3 f4 (List.mem_filter.1 f3).1) (fun b l j H=>(a9 b l j).2 ?_) (by rw[← U];exact X)
     rw[← U,Jp,List.mem_append]at H
     rw[Jp,List.mem_append]
     exact H.imp zqu id
   have d1:i∉idxs (e++k):=by
    have e4:∀(e:List (Nat×Nat)),ChP md ops ops.size (e++(u,i)::k)→i∉idxs (e++k):=by
     intro e
     induction e with
     | nil=>exact fun f=>f.2.1
     | cons d e ihp =>
      obtain⟨f7,a4⟩:=d
      intro f
      have h:=ihp f.2.2.2
      have p:=f.2.1
      simp only[List.cons_append,idxs,List.map_cons,List.mem_cons,not_or]
      refine⟨fun b=>p (by subst b;simp[idxs]),h⟩
    exact e4 e r
   have d2:i∉idxs (e++k++c2):=by
    rw[Jp,List.mem_append,not_or]
    exact⟨d1,a7 i b6⟩
   have a5:∀g,g∈idxs (e++k)→g∈idxs (e++(u,i)::k):=fun g t=>by
    simp only[idxs,List.map_append,List.mem_append,List.map_cons,List.mem_cons]at t ⊢
    rcases t with h|h
    ·exact .inl h
    ·exact .inr (.inr h)
   have b5:∀d,d∈e++k→d∈e++(u,i)::k:=fun d E=>by
    rcases List.mem_append.1 E with h|h
    ·exact List.mem_append_left _ h
    ·exact List.mem_append_right _ (List.mem_cons_of_mem _ h)
   have d3:∀g,g∈idxs (e++k++c2)→g∈idxs (e++(u,i)::k++c2):=fun g t=>by
    rw[Jp,List.mem_append]at t ⊢
    exact t.imp (a5 g) id
   have b7:∀v B,chZ Dw P ops ro A T z c2 (e++k) v B→wpAnyIn (FR ro) 0 P md ops Q (m+1) (listed.setIfInBounds i true) v B:=fun v B J =>
    ih (e++k) _ v B (by simp at Z ⊢;omega) e3 d0 (fun f=>M (d3 _ f)) (fun g t=>L g (a5 g t)) (fun d E=>c1 d (b5 d E)) (fun g t=>a7 g (a5 g t)) (fun d E=>N d (b5 d E)) (fun g t=>by
     by_cases I:g=i
     ·subst I
      have W:g<listed.size:=by rw[q.size];exact t
      simp only[d2,b0,or_self,iff_false]
      simp[W]
     ·rw[getD_set_ne false (Ne.symm I),n g t]
      simp only[Jp,List.mem_append]
      simp[idxs,I]) (q.set S O) J
   have b1:∀(e:List (Nat×Nat)),ChP md ops ops.size (e++(u,i)::k)→(2≤u→zbp o=false)∧(u<2→JK o=true):=by
    intro e
    induction e with
    | nil =>
     rintro⟨_,_,⟨f8,e5,_,F,G⟩,_⟩
     have:=Option.some.inj (s.symm.trans e5)
     subst this
     exact⟨fun f=>(F f).1,fun f=>(G f).1⟩
    | cons d e ihp=>exact fun f=>ihp f.2.2.2
   rcases Nat.lt_or_ge u 2 with j|j
   ·exact znj s ((b1 e r).2 j) (zlc j a0 s ((b1 e r).2 j) e a r a3 a2 f) fun v J=>b7 v w J
   ·exact wpOpIn_mono (fun v B ⟨_,J⟩=>b7 v B J) (zmT (zlX j a0 s ((b1 e r).1 j) e a r a3 a2 f))}
def chyB(md:Region.Mode)(ops:Array Oper)(z:Nat)(D:List Nat)(c1 c2:List (Nat×Nat)):Bool :=
 Region.noSelect ops&&decide (c1.length+c2.length+1=ops.size)&&chG md ops ops.size c1&&chG md ops ops.size (offD D c1++c2)&&((List.range ops.size).all fun i=>(i==z)||(idxs (c1++c2)).contains i)&&!(idxs (c1++c2)).contains z &&
  (match ops[z]? with
  | none=>false
  | some oz=>!zbp oz&&(oz.after.all fun e=>!Region.binds md e||(decide (e.on<ops.size)&&e.on != z&&!(idxs c2).contains e.on))&&c1.all fun p=>decide (2≤p.1)||D.contains p.2||match ops[p.2]? with
   | none=>false
   | some o=>o.apart ops oz&&JK o)&&ancB md ops [z] D &&
  ((idxs c1).all fun j=>match ops[j]? with
   | none=>true
   | some oj=>oj.after.all fun e=>!Region.binds md e||(e.on != z&&!(idxs c2).contains e.on)) &&
  (c1.all fun p=>!D.contains p.2||decide (p.1<2))&&((idxs c1).all fun j=>!(idxs c2).contains j) &&
  (idxs c2).all fun j=>match ops[j]? with
   | none=>false
   | some oj=>oj.after.any fun e=>Region.binds md e&&(e.on==z||(idxs c2).contains e.on)
end
section
variable{P:Program}{nn:Fr}{Q:Exit→Act→World→Prop}{A:Nat→Prop}{T:Act→World→Prop}{E:Env}{w w0:World}{l tl r:List Oper}{o:Oper}{c c2:List (Nat×Nat)}{i n id z:Nat}
theorem zsD(d:XA A w0 w)(a:CHZ Dw P nn l.toArray A T z c2 c E w):V P nn l.toArray (Exit.then (fun e b=>sw Dw A (1+2) w0 b∧chZ Dw P l.toArray nn.ro A T z c2 c e b) QF) [] E w:=fun g f=>wpListIn_nil ⟨⟨fun a=>absurd a (by decide),fun _=>d⟩,a g f⟩
theorem znr(A:Nat→Prop)(z:Nat)(D:List Nat)(h c2:List (Nat×Nat))(H:P.follows .mixedOrders=true)(hB:chyB .any l.toArray z D h c2=true)(g:∀u,Kp Dw w u→CHZ Dw P nn l.toArray A (fun m n=>wpListIn (FR nn.ro) 0 P l.toArray Q [] m n) z c2 h E u):C P nn (.region id l.toArray true) Q E w:=by{
 intro r I;refine wpIn_region_any H ?_;simp only[chyB,Bool.and_eq_true,decide_eq_true_eq]at hB;obtain⟨⟨⟨⟨⟨⟨⟨⟨⟨⟨⟨J,K⟩,L⟩,x⟩,M⟩,N⟩,d⟩,O⟩,y⟩,B⟩,F⟩,j⟩:=hB;cases hoz:l.toArray[z]? with
 | none=>rw[hoz]at d;cases d
 | some oz =>
  rw[hoz]at d
  simp only[Bool.and_eq_true]at d
  obtain⟨⟨R,S⟩,G⟩:=d
  have t:=zow (ro:=nn.ro) (A:=A) (md := .any) (P:=P) (ops:=l.toArray) (Q:=Q) (c2:=c2) (D:=D) (T:=fun m n=>wpListIn (FR nn.ro) 0 P l.toArray Q [] m n) J (fun r w g=>by simpa using g) hoz (by simpa using R)
   (fun s o p=>by
    have:=Array.all_eq_true'.1 S s o
    rw[p]at this
    simp only[Bool.not_true,Bool.false_or,Bool.and_eq_true,decide_eq_true_eq,bne_iff_ne,Bool.not_eq_true',List.contains_eq_mem,decide_eq_false_iff_not]at this
    exact⟨this.1.1,this.1.2,this.2⟩) O
   (fun c e=>by
    have:=List.all_eq_true.1 j c e
    cases b:l.toArray[c]? with
    | none=>rw[b]at this;cases this
    | some f =>
     rw[b]at this
     obtain⟨a0,T,j⟩:=Array.any_eq_true.1 this
     simp only[Bool.and_eq_true,Bool.or_eq_true,beq_iff_eq,List.contains_iff_mem]at j
     exact⟨f,rfl,_,Array.getElem_mem T,j⟩)
   (h.length+c2.length) h (Array.replicate l.toArray.size false) r { w with drawn:=w.drawn+1 } rfl (zjF L) (zjF x) (by simpa using N)
   (fun c e f b s o p=>by
    have:=List.all_eq_true.1 y c e
    rw[b]at this
    have:=Array.all_eq_true'.1 this s o
    rw[p]at this
    simpa using this)
   (fun k q U=>by
    have:=List.all_eq_true.1 B k q
    simp only[Bool.or_eq_true,Bool.not_eq_true',List.contains_eq_mem,decide_eq_false_iff_not,decide_eq_true_eq]at this
    exact this.resolve_left (fun g=>g U))
   (fun c e=>by
    have:=List.all_eq_true.1 F c e
    simpa using this)
   (fun k q Z=>by
    have:=List.all_eq_true.1 G k q
    simp only[Bool.or_eq_true,decide_eq_true_eq,List.contains_iff_mem]at this
    rcases this with (a|a)|a
    ·omega
    ·exact .inl a
    ·cases b:l.toArray[k.2]? with
     | none=>rw[b]at a;cases a
     | some f =>
      rw[b]at a
      simp only[Bool.and_eq_true]at a
      exact .inr ⟨f,rfl,a⟩)
   (fun i W=>by
    rw[getD_replicate_false]
    have:=List.all_eq_true.1 M i (List.mem_range.2 W)
    simpa using this)
   ⟨by simp,fun c f _ v=>(by rw[getD_replicate_false]at v;cases v),fun a1 _ X=>getD_in (by simpa using X) (getD_replicate_false _ _)⟩
   (g _ (Kp.drew (Dw:=Dw) _) r I)
  rw[K]at t
  exact t}
end
end Go.Gw
