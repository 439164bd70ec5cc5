import Derived.Test.YtcnidlpginehjaaGreatGu
namespace Go.Gw
open Go Go.RowKit Go.Pu
variable{Dw:Prop}
set_option linter.unusedSimpArgs false
set_option linter.unusedVariables false
section
variable{P:Program}{ops:Array Oper}{md:Region.Mode}
def ancB(md:Region.Mode)(ops:Array Oper):List Nat→List Nat→Bool
 | _, []=>true
 | seen,d::D=>(seen.any fun s=>match ops[s]? with
   | none=>false
   | some o=>o.after.any fun e=>Region.binds md e&&e.on==d)&&ancB md ops (d::seen) D
theorem ziu{listed:Array Bool}(k:∀q l,ops[q]?=some l→listed.getD q false=true→∀a∈l.after,Region.binds md a=true→listed.getD a.on false=true):
  ∀(D f:List Nat),ancB md ops f D=true→(∀b∈f,∀o,ops[b]?=some o→∀a∈o.after,Region.binds md a=true→listed.getD a.on false=true)→∀i∈D,listed.getD i false=true
 | [],_,_,_,i,e=>by cases e
 | m::D,f,h,hs,i,e=>by
  simp only[ancB,Bool.and_eq_true]at h
  have h0:listed.getD m false=true:=by
   obtain⟨b,d,g⟩:=List.any_eq_true.1 h.1
   cases c:ops[b]? with
   | none=>rw[c]at g;cases g
   | some o =>
    rw[c]at g
    obtain⟨s,r,j⟩:=Array.any_eq_true.1 g
    rw[Bool.and_eq_true,beq_iff_eq]at j
    have:=hs b d o c _ (Array.getElem_mem r) j.1
    rwa[j.2]at this
  rcases List.mem_cons.1 e with rfl|e
  ·exact h0
  ·refine ziu k D (m::f) h.2 (fun b d o c a n p=>?_) i e
   rcases List.mem_cons.1 d with rfl|d
   ·exact k b o c h0 a n p
   ·exact hs b d o c a n p
theorem zfJ{ro:Option Nat}{A:Nat→Prop}{T:Act→World→Prop}{n i g z:Nat}(D:g<2){f c2:List (Nat×Nat)}{w:World}{l:Oper}(s:Region.noSelect ops=true)(j:ops[i]?=some l)(E:jp l=true):
  ∀(b:List (Nat×Nat)) (a:Act),ChP md ops n (b++(g,i)::f)→(∀y∈b,y.1<2)→(∀c∈l.after,Region.binds md c=true→c.on∉idxs (b++(g,i)::f))→chZ Dw P ops ro A T z c2 (b++(g,i)::f) a w→
   qOp P ops (fun e=>e=w) i (fun q=>chZ Dw P ops ro A T z c2 (b++f) q w) a
 | [],a,_,_,_,h=>by
  have h1:qOp P ops (fun e=>cls Dw A g w e) i (fun q=>chZ Dw P ops ro A T z c2 f q w) a:=by
   simp only[List.nil_append,chZ,if_pos D]at h
   exact h
  obtain⟨I,m,t⟩:=yieldsIn_of_qOp j h1
  exact (JH E (fun e c=>by subst c;exact zaM) m).qOp j t
 | (d,x)::b,a,hg,hq,hno,h=>by
  have k:d<2:=hq (d,x) (by simp)
  obtain⟨_,_,⟨o,p,_,_,G⟩,M⟩:=hg
  have B:o.apart ops l=true:=(zce (n:=n) (b:=g) (c:=b++(g,i)::f) p j (by simp) (fun c u k v=>hno c u k (by simpa [idxs]using v)) (G k).2).1
  have N:qOp P ops (fun e=>cls Dw A d w e) x (fun q=>chZ Dw P ops ro A T z c2 (b++(g,i)::f) q w) a:=by
   simp only[List.cons_append,chZ,if_pos k]at h
   exact h
  obtain⟨I,m,t⟩:=yieldsIn_of_qOp p N
  have O:=zfJ D s j E b _ M (fun y m=>hq y (List.mem_cons_of_mem _ m)) (fun c u k v=>hno c u k (by simp only[List.cons_append,idxs,List.map_cons,List.mem_cons];exact .inr v)) t
  have J:YieldsIn P ops (fun e=>e=w) o I a:=JH (G k).1 (fun e c=>by subst c;exact zaM) m
  have Q:=qOp_put j B (fun r d=>Region.noSelect_spec s x o r d p) (fun r d=>Region.noSelect_spec s i l r d j) J O
  obtain⟨H,K,L⟩:=yieldsIn_of_qOp j Q
  refine K.qOp j ?_
  obtain⟨R,S,F⟩:=Oper.apart_spec B
  show chZ Dw P ops ro A T z c2 ((d,x)::(b++f)) _ w
  simp only[chZ,if_pos k]
  refine YieldsIn.qOp p ?_ L.2
  exact m.of_same (execOp_put o (fun r d=>Region.noSelect_spec s x o r d p) a l.dst H F) (wanted_put o a l.dst H F)
theorem zgo{ro:Option Nat}{A:Nat→Prop}{T:Act→World→Prop}{n i k z:Nat}(y:2≤k){e c2:List (Nat×Nat)}{w:World}{m:Oper}(p:Region.noSelect ops=true)(o:ops[i]?=some m)(B:Jl m=false):
  ∀(b:List (Nat×Nat)) (a:Act),ChP md ops n (b++(k,i)::e)→(∀v∈b,v.1<2)→(∀g∈m.after,Region.binds md g=true→g.on∉idxs (b++(k,i)::e))→chZ Dw P ops ro A T z c2 (b++(k,i)::e) a w→
   wpOpIn (FR ro) 0 P ops QF i (fun j f=>sw Dw A k w f∧chZ Dw P ops ro A T z c2 (b++e) j f) a w
 | [],_,_,_,_,h=>by
  simp only[List.nil_append,chZ,if_neg (show ¬k<2 by omega)]at h
  exact h.2
 | (d,x)::b,a,hg,hq,hno,h=>by
  have c:d<2:=hq (d,x) (by simp)
  obtain⟨_,_,⟨H,l,_,_,q⟩,I⟩:=hg
  obtain⟨G,F⟩:=zce (n:=n) (b:=k) (c:=b++(k,i)::e) l o (by simp) (fun g r c s=>hno g r c (by simpa [idxs]using s)) (q c).2
  have J:qOp P ops (fun f=>cls Dw A d w f) x (fun j=>chZ Dw P ops ro A T z c2 (b++(k,i)::e) j w) a:=by
   simp only[List.cons_append,chZ,if_pos c]at h
   exact h
  obtain⟨U,t,K⟩:=yieldsIn_of_qOp l J
  have L:=zgo y p o B b _ I (fun v t=>hq v (List.mem_cons_of_mem _ t)) (fun g r c s=>hno g r c (by simp only[List.cons_append,idxs,List.map_cons,List.mem_cons];exact .inr s)) K
  have M:=zdm o B G (fun u d=>Region.noSelect_spec p x H u d l) (fun u d=>Region.noSelect_spec p i m u d o) t L
  refine wpOpIn_mono (fun j f ⟨D,E,N⟩=>⟨E,?_⟩) M
  show chZ Dw P ops ro A T z c2 ((d,x)::(b++e)) j f
  simp only[chZ,if_pos c]
  refine YieldsIn.qOp l ?_ N
  rcases F with O|Q
  ·exact JH (q c).1 (fun S R=>zfN c y O E R) D
  ·exact zdz (q c).1 Q zaM D
def offD(D:List Nat)(c:List (Nat×Nat)):List (Nat×Nat):=c.filter fun p=>!D.contains p.2
theorem zit{D:List Nat}{c:List (Nat×Nat)}{j:Nat}(a:j∈idxs (offD D c)):j∈idxs c:=by{simp only[idxs,offD,List.mem_map,List.mem_filter]at a⊢;obtain⟨d,⟨b,_⟩,rfl⟩:=a;exact⟨d,b,rfl⟩}
theorem ziL{D:List Nat}{c:List (Nat×Nat)}(b:∀a∈c,a.2∉D):offD D c=c:=by{unfold offD;rw[List.filter_eq_self];intro a hp;simpa using b a hp}
theorem zhB{ro:Option Nat}{A:Nat→Prop}{Q:Exit→Act→World→Prop}{T:Act→World→Prop}{z:Nat}{x:Oper}{c2:List (Nat×Nat)}{D:List Nat}(Z:Region.noSelect ops=true)(e5:∀a w,T a w→wpListIn (FR ro) 0 P ops Q (ops.toList.drop ops.size) a w)(O:ops[z]?=some x)(d3:Jl x=false)(d4:∀b∈x.after,Region.binds md b=true→b.on<ops.size∧b.on≠z∧b.on∉idxs c2)(e6:ancB md ops [z] D=true)(d5:∀g∈idxs c2,∃y,ops[g]?=some y∧∃b∈y.after,Region.binds md b=true∧(b.on=z∨b.on∈idxs c2)):
  ∀(v:Nat) (c:List (Nat×Nat)) (listed:Array Bool) (a:Act) (w:World),c.length+c2.length=v→ChP md ops ops.size c→ChP md ops ops.size (offD D c++c2)→z∉idxs (c++c2)→
   (∀g∈idxs c,∀y,ops[g]?=some y→∀b∈y.after,Region.binds md b=true→b.on≠z∧b.on∉idxs c2)→(∀d∈c,d.2∈D→d.1<2)→(∀g∈idxs c,g∉idxs c2)→
   (∀d∈c,d.1<2→d.2∈D∨∃o,ops[d.2]?=some o∧o.apart ops x=true∧jp o=true)→
   (∀i,i<ops.size→(listed.getD i false=false↔i=z∨i∈idxs (c++c2)))→HeadInv md ops ops.size listed→
   chZ Dw P ops ro A T z c2 c a w→wpAnyIn (FR ro) 0 P md ops Q (v+1) listed a w:=by{
 have a5:z<ops.size:=(Array.getElem?_eq_some_iff.1 O).1
 have b7:∀(c:List (Nat×Nat)) (listed:Array Bool),ChP md ops ops.size c→(∀g∈idxs c,∀y,ops[g]?=some y→∀b∈y.after,Region.binds md b=true→b.on≠z∧b.on∉idxs c2)→(∀i,i<ops.size→(listed.getD i false=false↔i=z∨i∈idxs (c++c2)))→HeadInv md ops ops.size listed→Region.ready md ops listed≠[]:=by
  intro c listed q K m p f
  have b8:∀J,J<ops.size→J≠z→J∉idxs (c++c2)→listed.getD J false=true:=fun J e7 h n=>by
   cases j:listed.getD J false with
   | true=>rfl
   | false=>exact ((m J e7).1 j).elim (fun f=>absurd f h) (fun f=>absurd f n)
  cases c with
  | nil =>
   have:z∈Region.ready md ops listed:=mem_ready.2 ⟨getD_in (by rw[p.size];exact a5) ((m z a5).2 (.inl rfl)),x,O,fun b l j=>by
    obtain⟨E,F,b1⟩:=d4 b l j
    exact b8 _ E F b1⟩
   rw[f]at this
   exact absurd this (by simp)
  | cons d c =>
   obtain⟨t,a3⟩:=d
   obtain⟨c5,f4,⟨c6,b9,d6,_⟩,_⟩:=q
   have:a3∈Region.ready md ops listed:=mem_ready.2 ⟨getD_in (by rw[p.size];exact c5) ((m a3 c5).2 (.inr (by simp[idxs]))),c6,b9,fun b l j=>by
    obtain⟨E,F,b1⟩:=d6 b l j
    obtain⟨e8,e9⟩:=K a3 (by simp[idxs]) c6 b9 b l j
    refine b8 _ E e8 ?_
    rw[jg,List.mem_append,not_or]
    refine⟨?_,e9⟩
    simp only[idxs,List.map_cons,List.mem_cons,not_or]
    exact⟨F,b1⟩⟩
   rw[f]at this
   exact absurd this (by simp)
 have free:∀(c:List (Nat×Nat)) (listed:Array Bool) (a:Act) (w:World) (v:Nat),c.length+c2.length=v→ChP md ops ops.size (offD D c++c2)→z∉idxs (c++c2)→
   (∀d∈c,d.1<2→d.2∈D∨∃o,ops[d.2]?=some o∧o.apart ops x=true∧jp o=true)→(∀i,i<ops.size→(listed.getD i false=false↔i=z∨i∈idxs (c++c2)))→HeadInv md ops ops.size listed→
   (∀b∈x.after,Region.binds md b=true→listed.getD b.on false=true)→chZ Dw P ops ro A T z c2 c a w→z∈Region.ready md ops listed→wpOpIn (FR ro) 0 P ops Q z (fun u B=>wpAnyIn (FR ro) 0 P md ops Q v (listed.setIfInBounds z true) u B) a w:=by
  intro c listed a w v X q L M m p d7 f d8
  have c8:=ziu (md:=md) (ops:=ops) (listed:=listed) p.closed D [z] e6 (fun f8 c7 o r b l j=>by
   rw[List.mem_singleton]at c7
   subst c7
   obtain rfl:x=o:=Option.some.inj (O.symm.trans r)
   exact d7 b l j)
  have b3:∀d∈c,d.2∉D:=fun d hp f0=>by
   have h:=c8 d.2 f0
   have d9:d.2∈idxs (c++c2):=by
    simp only[idxs,List.map_append,List.mem_append]
    exact .inl (List.mem_map_of_mem hp)
   have U:d.2<ops.size:=by
    rcases Nat.lt_or_ge d.2 ops.size with n|n
    ·exact n
    ·simp[Array.getElem?_eq_none (show listed.size≤d.2 by rw[p.size];exact n)]at h
   rw[(m d.2 U).2 (.inr d9)]at h
   cases h
  rw[ziL b3]at q
  have f1:=zed Z O d3 c a (fun d hp N=>(M d hp N).resolve_left (b3 d hp)) f
  refine wpOpIn_mono (fun u B ⟨_,I⟩=>?_) (zeZ f1)
  have n:=zcH (ro:=ro) (A:=A) (md:=md) (P:=P) (ops:=ops) (Q:=Q) (n:=ops.size) (T:=T) Z (Nat.le_refl _) (fun f=>absurd f (Nat.lt_irrefl _)) (fun listed f5 E F=>by
   rw[Nat.sub_self]
   simp[Region.seqB,zeb E]) e5 v (c++c2) (listed.setIfInBounds z true) u B (by simp;omega) q (fun g s=>by
    by_cases H:g=z
    ·subst H
     have U:g<listed.size:=by rw[p.size];exact s
     simp only[L,iff_false]
     simp[U]
    ·rw[getD_set_ne false (Ne.symm H),m g s]
     simp[H]) (p.set d8 a5) I
  simpa using n
 intro v;induction v with
 | zero =>
  intro c listed a w X q W L K c0 a6 M m p f
  refine⟨fun l=>absurd l (b7 c listed q K m p),fun i R=>?_⟩
  obtain⟨a7,o,r,a0⟩:=mem_ready.1 R
  have N:i<ops.size:=(Array.getElem?_eq_some_iff.1 r).1
  have S:c=[]:=List.eq_nil_of_length_eq_zero (by omega)
  have b2:c2=[]:=List.eq_nil_of_length_eq_zero (by omega)
  obtain rfl:i=z:=by
   rcases (m i N).1 (getD_both a7)with f|f
   exact f
   rw[S,b2]at f;simp[idxs]at f
  obtain rfl:x=o:=Option.some.inj (O.symm.trans r)
  exact free c listed a w 0 X W L M m p a0 f R
 | succ v ih =>
  intro c listed a w X q W L K c0 a6 M m p f
  refine⟨fun l=>absurd l (b7 c listed q K m p),fun i R=>?_⟩
  obtain⟨a7,o,r,a0⟩:=mem_ready.1 R
  have N:i<ops.size:=(Array.getElem?_eq_some_iff.1 r).1
  have a8:∀b∈o.after,Region.binds md b=true→b.on≠z∧b.on∉idxs (c++c2):=fun b l j=>by
   have h:=a0 b l j
   have c1:b.on<ops.size:=by
    rcases Nat.lt_or_ge b.on ops.size with n|n
    exact n
    simp[Array.getElem?_eq_none (show listed.size≤b.on by rw[p.size];exact n)]at h
   refine⟨fun G=>?_,fun G=>?_⟩
   rw[(m _ c1).2 (.inl G)]at h
   cases h
   rw[(m _ c1).2 (.inr G)]at h
   cases h
  by_cases a9:i=z
  subst a9
  obtain rfl:x=o:=Option.some.inj (O.symm.trans r)
  exact free c listed a w (v+1) X W L M m p a0 f R
  ·have c3:i∈idxs (c++c2):=((m i N).1 (getD_both a7)).resolve_left a9
   have b5:i∈idxs c:=by
    rw[jg,List.mem_append]at c3
    rcases c3 with h|h
    ·exact h
    ·obtain⟨y,e0,b,l,j,e1⟩:=d5 i h
     obtain rfl:o=y:=Option.some.inj (r.symm.trans e0)
     obtain⟨E,F⟩:=a8 b l j
     rcases e1 with n|n
     ·exact absurd n E
     ·exact absurd (by rw[jg];exact List.mem_append_right _ n) F
   have a1:∀b∈o.after,Region.binds md b=true→b.on∉idxs c:=fun b l j G=>(a8 b l j).2 (by rw[jg];exact List.mem_append_left _ G)
   obtain⟨e,t,k,rfl,a2⟩:=zeI (c2 := []) c (by rw[List.append_nil];exact q) b5 ⟨o,r,fun b l j=>by rw[List.append_nil];exact a1 b l j⟩
   have e2:=zdK (x:=(t,i)) r a2 a1 q
   have c9:ChP md ops ops.size (offD D (e++k)++c2):=by
    by_cases c4:i∈D
    ·have S:offD D (e++k)=offD D (e++(t,i)::k):=by
      unfold offD
      rw[List.filter_append,List.filter_append,List.filter_cons_of_neg (by simpa using c4)]
     rw[S]
     exact W
    ·have S:offD D (e++(t,i)::k)++c2=offD D e++(t,i)::(offD D k++c2):=by
      unfold offD
      rw[List.filter_append,List.filter_cons_of_pos (by simpa using c4)]
      simp
     have b2:offD D (e++k)++c2=offD D e++(offD D k++c2):=by
      unfold offD
      rw[List.filter_append,List.append_assoc]
     rw[b2]
     refine zdK (x:=(t,i)) r (fun f3 f2=>a2 f3 (List.mem_filter.1 f2).1) (fun b l j G=>(a8 b l j).2 ?_) (by rw[← S];exact W)
     rw[← S,jg,List.mem_append]at G
     rw[jg,List.mem_append]
     exact G.imp zit id
   have d0:i∉idxs (e++k):=by
    have e3:∀(e:List (Nat×Nat)),ChP md ops ops.size (e++(t,i)::k)→i∉idxs (e++k):=by
     intro e
     induction e with
     | nil=>exact fun f=>f.2.1
     | cons d e ihp =>
      obtain⟨f6,a3⟩:=d
      intro f
      have h:=ihp f.2.2.2
      have n:=f.2.1
      simp only[List.cons_append,idxs,List.map_cons,List.mem_cons,not_or]
      refine⟨fun b=>n (by subst b;simp[idxs]),h⟩
    exact e3 e q
   have d1:i∉idxs (e++k++c2):=by
    rw[jg,List.mem_append,not_or]
    exact⟨d0,a6 i b5⟩
   have a4:∀g,g∈idxs (e++k)→g∈idxs (e++(t,i)::k):=fun g s=>by
    simp only[idxs,List.map_append,List.mem_append,List.map_cons,List.mem_cons]at s ⊢
    rcases s with h|h
    ·exact .inl h
    ·exact .inr (.inr h)
   have b4:∀d,d∈e++k→d∈e++(t,i)::k:=fun d hp=>by
    rcases List.mem_append.1 hp with h|h
    ·exact List.mem_append_left _ h
    ·exact List.mem_append_right _ (List.mem_cons_of_mem _ h)
   have d2:∀g,g∈idxs (e++k++c2)→g∈idxs (e++(t,i)::k++c2):=fun g s=>by
    rw[jg,List.mem_append]at s ⊢
    exact s.imp (a4 g) id
   have b6:∀u B,chZ Dw P ops ro A T z c2 (e++k) u B→wpAnyIn (FR ro) 0 P md ops Q (v+1) (listed.setIfInBounds i true) u B:=fun u B I =>
    ih (e++k) _ u B (by simp at X ⊢;omega) e2 c9 (fun f=>L (d2 _ f)) (fun g s=>K g (a4 g s)) (fun d hp=>c0 d (b4 d hp)) (fun g s=>a6 g (a4 g s)) (fun d hp=>M d (b4 d hp)) (fun g s=>by
     by_cases H:g=i
     ·subst H
      have U:g<listed.size:=by rw[p.size];exact s
      simp only[d1,a9,or_self,iff_false]
      simp[U]
     ·rw[getD_set_ne false (Ne.symm H),m g s]
      simp only[jg,List.mem_append]
      simp[idxs,H]) (p.set R N) I
   have b0:∀(e:List (Nat×Nat)),ChP md ops ops.size (e++(t,i)::k)→(2≤t→Jl o=false)∧(t<2→jp o=true):=by
    intro e
    induction e with
    | nil =>
     rintro⟨_,_,⟨f7,e4,_,E,F⟩,_⟩
     have:=Option.some.inj (r.symm.trans e4)
     subst this
     exact⟨fun f=>(E f).1,fun f=>(F f).1⟩
    | cons d e ihp=>exact fun f=>ihp f.2.2.2
   rcases Nat.lt_or_ge t 2 with j|j
   ·exact zhx r ((b0 e q).2 j) (zfJ j Z r ((b0 e q).2 j) e a q a2 a1 f) fun u I=>b6 u w I
   ·exact wpOpIn_mono (fun u B ⟨_,I⟩=>b6 u B I) (zeZ (zgo j Z r ((b0 e q).1 j) e a q a2 a1 f))}
def chyB(md:Region.Mode)(ops:Array Oper)(z:Nat)(D:List Nat)(c1 c2:List (Nat×Nat)):Bool :=
 Region.noSelect ops&&decide (c1.length+c2.length+1=ops.size)&&chG md ops ops.size c1&&chG md ops ops.size (offD D c1++c2)&&((List.range ops.size).all fun i=>(i==z)||(idxs (c1++c2)).contains i)&&!(idxs (c1++c2)).contains z &&
  (match ops[z]? with
  | none=>false
  | some oz=>!Jl oz&&(oz.after.all fun e=>!Region.binds md e||(decide (e.on<ops.size)&&e.on != z&&!(idxs c2).contains e.on))&&c1.all fun p=>decide (2≤p.1)||D.contains p.2||match ops[p.2]? with
   | none=>false
   | some o=>o.apart ops oz&&jp o)&&ancB md ops [z] D &&
  ((idxs c1).all fun j=>match ops[j]? with
   | none=>true
   | some oj=>oj.after.all fun e=>!Region.binds md e||(e.on != z&&!(idxs c2).contains e.on)) &&
  (c1.all fun p=>!D.contains p.2||decide (p.1<2))&&((idxs c1).all fun j=>!(idxs c2).contains j) &&
  (idxs c2).all fun j=>match ops[j]? with
   | none=>false
   | some oj=>oj.after.any fun e=>Region.binds md e&&(e.on==z||(idxs c2).contains e.on)
end
section
variable{P:Program}{nn:Fr}{Q:Exit→Act→World→Prop}{A:Nat→Prop}{T:Act→World→Prop}{E:Env}{w w0:World}{l tl r:List Oper}{o:Oper}{c c2:List (Nat×Nat)}{i n id z:Nat}
theorem ziB(d:XA A w0 w)(a:CHZ Dw P nn l.toArray A T z c2 c E w):V P nn l.toArray (Exit.then (fun e b=>sw Dw A (1+2) w0 b∧chZ Dw P l.toArray nn.ro A T z c2 c e b) QF) [] E w:=fun g f=>wpListIn_nil ⟨⟨fun a=>absurd a (by decide),fun _=>d⟩,a g f⟩
theorem zeG(A:Nat→Prop)(z:Nat)(D:List Nat)(h c2:List (Nat×Nat))(G:P.follows .mixedOrders=true)(hB:chyB .any l.toArray z D h c2=true)(g:∀t,Kp Dw w t→CHZ Dw P nn l.toArray A (fun m n=>wpListIn (FR nn.ro) 0 P l.toArray Q [] m n) z c2 h E t):C P nn (.region id l.toArray true) Q E w:=by{
 intro q H;refine wpIn_region_any G ?_;simp only[chyB,Bool.and_eq_true,decide_eq_true_eq]at hB;obtain⟨⟨⟨⟨⟨⟨⟨⟨⟨⟨⟨I,J⟩,K⟩,v⟩,L⟩,M⟩,d⟩,N⟩,x⟩,y⟩,B⟩,j⟩:=hB;cases hoz:l.toArray[z]? with
 | none=>rw[hoz]at d;cases d
 | some oz =>
  rw[hoz]at d
  simp only[Bool.and_eq_true]at d
  obtain⟨⟨O,R⟩,F⟩:=d
  have s:=zhB (ro:=nn.ro) (A:=A) (md := .any) (P:=P) (ops:=l.toArray) (Q:=Q) (c2:=c2) (D:=D) (T:=fun m n=>wpListIn (FR nn.ro) 0 P l.toArray Q [] m n) I (fun q w g=>by simpa using g) hoz (by simpa using O)
   (fun r o p=>by
    have:=Array.all_eq_true'.1 R r o
    rw[p]at this
    simp only[Bool.not_true,Bool.false_or,Bool.and_eq_true,decide_eq_true_eq,bne_iff_ne,Bool.not_eq_true',List.contains_eq_mem,decide_eq_false_iff_not]at this
    exact⟨this.1.1,this.1.2,this.2⟩) N
   (fun c e=>by
    have:=List.all_eq_true.1 j c e
    cases b:l.toArray[c]? with
    | none=>rw[b]at this;cases this
    | some f =>
     rw[b]at this
     obtain⟨Z,S,j⟩:=Array.any_eq_true.1 this
     simp only[Bool.and_eq_true,Bool.or_eq_true,beq_iff_eq,List.contains_iff_mem]at j
     exact⟨f,rfl,_,Array.getElem_mem S,j⟩)
   (h.length+c2.length) h (Array.replicate l.toArray.size false) q { w with drawn:=w.drawn+1 } rfl (zeS K) (zeS v) (by simpa using M)
   (fun c e f b r o p=>by
    have:=List.all_eq_true.1 x c e
    rw[b]at this
    have:=Array.all_eq_true'.1 this r o
    rw[p]at this
    simpa using this)
   (fun k hp T=>by
    have:=List.all_eq_true.1 y k hp
    simp only[Bool.or_eq_true,Bool.not_eq_true',List.contains_eq_mem,decide_eq_false_iff_not,decide_eq_true_eq]at this
    exact this.resolve_left (fun g=>g T))
   (fun c e=>by
    have:=List.all_eq_true.1 B c e
    simpa using this)
   (fun k hp X=>by
    have:=List.all_eq_true.1 F k hp
    simp only[Bool.or_eq_true,decide_eq_true_eq,List.contains_iff_mem]at this
    rcases this with (a|a)|a
    ·omega
    ·exact .inl a
    ·cases b:l.toArray[k.2]? with
     | none=>rw[b]at a;cases a
     | some f =>
      rw[b]at a
      simp only[Bool.and_eq_true]at a
      exact .inr ⟨f,rfl,a⟩)
   (fun i U=>by
    rw[getD_replicate_false]
    have:=List.all_eq_true.1 L i (List.mem_range.2 U)
    simpa using this)
   ⟨by simp,fun c f _ u=>(by rw[getD_replicate_false]at u;cases u),fun a0 _ W=>getD_in (by simpa using W) (getD_replicate_false _ _)⟩
   (g _ (Kp.drew (Dw:=Dw) _) q H)
  rw[J]at s
  exact s}
end
end Go.Gw
