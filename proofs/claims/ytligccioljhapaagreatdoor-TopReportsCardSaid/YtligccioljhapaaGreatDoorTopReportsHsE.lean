import Derived.Test.YtligccioljhapaaGreatDoorTopReportsM
import Derived.Test.YtligccioljhapaaGreatDoorPu
import Derived.Lib.Bytealg
import Derived.Test.YtligccioljhapaaGreatDoorTopReportsHsD
namespace Go.Proofs.YtligccioljhapaaGreatDoor.M
open Go Go.Pu
set_option linter.unusedSimpArgs false
set_option linter.unusedVariables false
theorem zmb(n:Nat)(f:n≤4000000000000000000):Option.bind (shr .u64 (IntKind.wrap .u64 (w64 (n:Int))) 1) (fun d=>some (IntKind.wrap .i64 d))=some ((n / 2:Nat):Int):=by{
 have a:w64 (n:Int)=(n:Int):=ZB (by omega) (by omega)
 have b:IntKind.wrap .u64 (n:Int)=(n:Int):=by
  simp only[IntKind.wrap,IntKind.bits,IntKind.signed]
  simp
  omega
 have c:IntKind.wrap .i64 ((n:Int).fdiv 2)=((n / 2:Nat):Int):=by
  have:(n:Int).fdiv 2=((n / 2:Nat):Int):=by
   rw[Int.fdiv_eq_ediv_of_nonneg _ (by decide)]
   omega
  rw[this]
  exact ZB (by omega) (by omega)
 rw[a,b,shr,if_neg (by decide)];have e:(2:Int)^(min (1:Int).toNat IntKind.u64.bits)=2:=by decide
 rw[e];simp only[Option.bind_some,c]}
theorem zjS{α R:Type}{l:List α}(G:l.length≤2000000000000000000)(f:α→Option Bool)(lo:α→Bool)(B:∀x∈l,f x=some (lo x))(o:∀(p b:Nat) (x y:α),p<b→l[p]?=some x→l[b]?=some y→lo y=true→lo x=true)(body:Int×Int→Option (Ctl (Int×Int) R))(u:∀d:Int×Int,body d=if (decide (d.1<d.2))=true then Option.bind (shr .u64 (IntKind.wrap .u64 (w64 (d.1+d.2))) 1) (fun j=>Option.bind (idx l (IntKind.wrap .i64 j)) fun x=>Option.bind (f x) fun c=>if c=true then some (.nx (w64 ((IntKind.wrap .i64 j)+1),d.2)) else some (.nx (d.1,IntKind.wrap .i64 j))) else some (.bk (d.1,d.2))):
  ∃a:Nat,a≤l.length∧jO body (0,(l.length:Int))=some (.fin ((a:Int),(a:Int)))∧(∀b x,b<a→l[b]?=some x→lo x=true)∧∀b x,a≤b→l[b]?=some x→lo x=false:=by{
 obtain⟨t,D,a,rfl,E,v,w⟩:=JF (R:=R) (body:=body)
  (fun d=>∃a c:Nat,d=((a:Int),(c:Int))∧a≤c∧c≤l.length∧(∀b x,b<a→l[b]?=some x→lo x=true)∧∀b x,c≤b→l[b]?=some x→lo x=false) (fun d=>(d.2-d.1).toNat)
  (fun t=>∃a:Nat,t=.fin ((a:Int),(a:Int))∧a≤l.length∧(∀b x,b<a→l[b]?=some x→lo x=true)∧∀b x,a≤b→l[b]?=some x→lo x=false) (s:=(0,(l.length:Int)))
  ⟨0,l.length,rfl,Nat.zero_le _,Nat.le_refl _,fun b x h=>absurd h (Nat.not_lt_zero _),fun b x h e=>absurd (List.getElem?_eq_some_iff.1 e).1 (by omega)⟩ (by
  rintro _⟨a,c,rfl,F,q,r,s⟩
  rw[u]
  simp only
  by_cases n:(a:Int)<(c:Int)
  ·have i:=zmb (a+c) (by omega)
   rw[if_pos (by simpa using n)]
   cases hsh:shr .u64 (IntKind.wrap .u64 (w64 ((a:Int)+(c:Int)))) 1 with
   | none=>rw[show ((a+c:Nat):Int)=(a:Int)+(c:Int) by omega,hsh]at i;simp at i
   | some j =>
    rw[show ((a+c:Nat):Int)=(a:Int)+(c:Int) by omega,hsh]at i
    simp only[Option.bind_some,Option.some.injEq]at i
    have z:(a+c) / 2<l.length:=by omega
    have e:l[(a+c) / 2]?=some l[(a+c) / 2]:=List.getElem?_eq_getElem z
    generalize l[(a+c) / 2]=x at e
    simp only[Option.bind_some,i,Jm,e,B x (List.mem_of_getElem? e)]
    cases hd:lo x with
    | true =>
     simp only[if_true]
     rw[ZB (by omega) (by omega)]
     refine⟨_,rfl,⟨(a+c) / 2+1,c,by congr 1,by omega,q,fun b y m g=>?_,s⟩,by simp only;omega⟩
     rcases Nat.lt_or_eq_of_le (Nat.le_of_lt_succ m)with h|rfl
     ·exact o b _ y x h g e hd
     ·rw[e]at g;cases g;exact hd
    | false =>
     simp only[Bool.false_eq_true,if_false]
     refine⟨_,rfl,⟨a,(a+c) / 2,rfl,by omega,by omega,r,fun b y m g=>?_⟩,by simp only;omega⟩
     rcases Nat.lt_or_eq_of_le m with h|rfl
     ·rw[← Bool.not_eq_true]
      intro A
      rw[o _ b x y h e g A]at hd
      cases hd
     ·rw[e]at g;cases g;exact hd
  ·rw[if_neg (by simpa using n)]
   obtain rfl:a=c:=by omega
   exact⟨_,rfl,a,rfl,q,r,s⟩)
 exact⟨a,E,D,v,w⟩}
end Go.Proofs.YtligccioljhapaaGreatDoor.M
namespace Go.Proofs.YtligccioljhapaaGreatDoor.M
open Go Go.Pu
set_option linter.unusedSimpArgs false
set_option linter.unusedVariables false
theorem zhe{a b:UInt8}:a<b↔a.toNat<b.toNat:=UInt8.lt_iff_toNat_lt
theorem zid:∀a b:List UInt8,Go.Lib.compareBytes a b=0↔a=b
 | [], []=>by simp[Go.Lib.compareBytes]
 | [],_::_=>by simp[Go.Lib.compareBytes]
 | _::_, []=>by simp[Go.Lib.compareBytes]
 | a::a1s,b::bs=>by
  rw[Go.Lib.compareBytes]
  by_cases h1:a<b
  ·rw[if_pos h1]
   constructor
   ·intro h;cases h
   ·intro h;cases h;rw[zhe]at h1;omega
  ·rw[if_neg h1]
   by_cases h2:b<a
   ·rw[if_pos h2]
    constructor
    ·intro h;cases h
    ·intro h;cases h;rw[zhe]at h2;omega
   ·rw[if_neg h2,zid a1s bs]
    rw[zhe]at h1 h2
    have:a=b:=UInt8.toNat_inj.1 (by omega)
    simp[this]
theorem zhU:∀a b:List UInt8,Go.Lib.compareBytes a b = -Go.Lib.compareBytes b a
 | [], []=>by simp[Go.Lib.compareBytes]
 | [],_::_=>by simp[Go.Lib.compareBytes]
 | _::_, []=>by simp[Go.Lib.compareBytes]
 | a::a1s,b::bs=>by
  rw[Go.Lib.compareBytes,Go.Lib.compareBytes,zhU a1s bs]
  simp only[zhe]
  split <;> split <;> omega
theorem zhw:∀a b c:List UInt8,Go.Lib.compareBytes a b<0→Go.Lib.compareBytes b c<0→Go.Lib.compareBytes a c<0
 | [],b, [],h1,h2=>by
  cases b with
  | nil=>exact h1
  | cons b bs=>simp[Go.Lib.compareBytes]at h2
 | [],_,_::_,_,_=>by simp[Go.Lib.compareBytes]
 | _::_, [],_,h1,_=>by simp[Go.Lib.compareBytes]at h1
 | _::_,_::_, [],_,h2=>by simp[Go.Lib.compareBytes]at h2
 | a::a1s,b::bs,c::cs,h1,h2=>by
  rw[Go.Lib.compareBytes]at h1 h2 ⊢
  simp only[zhe]at h1 h2 ⊢
  by_cases h3:a.toNat<b.toNat
  ·by_cases h4:b.toNat<c.toNat
   ·rw[if_pos (by omega)];decide
   ·rw[if_neg h4]at h2
    by_cases h5:c.toNat<b.toNat
    ·rw[if_pos h5]at h2;omega
    ·rw[if_pos (by omega)];decide
  ·rw[if_neg h3]at h1
   by_cases h4:b.toNat<a.toNat
   ·rw[if_pos h4]at h1;omega
   ·rw[if_neg h4]at h1
    by_cases h5:b.toNat<c.toNat
    ·rw[if_pos (by omega)];decide
    ·rw[if_neg h5]at h2
     by_cases h6:c.toNat<b.toNat
     ·rw[if_pos h6]at h2;omega
     ·rw[if_neg h6]at h2
      rw[if_neg (by omega),if_neg (by omega)]
      exact zhw a1s bs cs h1 h2
def cmpS(a b:ByteArray):Int:=Go.Lib.compareBytes a.data.toList b.data.toList
theorem zls(a b:ByteArray):cmpS a b=0↔a=b:=by{unfold cmpS;rw[zid];constructor;intro c;apply ByteArray.ext;rw[← Array.toList_inj];exact c;rintro rfl;rfl}
theorem zlq(a b:ByteArray):cmpS a b = -cmpS b a:=zhU _ _
theorem zkF{a b c:ByteArray}(d:cmpS a b<0)(e:cmpS b c<0):cmpS a c<0:=zhw _ _ _ d e
theorem zhQ(a b:ByteArray):Zw a b=decide (a=b):=by{unfold Zw;rw[ByteArray.toList_eq,ByteArray.toList_eq,Bool.eq_iff_iff,beq_iff_eq,decide_eq_true_eq];constructor;intro c;apply ByteArray.ext;rw[← Array.toList_inj];exact c;rintro rfl;rfl}
end Go.Proofs.YtligccioljhapaaGreatDoor.M
namespace Go.Proofs.YtligccioljhapaaGreatDoor.M
open Go Go.Pu
set_option linter.unusedSimpArgs false
set_option linter.unusedVariables false
theorem zjJ:Jw=some true:=by{
 unfold Jw zbm;have a:QO ⟨[]⟩=some 0:=by unfold QO;rfl
 have b:Jd ⟨ByteArray.empty,ByteArray.empty,ByteArray.empty⟩=some (⟨#[]⟩,1):=by
  unfold Jd zdD zbj
  have:Zw ByteArray.empty ⟨#[]⟩=true:=by rw[zhQ];exact decide_eq_true rfl
  simp only[this,Bool.not_true,Bool.false_eq_true,if_false,Option.bind_some,Bool.not_false,if_true]
 simp only[a,b,Option.bind_some,bne_self_eq_false,Bool.false_eq_true,if_false];rfl}
theorem cmpI(x y:Int):(Zd x y<0↔x<y)∧(Zd x y=0↔x=y):=by{
 have b:∀x:Int,jJ x=false:=fun x=>by simp[jJ]
 unfold Zd;rw[b,b];by_cases a:x<y;simp[a];omega;by_cases c:y<x;simp[a,c];omega;simp[a,c];omega}
def vcmp(a b:api_Value):Int:=if Zd a.kind b.kind≠0 then Zd a.kind b.kind else if Zd a.int b.int≠0 then Zd a.int b.int else cmpS a.text b.text
theorem zcK(a b:api_Value):ZO a b=some (vcmp a b):=by{
 unfold ZO strings_Compare zdz vcmp cmpS;generalize Zd a.kind b.kind=f;generalize Zd a.int b.int=g;generalize Go.Lib.compareBytes a.text.data.toList b.text.data.toList=h;simp only[Option.bind_some];by_cases hp:f=0;by_cases c:g=0;by_cases d:h=0;subst hp c d;rfl;subst hp c;have e:(h != 0)=true:=by simpa using d
 simp[zG,idx,d,Lp.andThen];subst hp;have e:(g != 0)=true:=by simpa using c
 simp[zG,idx,c,Lp.andThen];have e:(f != 0)=true:=by simpa using hp
 simp[zG,idx,hp,Lp.andThen]}
theorem zfD(a b:api_Value):vcmp a b=0↔a=b:=by{obtain⟨k,m,n⟩:=a;obtain⟨i,j,l⟩:=b;unfold vcmp;have d:=cmpI k i;have e:=cmpI m j;have f:=zls n l;simp only[api_Value.mk.injEq];split;rename_i h;exact⟨fun c=>absurd c h,fun c=>absurd (d.2.2 c.1) h⟩;split;rename_i h;exact⟨fun c=>absurd c h,fun c=>absurd (e.2.2 c.2.1) h⟩;rename_i g1 g;have g1:=d.2.1 (by omega);have g:=e.2.1 (by omega);exact⟨fun c=>⟨g1,g,f.1 c⟩,fun c=>f.2 c.2.2⟩}
theorem zgE(a b:api_Value):vcmp a b<0↔a.kind<b.kind∨(a.kind=b.kind∧(a.int<b.int∨(a.int=b.int∧cmpS a.text b.text<0))):=by{unfold vcmp;have c:=cmpI a.kind b.kind;have d:=cmpI a.int b.int;split;rename_i h;have:a.kind≠b.kind:=fun e=>h (c.2.2 e);rw[c.1];omega;split;rename_i g h;have:a.int≠b.int:=fun e=>h (d.2.2 e);have:=c.2.1 (by omega);rw[d.1];omega;rename_i g1 f;have g1:=c.2.1 (by omega);have f:=d.2.1 (by omega);omega}
theorem zch{a b c:api_Value}(d:vcmp a b<0)(e:vcmp b c<0):vcmp a c<0:=by{rw[zgE]at *;have f:=@zkF a.text b.text c.text;omega}
theorem zee(a b:api_Value):vcmp a b<0∨a=b∨vcmp b a<0:=by{
 rw[← zfD,zgE,zgE];have d:=zlq a.text b.text;have e:vcmp a b=0↔_:=zfD a b;by_cases k:a.kind=b.kind;by_cases c:a.int=b.int
 have f:vcmp a b=cmpS a.text b.text:=by
  unfold vcmp
  rw[if_neg (by rw[(cmpI _ _).2.2 k];simp),if_neg (by rw[(cmpI _ _).2.2 c];simp)]
 omega;omega;omega}
theorem zdU(a:api_Value):¬vcmp a a<0:=by rw[(zfD a a).2 rfl];omega
theorem zno(m:List api_Value)(r:m.length≤1000000000):∃i,zbx (fun a b=>ZO a b) m=some i∧i.Pairwise (fun c d=>¬vcmp d c<0)∧i.length=m.length∧∀a,a∈i↔a∈m:=by{
 have l:∀c d,QV (fun a b=>ZO a b) c d=true↔vcmp c d<0:=fun c d=>by
  unfold QV
  simp only[zcK,decide_eq_true_eq]
 have h:∀c d,QV (fun a b=>ZO a b) c d=false↔¬vcmp c d<0:=fun c d=>by rw[← l,Bool.not_eq_true]
 have nt:∀c d j,¬vcmp c d<0→¬vcmp d j<0→¬vcmp c j<0:=fun c d j g f n=>by
  rcases zee c d with e|rfl|e
  exact g e
  exact f n
  exact f (zch e n)
 have p:zhA (fun a b=>ZO a b) m:=by
  refine⟨by omega,fun a _ b _=>⟨_,zcK a b⟩,fun a _=>?_,fun a _ b _ q _ g f=>?_,fun a _ b _ q _ g f=>?_,fun a s b t g f=>?_⟩
  rw[h];exact zdU _
  rw[l]at *;exact zch g f
  rw[h]at *;exact nt _ _ _ g f
  rw[h]at g f
  rcases zee a b with e|e|e
  exact absurd e g
  exact e
  exact absurd e f
 unfold zbx;rw[if_pos p];have hp:=List.mergeSort_perm m fun a b=>!(QV (fun a b=>ZO a b) b a)
 have o:=List.pairwise_mergeSort (le:=fun a b=>!(QV (fun a b=>ZO a b) b a)) (fun c d j g f=>by
  simp only[Bool.not_eq_true',h]at *
  exact nt _ _ _ f g) (fun c d=>by
  simp only[Bool.or_eq_true,Bool.not_eq_true',h]
  by_cases e:vcmp d c<0
  exact .inr fun f=>zdU _ (zch e f)
  exact .inl e) m
 generalize m.mergeSort (fun a b=>!(QV (fun a b=>ZO a b) b a))=i at hp o;refine⟨i,rfl,o.imp fun {c d} e=>?_,hp.length_eq,fun a=>hp.mem_iff⟩;simpa only[Bool.not_eq_true',h]using e}
theorem vEq(x y:api_Value):(x.kind==y.kind&&(x.int==y.int&&(Zw x.text y.text)))=true↔x=y:=by{obtain⟨k,d,e⟩:=x;obtain⟨a,b,c⟩:=y;simp[zhQ]}
instance:DecidableEq api_Value:=fun x y=>decidable_of_iff _ (vEq x y)
def cp(s:List api_Value):Nat→List api_Value
 | 0=>[]
 | k+1=>match s[k]? with
  | none=>cp s k
  | some x=>if k≠0∧s[k-1]?=some x then cp s k else cp s k++[x]
theorem zfS(s:List api_Value):∀k x,x∈cp s k↔x∈s.take k
 | 0,x=>by simp[cp]
 | k+1,x=>by
  rw[cp,List.take_add_one]
  cases h:s[k]? with
  | none=>simpa using zfS s k x
  | some y =>
   dsimp only[Option.toList_some]
   rw[List.mem_append,List.mem_singleton]
   split
   ·rename_i g
    rw[zfS s k]
    refine⟨.inl,fun e=>e.elim id fun e=>?_⟩
    subst e
    refine List.mem_iff_getElem?.2 ⟨k-1,?_⟩
    rw[List.getElem?_take_of_lt (by omega)]
    exact g.2
   ·rw[List.mem_append,List.mem_singleton,zfS s k]
theorem zlg(s:List api_Value):∀k,(cp s k).length≤k
 | 0=>by simp[cp]
 | k+1=>by
  have:=zlg s k
  rw[cp]
  split
  ·omega
  split
  ·omega
  ·simp;omega
theorem zkj{s:List api_Value}(m:s.Pairwise fun f i=>¬vcmp i f<0):∀k,(cp s k).Pairwise fun f i=>vcmp f i<0
 | 0=>by simp[cp]
 | k+1=>by
  have ih:=zkj m k
  rw[cp]
  cases h:s[k]? with
  | none=>exact ih
  | some x =>
   dsimp only
   split
   ·exact ih
   rename_i g
   rw[List.pairwise_append]
   refine⟨ih,List.pairwise_singleton _ _,fun q n b o=>?_⟩
   rw[List.mem_singleton]at o
   subst o
   rw[zfS]at n
   obtain⟨j,d⟩:=List.mem_iff_getElem?.1 n
   have r:j<k:=by
    have:=(List.getElem?_eq_some_iff.1 d).1
    rw[List.length_take]at this
    omega
   rw[List.getElem?_take_of_lt r]at d
   have p:=List.pairwise_iff_getElem.1 m
   obtain⟨t,l⟩:=List.getElem?_eq_some_iff.1 d
   obtain⟨u,v⟩:=List.getElem?_eq_some_iff.1 h
   have c:k-1<s.length:=by omega
   have w:¬vcmp b s[k-1]<0:=by rw[← v];exact p (k-1) k c u (by omega)
   have y:s[k-1]≠b:=fun a=>g ⟨by omega,by rw[List.getElem?_eq_getElem c,a]⟩
   have e:vcmp s[k-1] b<0:=by
    rcases zee s[k-1] b with a|a|a
    ·exact a
    ·exact absurd a y
    ·exact absurd a w
   by_cases a:j=k-1
   ·subst a
    rw[← l];exact e
   ·have z:¬vcmp s[k-1] q<0:=by rw[← l];exact p j (k-1) t c (by omega)
    rcases zee q s[k-1]with a|a|a
    ·exact zch a e
    ·rw[a];exact e
    ·exact absurd a z
theorem zjL(s:List api_Value)(a3:s.length≤1000000):qm s=some (cp s s.length):=by{
 unfold qm;by_cases y:(s.length:Int)<2;rw[if_pos (decide_eq_true y)];match s,y with
 | [],_=>rfl
 | [h],_=>simp[cp]
 | h::E::l,F=>simp only[List.length_cons]at F;omega
 rw[if_neg (by simpa using y)]
 obtain⟨h,R,S⟩:=JF (R:=List api_Value) (body:=fun (d:Int×List api_Value)=>if (decide (d.1<(d.2.length:Int)))=true then Option.bind (idx d.2 d.1) fun t=>Option.bind (idx d.2 (w64 (d.1-1))) fun u=>if (t.kind==u.kind&&(t.int==u.int&&(Zw t.text u.text)))=true then Option.bind (zhk d.2 d.1) fun a2=>Option.bind (jO (fun b=>if (decide (b.2.1<((d.2.length:Int)-d.1)))=true then Option.bind (Option.bind (idxT b.2.2 d.1 b.2.1) fun g=>Option.bind (idxT b.2.2 d.1 (w64 (b.2.1-1))) fun i=>Option.bind (if (!(g.kind==i.kind&&(g.int==i.int&&(Zw g.text i.text))))=true then Option.bind (idx b.2.2 b.1) fun N=>Option.bind (setI b.2.2 b.1 g) fun r=>some (w64 (b.1+1),r) else some (b.1,b.2.2)) fun m=>some (m.1,m.2)) fun n=>some (.nx (n.1,w64 (b.2.1+1),n.2)) else some (.bk (b.1,b.2.1,b.2.2))) (d.1,1,d.2)) fun P=>P.andThen (fun E=>some (.rt E)) fun I=>Option.bind (zdd I.2.2 I.1) fun O=>some (.rt O) else some (.nx (w64 (d.1+1),d.2)) else some (.bk (d.1,d.2)))
  (fun c=>∃k:Nat,c=((k:Int),s)∧1≤k∧k≤s.length∧cp s k=s.take k) (fun c=>((s.length:Int)-c.1).toNat)
  (fun h=>h=.rt (cp s s.length)∨∃k:Int,h=.fin (k,s)∧cp s s.length=s) (s:=(1,s))
  ⟨1,rfl,Nat.le_refl _,by omega,by
   have:0<s.length:=by omega
   rw[cp,cp,List.take_one,List.getElem?_eq_getElem this]
   cases s with
   | nil=>simp at this
   | cons h l=>rfl⟩
  (by
   rintro _⟨k,rfl,a4,a5,z⟩
   dsimp only
   by_cases o:(k:Int)<(s.length:Int)
   rotate_left
   ·rw[if_neg (by simpa using o)]
    obtain rfl:k=s.length:=by omega
    exact⟨_,rfl,.inr ⟨_,rfl,by rw[z,List.take_length]⟩⟩
   have v:k<s.length:=by omega
   have T:w64 ((k:Int)-1)=((k-1:Nat):Int):=by rw[ZB (by omega) (by omega)];omega
   have w:k-1<s.length:=by omega
   rw[if_pos (decide_eq_true o),ZP _ _ v,Option.bind_some,T,ZP _ _ w,Option.bind_some]
   by_cases p:s[k]=s[k-1]
   rotate_left
   ·rw[if_neg (by rw[vEq];exact p)]
    refine⟨_,rfl,⟨k+1,?_,by omega,by omega,?_⟩,?_⟩
    ·rw[ZB (by omega) (by omega)];rfl
    ·rw[cp,List.take_add_one,List.getElem?_eq_getElem v]
     dsimp only[Option.toList_some]
     rw[if_neg,z]
     rw[List.getElem?_eq_getElem w]
     exact fun f=>p (Option.some.inj f.2).symm
    ·rw[ZB (by omega) (by omega)]
     show ((s.length:Int)-((k:Int)+1)).toNat<((s.length:Int)-(k:Int)).toNat
     omega
   rw[if_pos ((vEq _ _).2 p),zhk,if_pos (by omega),Option.bind_some]
   obtain⟨E,U,e,a,c,rfl,a6,a7,W,a8⟩:=JF (R:=List api_Value) (body:=fun (b:Int×Int×List api_Value)=>if (decide (b.2.1<((s.length:Int)-(k:Int))))=true then Option.bind (Option.bind (idxT b.2.2 (k:Int) b.2.1) fun g=>Option.bind (idxT b.2.2 (k:Int) (w64 (b.2.1-1))) fun i=>Option.bind (if (!(g.kind==i.kind&&(g.int==i.int&&(Zw g.text i.text))))=true then Option.bind (idx b.2.2 b.1) fun N=>Option.bind (setI b.2.2 b.1 g) fun r=>some (w64 (b.1+1),r) else some (b.1,b.2.2)) fun m=>some (m.1,m.2)) fun n=>some (.nx (n.1,w64 (b.2.1+1),n.2)) else some (.bk (b.1,b.2.1,b.2.2)))
    (fun G=>∃(e a:Nat) (c:List api_Value),G=((e:Int),(a:Int),c)∧1≤a∧k+a≤s.length∧e+1≤k+a∧c.length=s.length∧c.take e=cp s (k+a)∧∀j,k+a≤j+1→c[j]?=s[j]?) (fun G=>((s.length:Int)-(k:Int)-G.2.1).toNat)
    (fun h=>∃(e:Nat) (a:Int) (c:List api_Value),h=.fin ((e:Int),a,c)∧e<s.length∧c.length=s.length∧c.take e=cp s s.length∧True) (s:=((k:Int),1,s))
    ⟨k,1,s,rfl,Nat.le_refl _,by omega,by omega,rfl,by
     rw[cp,List.getElem?_eq_getElem v]
     dsimp only
     rw[if_pos ⟨by omega,by rw[List.getElem?_eq_getElem w,p]⟩,z],fun _ _=>rfl⟩
    (by
     rintro _⟨e,a,c,rfl,a9,b0,b1,A,B,q⟩
     dsimp only
     by_cases L:(a:Int)<(s.length:Int)-(k:Int)
     rotate_left
     ·rw[if_neg (by simpa using L)]
      refine⟨_,rfl,e,a,c,rfl,by omega,A,?_,trivial⟩
      rw[B]
      congr 1
      omega
     have J:k+a<s.length:=by omega
     have H:k+a-1<s.length:=by omega
     have Q:w64 ((a:Int)-1)=(a:Int)-1:=ZB (by omega) (by omega)
     have X:idxT c (k:Int) (a:Int)=some s[k+a]:=by
      rw[idxT,if_pos (by omega),show (k:Int)+(a:Int)=((k+a:Nat):Int) by omega,Jm,q _ (by omega),List.getElem?_eq_getElem J]
     have Z:idxT c (k:Int) ((a:Int)-1)=some s[k+a-1]:=by
      rw[idxT,if_pos (by omega),show (k:Int)+((a:Int)-1)=((k+a-1:Nat):Int) by omega,Jm,q _ (by omega),List.getElem?_eq_getElem H]
     have M:w64 ((a:Int)+1)=((a+1:Nat):Int):=by rw[ZB (by omega) (by omega)];rfl
     rw[if_pos (decide_eq_true L),Q,X,Option.bind_some,Z,Option.bind_some]
     have K:cp s (k+(a+1))=if s[k+a]=s[k+a-1] then cp s (k+a) else cp s (k+a)++[s[k+a]]:=by
      rw[show k+(a+1)=k+a+1 by omega,cp,List.getElem?_eq_getElem J]
      dsimp only
      rw[List.getElem?_eq_getElem H]
      by_cases f:s[k+a]=s[k+a-1]
      ·rw[if_pos ⟨by omega,by rw[f]⟩,if_pos f]
      ·rw[if_neg (fun F=>f (Option.some.inj F.2).symm),if_neg f]
     by_cases f:s[k+a]=s[k+a-1]
     ·have D:(!(s[k+a].kind==s[k+a-1].kind&&(s[k+a].int==s[k+a-1].int&&(Zw s[k+a].text s[k+a-1].text))))=false:=by
       rw[(vEq _ _).2 f];rfl
      rw[if_neg (by rw[D];simp)]
      simp only[Option.bind_some,M]
      refine⟨_,rfl,⟨e,a+1,c,rfl,by omega,by omega,by omega,A,by rw[K,if_pos f,B],fun j a0=>q j (by omega)⟩,?_⟩
      dsimp only
      omega
     ·have D:(!(s[k+a].kind==s[k+a-1].kind&&(s[k+a].int==s[k+a-1].int&&(Zw s[k+a].text s[k+a-1].text))))=true:=by
       rw[Bool.not_eq_true', ← Bool.not_eq_true,vEq];exact f
      have x:e<c.length:=by omega
      have a1:w64 ((e:Int)+1)=((e+1:Nat):Int):=by rw[ZB (by omega) (by omega)];rfl
      rw[if_pos D,ZP _ _ x,Option.bind_some,ZV x]
      simp only[Option.bind_some,M,a1]
      refine⟨_,rfl,⟨e+1,a+1,_,rfl,by omega,by omega,by omega,by rw[List.length_set,A],?_,fun j a0=>?_⟩,?_⟩
      ·rw[K,if_neg f, ← B,List.take_add_one,List.getElem?_set_self x,List.take_set_of_le (Nat.le_refl _)]
       rfl
      ·rw[List.getElem?_set_ne (by omega)]
       exact q j (by omega)
      ·dsimp only
       omega)
   rw[U,Option.bind_some,Lp.andThen_fin]
   dsimp only
   rw[zdd,if_pos (by omega),Option.bind_some,Int.toNat_natCast,W]
   exact⟨_,rfl,.inl rfl⟩)
 rw[R,Option.bind_some];rcases S with rfl|⟨k,rfl,o⟩;rfl;rw[Lp.andThen_fin,o]}
end Go.Proofs.YtligccioljhapaaGreatDoor.M
namespace Go.Proofs.YtligccioljhapaaGreatDoor.M
open Go Go.Pu
set_option linter.unusedSimpArgs false
set_option linter.unusedVariables false
theorem zkK(s:List za)(L:s.length≤1000000)(p:za→Bool):Zt s (fun b=>some (p b))=some (s.filter fun b=>!(p b)):=by{
 unfold Zt qj;rw[zcn];cases hf:s.findIdx? p with
 | none =>
  rw[List.findIdx?_eq_none_iff]at hf
  have J:(s.filter fun b=>!(p b))=s:=List.filter_eq_self.2 fun b j=>by rw[hf b j];rfl
  rw[J]
  rfl
 | some c =>
  obtain⟨l,hp,z⟩:=List.findIdx?_eq_some_iff_getElem.1 hf
  have A:((c:Int) == -1)=false:=by
   rw[← Bool.not_eq_true]
   simp only[beq_iff_eq]
   omega
  have E:w64 ((c:Int)+1)=((c+1:Nat):Int):=by rw[ZB (by omega) (by omega)];rfl
  have B:(s.take c).filter (fun b=>!(p b))=s.take c:=List.filter_eq_self.2 fun b j=>by
   obtain⟨a,g,rfl⟩:=List.mem_iff_getElem.1 j
   rw[List.length_take]at g
   rw[List.getElem_take]
   have:=z a (by omega)
   simpa using this
  obtain⟨Q,F,e,a,f,rfl,M,N,G⟩:=JF (R:=List za) (body:=fun (d:List za×Int×Int)=>if (decide (d.2.2<(d.1.length:Int)))=true then Option.bind (Option.bind (idx d.1 d.2.2) fun r=>Option.bind (some (p r)) fun D=>Option.bind (if (!D)=true then Option.bind (idx d.1 d.2.1) fun K=>Option.bind (setI d.1 d.2.1 r) fun y=>some (y,w64 (d.2.1+1)) else some (d.1,d.2.1)) fun t=>some (t.1,t.2)) fun u=>some (.nx (u.1,u.2,w64 (d.2.2+1))) else some (.bk (d.1,d.2.1,d.2.2)))
   (fun q=>∃(e a:Nat) (f:List za),q=(f,(e:Int),(a:Int))∧e<a∧a≤s.length∧f.length=s.length∧f.take e=(s.take a).filter (fun b=>!(p b))∧∀c,a≤c→f[c]?=s[c]?) (fun q=>((s.length:Int)-q.2.2).toNat)
   (fun b=>∃(e:Nat) (a:Int) (f:List za),b=.fin (f,(e:Int),a)∧e<s.length∧f.length=s.length∧f.take e=s.filter (fun b=>!(p b))) (s:=(s,(c:Int),w64 ((c:Int)+1)))
   ⟨c,c+1,s,by rw[E],by omega,by omega,rfl,by
    rw[List.take_add_one,List.filter_append,B,List.getElem?_eq_getElem l]
    simp[hp],fun _ _=>rfl⟩
   (by
    rintro _⟨e,a,f,rfl,O,P,m,n,o⟩
    dsimp only
    by_cases g:(a:Int)<(f.length:Int)
    rotate_left
    ·rw[if_neg (by simpa using g)]
     have:a=s.length:=by omega
     refine⟨_,rfl,e,a,f,rfl,by omega,m,?_⟩
     rw[n,this,List.take_length]
    have v:a<s.length:=by omega
    have w:w64 ((a:Int)+1)=((a+1:Nat):Int):=by rw[ZB (by omega) (by omega)];rfl
    have H:idx f (a:Int)=some s[a]:=by rw[Jm,o _ (Nat.le_refl _),List.getElem?_eq_getElem v]
    have x:(s.take (a+1)).filter (fun b=>!(p b))=(s.take a).filter (fun b=>!(p b))++(if p s[a]=true then [] else [s[a]]):=by
     rw[List.take_add_one,List.filter_append,List.getElem?_eq_getElem v]
     cases h:p s[a] <;> simp[h]
    rw[if_pos (decide_eq_true g),H]
    simp only[Option.bind_some]
    cases hps:p s[a] with
    | true =>
     simp only[Bool.not_true,Bool.false_eq_true,if_false,Option.bind_some,w]
     refine⟨_,rfl,⟨e,a+1,f,rfl,by omega,by omega,m,?_,fun c l=>o c (by omega)⟩,?_⟩
     ·rw[x,hps,n];simp
     ·dsimp only
      omega
    | false =>
     have i:e<f.length:=by omega
     have I:w64 ((e:Int)+1)=((e+1:Nat):Int):=by rw[ZB (by omega) (by omega)];rfl
     simp only[Bool.not_false,if_true,Option.bind_some,w,I,ZP _ _ i,ZV i]
     refine⟨_,rfl,⟨e+1,a+1,_,rfl,by omega,by omega,by rw[List.length_set,m],?_,fun c l=>?_⟩,?_⟩
     ·rw[x,hps, ← n,List.take_add_one,List.getElem?_set_self i,List.take_set_of_le (Nat.le_refl _)]
      rfl
     ·rw[List.getElem?_set_ne (by omega)]
      exact o c (by omega)
     ·dsimp only
      omega)
  dsimp only
  rw[Option.bind_some,Lp.andThen_rt,Option.bind_some,A]
  simp only[Bool.false_eq_true,if_false]
  rw[F,Option.bind_some,Lp.andThen_fin]
  dsimp only
  rw[zdd,if_pos (by omega),Option.bind_some,Int.toNat_natCast,G]}
def vo(what:Int)(x:za):api_Value:=match qB x what with|some v=>v|none=>⟨0,0,ByteArray.empty⟩
def OkW(F:Nat)(w:Int):Prop:=(0≤w∧w≤(F:Int)-1)∨(100≤w∧w≤102)
theorem zlH{F:Nat}(d:F≤20){w:Int}(c:OkW F w){x:za}(e:x.values.length=F):qB x w=some (vo w x):=by{
 have:∃a,qB x w=some a:=by
  unfold qB
  split
  exact⟨_,rfl⟩
  split
  exact⟨_,rfl⟩
  split
  rename_i h1 h2 h3
  simp only[beq_iff_eq,bne_iff_ne,ne_eq]at h1 h2 h3
  obtain⟨a,b,_⟩:=zfH (l:=x.values) (i:=w) (by unfold OkW at c;omega) (by unfold OkW at c;omega)
  exact⟨a,by rw[b];rfl⟩
  split
  exact⟨_,rfl⟩
  exact⟨_,rfl⟩
 obtain⟨a,b⟩:=this;unfold vo;rw[b]}
def Up(T:List api_Value):Prop:=T.Pairwise fun a b=>vcmp a b<0
theorem Up.ne{T:List api_Value}(g:Up T){i j:Nat}{a:api_Value}(hi:T[i]?=some a)(h:T[j]?=some a):i=j:=by{obtain⟨c,d⟩:=List.getElem?_eq_some_iff.1 hi;obtain⟨e,f⟩:=List.getElem?_eq_some_iff.1 h;rcases Nat.lt_trichotomy i j with b|b|b;have:=List.pairwise_iff_getElem.1 g i j c e b;rw[d,f]at this;exact absurd this (zdU _);exact b;have:=List.pairwise_iff_getElem.1 g j i e c b;rw[d,f]at this;exact absurd this (zdU _)}
theorem zfM{l:List za}(u:l.length≤400){w:Int}(j:∀a∈l,qB a w=some (vo w a)):∃b,jI l w=some b∧Up b∧b.length≤400∧∀a∈l,vo w a∈b:=by{
 unfold jI
 obtain⟨c,n,rfl⟩:=qb (R:=List api_Value) (b:=fun m f=>Option.bind (idx l (m:Int)) fun g=>Option.bind (qB g w) fun h=>Option.bind (zE 4398046511104 f ([h]:List api_Value)) fun i=>some (.nx i)) l.length
  (fun k e=>e=(l.take k).map (vo w)) (s:=([]:List api_Value)) rfl
  (fun k e d t=>by
   subst t
   refine⟨_,?_,rfl⟩
   rw[ZP _ _ d,Option.bind_some,j _ (List.getElem_mem d),Option.bind_some,jp (by rw[List.length_map,List.length_take];omega),Option.bind_some,List.take_add_one,List.getElem?_eq_getElem d,List.map_append]
   rfl)
 rw[n,Option.bind_some,Lp.andThen_fin,List.take_length];obtain⟨c,o,p,q,r⟩:=zno (l.map (vo w)) (by rw[List.length_map];omega);rw[List.length_map]at q;rw[o,Option.bind_some,zjL c (by omega),Option.bind_some];refine⟨_,rfl,zkj p _,?_,fun a s=>?_⟩;have:=zlg c c.length;omega;rw[zfS,List.take_length,r];exact List.mem_map_of_mem s}
theorem zgC{T:List api_Value}(F:Up T)(K:T.length≤400){t:api_Value}(G:t∈T):∃(a:Nat) (b:Bool),zT T t (fun x y=>ZO x y)=some ((a:Int),b)∧T[a]?=some t:=by{
 have p:∀(e f:Nat) (c i:api_Value),e<f→T[e]?=some c→T[f]?=some i→vcmp c i<0:=fun e f c i l n o=>by
  obtain⟨hp,rfl⟩:=List.getElem?_eq_some_iff.1 n
  obtain⟨H,rfl⟩:=List.getElem?_eq_some_iff.1 o
  exact List.pairwise_iff_getElem.1 F e f hp H l
 obtain⟨a,L,I,z,A⟩:=zjS (R:=Int×Bool) (l:=T) (by omega) (fun c=>some (decide (vcmp c t<0))) (fun c=>decide (vcmp c t<0)) (fun _ _=>rfl) (fun e f c i l n o s=>by
  rw[decide_eq_true_eq]at s ⊢
  exact zch (p e f c i l n o) s)
  (fun d=>if (decide (d.1<d.2))=true then Option.bind (Option.bind (shr .u64 (IntKind.wrap .u64 (w64 (d.1+d.2))) 1) fun m=>Option.bind (idx T (IntKind.wrap .i64 m)) fun B=>Option.bind (ZO B t) fun D=>Option.bind (if (decide (D<0))=true then some (w64 ((IntKind.wrap .i64 m)+1),d.2) else some (d.1,IntKind.wrap .i64 m)) fun q=>some (q.1,q.2)) fun r=>some (.nx (r.1,r.2)) else some (.bk (d.1,d.2)))
  (fun w=>by
   split
   cases shr .u64 (IntKind.wrap .u64 (w64 (w.1+w.2))) 1 with
   | none=>rfl
   | some v =>
    simp only[Option.bind_some]
    cases idx T (IntKind.wrap .i64 v) with
    | none=>rfl
    | some c =>
     simp only[Option.bind_some,zcK]
     split <;> rfl
   rfl)
 obtain⟨g,j,rfl⟩:=List.mem_iff_getElem.1 G
 have E:a=g:=by
  rcases Nat.lt_trichotomy g a with h|h|h
  have:=z g T[g] h (List.getElem?_eq_getElem j)
  rw[decide_eq_true_eq]at this
  exact absurd this (zdU _)
  exact h.symm
  have J:=p a g T[a] T[g] h (List.getElem?_eq_getElem (by omega)) (List.getElem?_eq_getElem j)
  have u:=A a T[a] (Nat.le_refl _) (List.getElem?_eq_getElem (by omega))
  rw[decide_eq_false_iff_not]at u
  exact absurd J u
 subst E;unfold zT;rw[I,Option.bind_some,Lp.andThen_fin];dsimp only;rw[if_pos (decide_eq_true (show (a:Int)<(T.length:Int) by omega)),Jm,List.getElem?_eq_getElem j];simp only[Option.bind_some,zcK];exact⟨a,_,rfl,List.getElem?_eq_getElem j⟩}
theorem zkf:∀(l:List Int) (j:Nat) (v:Int),l[j]?=some v→(l.set j (v+1)).sum=l.sum+1
 | [],_,_,h=>by simp at h
 | x::l,0,v,h=>by
  simp only[List.getElem?_cons_zero,Option.some.injEq]at h
  subst h
  simp only[List.set_cons_zero,List.sum_cons]
  omega
 | x::l,j+1,v,h=>by
  rw[List.getElem?_cons_succ]at h
  have:=zkf l j v h
  simp only[List.set_cons_succ,List.sum_cons]
  omega
theorem zjz:∀(m:List (List Int)) (i:Nat) (r a:List Int),m[i]?=some r→a.sum=r.sum+1→((m.set i a).map List.sum).sum=(m.map List.sum).sum+1
 | [],_,_,_,h,_=>by simp at h
 | x::m,0,r,a,h,e=>by
  simp only[List.getElem?_cons_zero,Option.some.injEq]at h
  subst h
  simp only[List.set_cons_zero,List.map_cons,List.sum_cons]
  omega
 | x::m,i+1,r,a,h,e=>by
  rw[List.getElem?_cons_succ]at h
  have:=zjz m i r a h e
  simp only[List.set_cons_succ,List.map_cons,List.sum_cons]
  omega
def cnt(L:List za)(f g:za→api_Value)(a b:api_Value):Int:=((L.countP fun x=>decide (f x=a∧g x=b):Nat):Int)
theorem zlV(L:List za)(f g:za→api_Value)(a b:api_Value):cnt L f g a b=cnt L g f b a:=by{unfold cnt;congr 2;funext x;simp only[and_comm]}
theorem zgH(L:List za)(x:za)(f g:za→api_Value)(a b:api_Value):cnt (L++[x]) f g a b=cnt L f g a b+if f x=a∧g x=b then 1 else 0:=by{unfold cnt;rw[List.countP_append,List.countP_singleton];by_cases c:f x=a∧g x=b;rw[if_pos c,if_pos (decide_eq_true c)];rfl;rw[if_neg c,if_neg (by simpa using c)];rfl}
theorem znp(L:List za)(f g:za→api_Value)(a b:api_Value):0≤cnt L f g a b∧cnt L f g a b≤(L.length:Int):=by{unfold cnt;have:=List.countP_le_length (p:=fun c=>decide (f c=a∧g c=b)) (l:=L);omega}
structure Tab(L:List za)(R C:List api_Value)(f g:za→api_Value)(m:List (List Int)):Prop where
 len:m.length=R.length
 row:∀(i:Nat) (a:api_Value),R[i]?=some a→∃r,m[i]?=some r∧r.length=C.length∧∀(j:Nat) (b:api_Value),C[j]?=some b→r[j]?=some (cnt L f g a b)
 tot:(m.map List.sum).sum=(L.length:Int)
theorem zmc{L:List za}{R C:List api_Value}{f g:za→api_Value}{m:List (List Int)}(e:Tab L R C f g m)(y:Up R)(z:Up C)(x:za){i j:Nat}(hi:R[i]?=some (f x))(h:C[j]?=some (g x)):
  ∃b q,m[i]?=some b∧b[j]?=some q∧q=cnt L f g (f x) (g x)∧Tab (L++[x]) R C f g (m.set i (b.set j (q+1))):=by{obtain⟨b,l,A,t⟩:=e.row i _ hi;have n:=t j _ h;have v:=(List.getElem?_eq_some_iff.1 l).1;have w:=(List.getElem?_eq_some_iff.1 n).1;refine⟨b,_,l,n,rfl,⟨by rw[List.length_set,e.len],fun u F c=>?_,?_⟩⟩;by_cases r:i=u;subst r;rw[hi]at c;obtain rfl:=Option.some.inj c;refine⟨_,List.getElem?_set_self v,by rw[List.length_set,A],fun d s a=>?_⟩;by_cases o:j=d;subst o;rw[h]at a;obtain rfl:=Option.some.inj a;rw[List.getElem?_set_self w,zgH,if_pos ⟨rfl,rfl⟩];rw[List.getElem?_set_ne o,t d s a,zgH,if_neg,Int.add_zero];rintro⟨_,p⟩;rw[← p]at a;exact o (z.ne h a);obtain⟨B,g1,D,E⟩:=e.row u F c;refine⟨B,by rw[List.getElem?_set_ne r,g1],D,fun d s a=>?_⟩;rw[E d s a,zgH,if_neg,Int.add_zero];rintro⟨p,_⟩;rw[← p]at c;exact r (y.ne hi c);rw[zjz m i b _ l (zkf b j _ n),e.tot,List.length_append,List.length_singleton];omega}
theorem zfY(f:zr)(l:List zk){c:List za}{k:Int}(c1:Ja f l=some (c,k,0))(J:f.fields.length≤20)(b1:c.length≤400)(c2:∀g∈c,g.values.length=f.fields.length)(row b:Int):
  JE f l row b=some (⟨[], [], []⟩,3)∨(OkW f.fields.length row∧OkW f.fields.length b∧∃d C r,jI (c.filter fun a=>!(a.into != 0)) row=some d∧jI (c.filter fun a=>!(a.into != 0)) b=some C∧
   JE f l row b=some (⟨d,C,r⟩,0)∧Tab (c.filter fun a=>!(a.into != 0)) d C (vo row) (vo b) r):=by{
 have j:∀x,(((!(zX x 0 (w64 ((f.fields.length:Int)-1))))&&(!(zX x 100 102)))=true)↔¬OkW f.fields.length x:=fun x=>by
  rw[ZB (by omega) (by omega)]
  unfold OkW zX
  simp only[Bool.and_eq_true,Bool.not_eq_true', ← Bool.not_eq_true,decide_eq_true_eq]
  omega
 unfold JE;rw[c1,Option.bind_some,if_neg (by simp)];by_cases o:OkW f.fields.length row;rotate_left;left;have p:=(j row).2 o
 have h:zG (fun m (n:Zm)=>Option.bind (idx ([row,b]:List Int) (m:Int)) fun e=>if ((!(zX e 0 (w64 ((f.fields.length:Int)-1))))&&(!(zX e 100 102)))=true then some (.rt ((⟨([]:(List api_Value)),([]:(List api_Value)),([]:(List (List Int)))⟩:Zm),(3:Int))) else some (.nx n)) (([row,b]:List Int).length) 0 (⟨([]:(List api_Value)),([]:(List api_Value)),([]:(List (List Int)))⟩:Zm)=some (.rt (⟨[], [], []⟩,3)):=by
  show zG _ 2 0 _=_
  rw[zG,show idx ([row,b]:List Int) ((0:Nat):Int)=some row from rfl,Option.bind_some,if_pos p]
 rw[h];rfl;by_cases u:OkW f.fields.length b;rotate_left;left;have p:=(j b).2 u;have z:=fun s=>(j row).1 s o
 have h:zG (fun m (n:Zm)=>Option.bind (idx ([row,b]:List Int) (m:Int)) fun e=>if ((!(zX e 0 (w64 ((f.fields.length:Int)-1))))&&(!(zX e 100 102)))=true then some (.rt ((⟨([]:(List api_Value)),([]:(List api_Value)),([]:(List (List Int)))⟩:Zm),(3:Int))) else some (.nx n)) (([row,b]:List Int).length) 0 (⟨([]:(List api_Value)),([]:(List api_Value)),([]:(List (List Int)))⟩:Zm)=some (.rt (⟨[], [], []⟩,3)):=by
  show zG _ 2 0 _=_
  rw[zG,show idx ([row,b]:List Int) ((0:Nat):Int)=some row from rfl,Option.bind_some,if_neg z]
  dsimp only
  rw[zG,show idx ([row,b]:List Int) ((0+1:Nat):Int)=some b from rfl,Option.bind_some,if_pos p]
 rw[h];rfl;right;refine⟨o,u,?_⟩;have z:=fun s=>(j row).1 s o;have b2:=fun s=>(j b).1 s u
 have h:zG (fun m (n:Zm)=>Option.bind (idx ([row,b]:List Int) (m:Int)) fun e=>if ((!(zX e 0 (w64 ((f.fields.length:Int)-1))))&&(!(zX e 100 102)))=true then some (.rt ((⟨([]:(List api_Value)),([]:(List api_Value)),([]:(List (List Int)))⟩:Zm),(3:Int))) else some (.nx n)) (([row,b]:List Int).length) 0 (⟨([]:(List api_Value)),([]:(List api_Value)),([]:(List (List Int)))⟩:Zm)=some (.fin ⟨[], [], []⟩):=by
  show zG _ 2 0 _=_
  rw[zG,show idx ([row,b]:List Int) ((0:Nat):Int)=some row from rfl,Option.bind_some,if_neg z]
  dsimp only
  rw[zG,show idx ([row,b]:List Int) ((0+1:Nat):Int)=some b from rfl,Option.bind_some,if_neg b2]
  rfl
 have c3:Zt c (fun b3=>zbp b3)=some (c.filter fun a=>!(a.into != 0)):=zkK c (by omega) fun a=>a.into != 0;rw[h,Option.bind_some,Lp.andThen_fin,c3,Option.bind_some];have A:(c.filter fun a=>!(a.into != 0)).length≤400:=Nat.le_trans (List.length_filter_le _ _) b1;have B:∀a∈(c.filter fun a=>!(a.into != 0)),a.values.length=f.fields.length:=fun a q=>c2 a (List.mem_filter.1 q).1;generalize (c.filter fun a=>!(a.into != 0))=L at A B;have K:∀a∈L,qB a row=some (vo row a):=fun a q=>zlH J o (B a q);have M:∀a∈L,qB a b=some (vo b a):=fun a q=>zlH J u (B a q);obtain⟨d,c4,N,c5,c6⟩:=zfM A K;obtain⟨C,c7,O,c8,c9⟩:=zfM A M;rw[c4,Option.bind_some,c7,Option.bind_some]
 obtain⟨W,D,rfl⟩:=qb (R:=Zm×Int) (b:=fun d8 (t:Zm)=>Option.bind (ji 35184372088832 (t.columns.length:Int) (0:Int)) fun Z=>Option.bind (zE 5864062014805 t.counts ([Z]:List (List Int))) fun a0=>some (.nx (⟨t.rows,t.columns,a0⟩:Zm))) d.length
  (fun k g=>g=⟨d,C,List.replicate k (List.replicate C.length 0)⟩) (s:=(⟨d,C, []⟩:Zm)) rfl
  (fun k g v h=>by
   subst h
   refine⟨_,?_,rfl⟩
   dsimp only
   rw[ji,if_pos (by omega),Option.bind_some,jp (by rw[List.length_replicate];omega),Option.bind_some,Int.toNat_natCast,List.replicate_succ'])
 rw[D,Option.bind_some,Lp.andThen_fin]
 obtain⟨W,D,P,Q,E⟩:=qb (R:=Zm×Int) (b:=fun a1 (i:Zm)=>Option.bind (idx L (a1:Int)) fun F=>Option.bind (qB F row) fun a2=>Option.bind (zT i.rows a2 (fun a3 a4=>ZO a3 a4)) fun G=>Option.bind (qB F b) fun a5=>Option.bind (zT i.columns a5 (fun a6 a7=>ZO a6 a7)) fun H=>Option.bind (idx i.counts G.1) fun I=>Option.bind (idx I H.1) fun a8=>Option.bind (setI I H.1 (w64 (a8+1))) fun a9=>Option.bind (setI i.counts G.1 a9) fun b0=>some (.nx (⟨i.rows,i.columns,b0⟩:Zm))) L.length
  (fun k g=>g.rows=d∧g.columns=C∧Tab (L.take k) d C (vo row) (vo b) g.counts) (s:=⟨d,C,List.replicate d.length (List.replicate C.length 0)⟩)
  ⟨rfl,rfl,by
   refine⟨List.length_replicate,fun d6 e1 d0=>⟨List.replicate C.length 0,?_,List.length_replicate,fun d7 e2 p=>?_⟩,?_⟩
   ·rw[List.getElem?_replicate,if_pos (List.getElem?_eq_some_iff.1 d0).1]
   ·rw[List.getElem?_replicate,if_pos (List.getElem?_eq_some_iff.1 p).1]
    rfl
   ·have:∀y:Nat,(List.replicate y (0:Int)).sum=0:=fun y=>by induction y with
     | zero=>rfl
     | succ y ih=>rw[List.replicate_succ,List.sum_cons,ih];rfl
    rw[List.map_replicate,this,this]
    rfl⟩
  (by
   rintro k⟨d1,d2,r⟩v⟨R,S,T⟩
   dsimp only at R S T
   subst R S
   have w:=List.getElem_mem v
   obtain⟨d6,d9,b4,b5⟩:=zgC N c5 (c6 _ w)
   obtain⟨d7,e0,b6,b7⟩:=zgC O c8 (c9 _ w)
   obtain⟨e3,X,g1,U,d3,d4⟩:=zmc T N O L[k] b5 b7
   have b8:=(List.getElem?_eq_some_iff.1 g1).1
   have b9:=(List.getElem?_eq_some_iff.1 U).1
   have c0:=znp (L.take k) (vo row) (vo b) (vo row L[k]) (vo b L[k])
   rw[← d3,List.length_take]at c0
   have d5:w64 (X+1)=X+1:=ZB (by omega) (by omega)
   rw[ZP _ _ v,Option.bind_some,K _ w,Option.bind_some]
   dsimp only
   rw[b4,Option.bind_some,M _ w,Option.bind_some,b6,Option.bind_some]
   dsimp only
   rw[ZW g1,Option.bind_some,ZW U,Option.bind_some,ZV b9,Option.bind_some,ZV b8,Option.bind_some,d5]
   refine⟨_,rfl,rfl,rfl,?_⟩
   rw[List.take_add_one,List.getElem?_eq_getElem v]
   exact d4)
 rw[D,Option.bind_some,Lp.andThen_fin];obtain⟨d1,d2,r⟩:=W;dsimp only at P Q E;subst P Q;rw[List.take_length]at E;exact⟨_,_,r,rfl,rfl,rfl,E⟩}
end Go.Proofs.YtligccioljhapaaGreatDoor.M
namespace Go.Proofs.YtligccioljhapaaGreatDoor.M
open Go Go.Pu
set_option linter.unusedSimpArgs false
set_option linter.unusedVariables false
theorem zky(l:List desk_Day):qK l l=some true:=by{
 unfold qK;rw[if_neg (by simp)]
 obtain⟨f,d,_⟩:=qb (R:=Bool) (b:=fun c (_:Unit)=>Option.bind (idx l (c:Int)) fun a=>Option.bind (idx l (c:Int)) fun b=>if (!(a.day==b.day&&(a.opened==b.opened&&(a.said==b.said&&(a.replied==b.replied&&(a.solved==b.solved&&(a.closed==b.closed)))))))=true then some (.rt false) else some (.nx ())) l.length
  (fun _ _=>True) (s:=()) trivial
  (fun k g e _=>by
   rw[ZP _ _ e]
   simp only[Option.bind_some,beq_self_eq_true,Bool.and_self,Bool.not_true,Bool.false_eq_true,if_false]
   exact⟨(),trivial,trivial⟩)
 rw[d];rfl}
theorem zkM(a:List za):zG (R:=Bool) (fun d b=>Option.bind (Option.bind (idx a (d:Int)) fun e=>Option.bind (if (e.into==0)=true then some (w64 (b+1)) else some b) fun f=>some f) fun g=>some (.nx g)) a.length 0 0=some (.fin (w64 ((a.filter fun h=>!(h.into != 0)).length:Int))):=by{
 obtain⟨o,m,i⟩:=qb (R:=Bool) (b:=fun d b=>Option.bind (Option.bind (idx a (d:Int)) fun e=>Option.bind (if (e.into==0)=true then some (w64 (b+1)) else some b) fun f=>some f) fun g=>some (.nx g)) a.length
  (fun k l=>l=w64 (((a.take k).filter fun h=>!(h.into != 0)).length:Int)) (s:=0) rfl
  (fun k l j i=>by
   subst i
   rw[ZP _ _ j,List.take_add_one,List.getElem?_eq_getElem j,List.filter_append]
   by_cases c:a[k].into=0
   ·refine⟨_,by simp only[Option.bind_some,c,beq_self_eq_true,if_true];rfl,?_⟩
    rw[zgh]
    congr 1
    simp[c]
   ·have n:(a[k].into==0)=false:=by simpa using c
    refine⟨_,by simp only[Option.bind_some,n,Bool.false_eq_true,if_false];rfl,?_⟩
    simp[c])
 rw[m,i,List.take_length]}
theorem zna{L:List za}{R C:List api_Value}{f g:za→api_Value}{m b:List (List Int)}(z:Tab L R C f g m)(D:Tab L C R g f b):
  zG (R:=Bool) (fun d u=>Option.bind (α:=Lp Int Bool) (Option.bind (idx m (d:Int)) fun i=>Option.bind (zG (fun a j=>Option.bind (idx i (a:Int)) fun c=>Option.bind (if (decide ((b.length:Int)≤(a:Int)))=true then (some true) else (Option.bind (idx b (a:Int)) fun l=>some (decide ((l.length:Int)≤(d:Int))))) fun n=>Option.bind (if n=true then (some true) else (Option.bind (idx b (a:Int)) fun o=>Option.bind (idx o (d:Int)) fun p=>some (p != c))) fun q=>if q=true then some (.rt false) else some (.nx (w64 (j+c)))) i.length 0 u) fun v=>v.andThen (fun e=>some (.rt e)) fun w=>some (.fin w)) fun x=>x.andThen (fun e=>some (.rt e)) fun y=>some (.nx y)) m.length 0 0=some (.fin (w64 (L.length:Int))):=by{
 obtain⟨t,G,r⟩:=qb (R:=Bool) (b:=fun d u=>Option.bind (α:=Lp Int Bool) (Option.bind (idx m (d:Int)) fun i=>Option.bind (zG (fun a j=>Option.bind (idx i (a:Int)) fun c=>Option.bind (if (decide ((b.length:Int)≤(a:Int)))=true then (some true) else (Option.bind (idx b (a:Int)) fun l=>some (decide ((l.length:Int)≤(d:Int))))) fun n=>Option.bind (if n=true then (some true) else (Option.bind (idx b (a:Int)) fun o=>Option.bind (idx o (d:Int)) fun p=>some (p != c))) fun q=>if q=true then some (.rt false) else some (.nx (w64 (j+c)))) i.length 0 u) fun v=>v.andThen (fun e=>some (.rt e)) fun w=>some (.fin w)) fun x=>x.andThen (fun e=>some (.rt e)) fun y=>some (.nx y)) m.length
  (fun k s=>s=w64 ((m.take k).map List.sum).sum) (s:=0) rfl
  (fun k s H r=>by
   subst r
   have A:k<R.length:=by rw[← z.len];exact H
   obtain⟨t,g1,I,J⟩:=z.row k _ (List.getElem?_eq_getElem A)
   rw[ZW g1,Option.bind_some]
   obtain⟨W,K,M⟩:=qb (R:=Bool) (b:=fun a j=>Option.bind (idx t (a:Int)) fun c=>Option.bind (if (decide ((b.length:Int)≤(a:Int)))=true then (some true) else (Option.bind (idx b (a:Int)) fun l=>some (decide ((l.length:Int)≤(k:Int))))) fun n=>Option.bind (if n=true then (some true) else (Option.bind (idx b (a:Int)) fun o=>Option.bind (idx o (k:Int)) fun p=>some (p != c))) fun q=>if q=true then some (.rt false) else some (.nx (w64 (j+c)))) t.length
    (fun h s=>s=w64 (((m.take k).map List.sum).sum+(t.take h).sum)) (s:=w64 ((m.take k).map List.sum).sum) (by rw[List.take_zero,List.sum_nil,Int.add_zero])
    (fun h s N r=>by
     subst r
     have B:h<C.length:=by rw[← I];exact N
     obtain⟨O,P,Q,S⟩:=D.row h _ (List.getElem?_eq_getElem B)
     have E:=J h _ (List.getElem?_eq_getElem B)
     have F:=S k _ (List.getElem?_eq_getElem A)
     rw[zlV]at F
     have T:¬((b.length:Int)≤(h:Int)):=by rw[D.len];omega
     have U:decide ((O.length:Int)≤(k:Int))=false:=by rw[Q];exact decide_eq_false (by omega)
     rw[ZW E,Option.bind_some,if_neg (by simpa using T),ZW P,Option.bind_some,Option.bind_some,U,if_neg (by simp),Option.bind_some,ZW F,Option.bind_some,Option.bind_some,if_neg (by simp)]
     refine⟨_,rfl,?_⟩
     rw[zgh,List.take_add_one,E,List.sum_append]
     simp[Int.add_assoc])
   rw[K,Option.bind_some,Lp.andThen_fin,Option.bind_some,Lp.andThen_fin]
   refine⟨_,rfl,?_⟩
   rw[M,List.take_length,List.take_add_one,g1,List.map_append,List.sum_append]
   simp)
 rw[G,r,List.take_length,z.tot]}
theorem znj{a b c:List Int}(l:Adds a b c):zG (R:=Bool) (fun d (_:Unit)=>Option.bind (idx a (d:Int)) fun e=>Option.bind (idx b (d:Int)) fun f=>Option.bind (idx c (d:Int)) fun g=>if ((w64 (e+f)) != g)=true then some (.rt false) else some (.nx ())) c.length 0 ()=some (.fin ()):=by{
 obtain⟨m,n,o,h⟩:=l
 obtain⟨q,i,_⟩:=qb (R:=Bool) (b:=fun d (_:Unit)=>Option.bind (idx a (d:Int)) fun e=>Option.bind (idx b (d:Int)) fun f=>Option.bind (idx c (d:Int)) fun g=>if ((w64 (e+f)) != g)=true then some (.rt false) else some (.nx ())) c.length
  (fun _ _=>True) (s:=()) trivial
  (fun k r p _=>by
   have j:=h k _ _ (List.getElem?_eq_getElem (by omega)) (List.getElem?_eq_getElem (by omega))
   rw[ZP a k (by omega),Option.bind_some,ZP b k (by omega),Option.bind_some,ZW j,Option.bind_some,if_neg (by simp)]
   exact⟨_,rfl,trivial⟩)
 rw[i]}
theorem zjh(f:zr)(l:List zk)(row j:Int)(z:zP)(fr b c:Int)(G:zfJ f):zaj f l row j z fr b c=some true:=by{
 unfold zaj;rw[zjJ,Option.bind_some,if_neg (by simp)];obtain⟨d0,k,m,g,a8⟩:=zma f l G;rw[g,Option.bind_some];by_cases v:m=0;rotate_left
 have H:∀a4 a5,∃c9,JE f l a4 a5=some (c9,m):=fun a4 a5=>by
  unfold JE
  rw[g,Option.bind_some,if_pos (by simpa using v)]
  exact⟨_,rfl⟩
 obtain⟨d1,h⟩:=H row j;obtain⟨d2,e⟩:=H j row;have p:(m != 0)=true:=by simpa using v
 rw[h,Option.bind_some,e,Option.bind_some];simp only[p,Bool.true_or,if_true];subst v;obtain⟨u,_,t,sv⟩:=a8 rfl;rcases zfY f l g u t sv row j with h|⟨d3,d4,f2,C,f3,a9,b0,h,b1⟩;rcases zfY f l g u t sv j row with e|⟨_,_,_,_,_,_,_,e,_⟩;rw[h,Option.bind_some,e,Option.bind_some];rfl;rw[h,Option.bind_some,e,Option.bind_some];rfl;rcases zfY f l g u t sv j row with e|⟨_,_,d5,d6,d7,E,F,e,a6⟩;rw[h,Option.bind_some,e,Option.bind_some];rfl;rw[a9]at F;rw[b0]at E;obtain rfl:=Option.some.inj F;obtain rfl:=Option.some.inj E;rw[h,Option.bind_some,e,Option.bind_some];dsimp only;rw[if_neg (by simp),zkM,Option.bind_some,Lp.andThen_fin,zna b1 a6,Option.bind_some,Lp.andThen_fin,if_neg (by simp)];obtain⟨ss,m,w⟩:=zly f l G z;obtain⟨I,J,q⟩:=w fr b;obtain⟨K,L,r⟩:=w (w64 (fr+b)) c;obtain⟨M,b2,s⟩:=w fr (w64 (b+c));obtain⟨d8,N,O⟩:=zfU f l z fr b g;obtain⟨d9,P,x⟩:=zfU f l z (w64 (fr+b)) c g;obtain⟨e0,Q,y⟩:=zfU f l z fr (w64 (b+c)) g;rw[J]at N;rw[L]at P;rw[b2]at Q;obtain rfl:=Option.some.inj N;obtain rfl:=Option.some.inj P;obtain rfl:=Option.some.inj Q;obtain⟨d,ex,b3⟩:∃d ex,QG f l z fr b=some (d,ex):=by rcases O with ⟨_,a⟩|⟨_,a⟩ <;> exact⟨_,_,a⟩
 obtain⟨e1,e2,b4⟩:∃d ex,QG f l z (w64 (fr+b)) c=some (d,ex):=by rcases x with ⟨_,a⟩|⟨_,a⟩ <;> exact⟨_,_,a⟩
 obtain⟨e3,ev,b5⟩:∃d ex,QG f l z fr (w64 (b+c))=some (d,ex):=by rcases y with ⟨_,a⟩|⟨_,a⟩ <;> exact⟨_,_,a⟩
 obtain⟨e4,R,A⟩:∃d ex,Qr f l z fr b=some (d,ex):=by rcases q with ⟨_,a⟩|⟨_,_,a⟩|⟨_,_,a⟩ <;> exact⟨_,_,a⟩
 obtain⟨e5,S,p⟩:∃d ex,Qr f l z (w64 (fr+b)) c=some (d,ex):=by rcases r with ⟨_,a⟩|⟨_,_,a⟩|⟨_,_,a⟩ <;> exact⟨_,_,a⟩
 obtain⟨e6,T,U⟩:∃d ex,Qr f l z fr (w64 (b+c))=some (d,ex):=by rcases s with ⟨_,a⟩|⟨_,_,a⟩|⟨_,_,a⟩ <;> exact⟨_,_,a⟩
 by_cases W:m=0∧I=0∧K=0∧M=0;rotate_left
 have a7:((R != 0)||(S != 0)||(T != 0))=true:=by
  have n:R≠0∨S≠0∨T≠0:=by
   by_cases i:m=0
   by_cases g1:I=0
   by_cases B:K=0
   by_cases D:M=0
   exact absurd ⟨i,g1,B,D⟩ W
   refine .inr (.inr ?_)
   rcases s with ⟨a,_⟩|⟨_,_,a⟩|⟨_,a,_⟩
   exact absurd i a
   rw[U]at a;cases a;exact D
   exact absurd a D
   refine .inr (.inl ?_)
   rcases r with ⟨a,_⟩|⟨_,_,a⟩|⟨_,a,_⟩
   exact absurd i a
   rw[p]at a;cases a;exact B
   exact absurd a B
   refine .inl ?_
   rcases q with ⟨a,_⟩|⟨_,_,a⟩|⟨_,a,_⟩
   exact absurd i a
   rw[A]at a;cases a;exact g1
   exact absurd a g1
   refine .inl ?_
   rcases q with ⟨_,a⟩|⟨a,_⟩|⟨a,_⟩
   rw[A]at a;cases a;exact i
   exact absurd a i
   exact absurd a i
  rcases n with n|n|n <;> simp[n]
 rw[A,Option.bind_some,p,Option.bind_some,U,Option.bind_some,b3,Option.bind_some,b4,Option.bind_some,b5,Option.bind_some];dsimp only;simp only[a7,Bool.true_or,if_true];obtain⟨rfl,rfl,rfl,rfl⟩:=W;obtain⟨e7,e8⟩:=zdS z fr b
 obtain⟨⟨e9,f0,_⟩,f1⟩:((0≤fr∧fr≤2084)∧1≤b∧b≤400)∧1≤c∧c≤400:=by
  obtain⟨_,X,b6⟩:=zdS z fr b
  obtain⟨_,Z,b7⟩:=zdS z (w64 (fr+b)) c
  rw[J]at X
  rw[L]at Z
  have b8:=b6 (Option.some.inj X).symm
  have b9:=b7 (Option.some.inj Z).symm
  exact⟨b8.2,b9.2.2⟩
 have a0:w64 (fr+b)=fr+b:=ZB (by omega) (by omega);have a1:w64 (b+c)=b+c:=ZB (by omega) (by omega);rw[a0]at r x;rw[a1]at s y
 have c0:Qr f l z fr b=some (zaE z l ss fr b.toNat,0):=by
  rcases q with ⟨a,_⟩|⟨_,a,_⟩|⟨_,_,a⟩
  exact absurd rfl a
  exact absurd rfl a
  exact a
 have c1:Qr f l z (fr+b) c=some (zaE z l ss (fr+b) c.toNat,0):=by
  rcases r with ⟨a,_⟩|⟨_,a,_⟩|⟨_,_,a⟩
  exact absurd rfl a
  exact absurd rfl a
  exact a
 have c2:Qr f l z fr (b+c)=some (zaE z l ss fr (b+c).toNat,0):=by
  rcases s with ⟨a,_⟩|⟨_,a,_⟩|⟨_,_,a⟩
  exact absurd rfl a
  exact absurd rfl a
  exact a
 have c3:QG f l z fr b=some (zbK z l fr b,0):=by
  rcases O with ⟨a,_⟩|⟨_,a⟩
  exact absurd rfl a
  exact a
 have c4:QG f l z (fr+b) c=some (zbK z l (fr+b) c,0):=by
  rcases x with ⟨a,_⟩|⟨_,a⟩
  exact absurd rfl a
  exact a
 have c5:QG f l z fr (b+c)=some (zbK z l fr (b+c),0):=by
  rcases y with ⟨a,_⟩|⟨_,a⟩
  exact absurd rfl a
  exact a
 rw[a0,a1,c0,Option.bind_some,c1,Option.bind_some,c2,Option.bind_some,c3,Option.bind_some,c4,Option.bind_some,c5,Option.bind_some];dsimp only;rw[zen,zen,zen,if_neg (by simp)];have a2:=znj (zkO z l fr (n:=b) (m:=c) (by omega) (by omega));rw[zen]at a2;rw[a2,Option.bind_some,Lp.andThen_fin]
 have a3:∀(fr:Int) (o:Nat),(zaE z l ss fr o).length=o:=fun fr o=>by
  unfold zaE
  rw[zbv _ (zgi z l fr o),zbv _ (zcu z fr o),JY]
 have c6:zaE z l ss fr (b+c).toNat=zaE z l ss fr b.toNat++zaE z l ss (fr+b) c.toNat:=by
  have a:=zlL z l ss fr b.toNat c.toNat
  have c7:(b+c).toNat=b.toNat+c.toNat:=by omega
  have c8:((b.toNat:Nat):Int)=b:=by omega
  rw[c8]at a
  rw[c7]
  exact a
 rw[zE,if_pos (by rw[a3,a3];omega),Option.bind_some,c6,zky,Option.bind_some]}
end Go.Proofs.YtligccioljhapaaGreatDoor.M
