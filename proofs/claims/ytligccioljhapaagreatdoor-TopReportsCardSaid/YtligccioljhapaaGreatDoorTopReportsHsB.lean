import Derived.Test.YtligccioljhapaaGreatDoorTopReportsHsA
namespace Go.Proofs.YtligccioljhapaaGreatDoor.M
open Go Go.Pu
set_option linter.unusedSimpArgs false
set_option linter.unusedVariables false
structure Good(F:Nat)(i:Nat)(s:za):Prop where
  no:s.no=(i:Int)+1
  vals:s.values.length=F
  ms:Lst s.messages
  ns:Lst s.notes
  dis:∀m,m∈s.messages→m∉s.notes
def Own(ts:List za)(ow:List (Int×Int)):Prop:=∀(m t:Int),zp ow m=some t↔∃(i:Nat) (s:za),ts[i]?=some s∧t=(i:Int)+1∧(m∈s.messages∨m∈s.notes)
def und0:zL:=(⟨0,(⟨0,0,0,0,0,0,0,0,([]:(List api_Value)),([]:(List Int)),([]:(List Int)),0⟩:za),(⟨0,0,0,0,0,0,0,0,([]:(List api_Value)),([]:(List Int)),([]:(List Int)),0⟩:za)⟩:zL)
def JA(be:List zL)(k:Int):zL:=be.foldl (fun s b=>if b.event=k then b else s) und0
def Sm(a b:za):Prop:=a.status=b.status∧a.into=b.into∧a.messages=b.messages∧a.notes=b.notes
structure Two(a b:za):Prop where
  am:Lst a.messages
  an:Lst a.notes
  bm:Lst b.messages
  bn:Lst b.notes
  ad:∀m,m∈a.messages→m∉a.notes
  bd:∀m,m∈b.messages→m∉b.notes
  ab:∀m,(m∈a.messages∨m∈a.notes)→¬(m∈b.messages∨m∈b.notes)
structure Back(u:zl)(s t:za):Prop where
  two:Two u.before u.to_
  sub:∀m,(m∈u.before.messages∨m∈u.before.notes∨m∈u.to_.messages∨m∈u.to_.notes)→(m∈s.messages∨m∈s.notes)∨(m∈t.messages∨m∈t.notes)
  spl:u.kind=8→s.status=u.before.status∧s.into=u.before.into∧t.notes=[]
def Kept(ts:List za)(la:List Int)(un:List (Int×zl))(be:List zL)(i k:Nat)(x:zk):Prop :=
  (∃(u:zl) (j:Nat),zp un ((i:Int)+1)=some u∧x.ticket=(i:Int)+1∧(x.kind=7∨x.kind=8)∧x.to_=(j:Int)+1∧j<ts.length∧j≠i∧u.event=(k:Int)∧u.other=(j:Int)+1∧u.kind=x.kind∧
      Sm (JA be k).one u.before∧(u.kind=7→Sm (JA be k).other u.to_)∧(la[j]?=some (k:Int)→∃s t,ts[i]?=some s∧ts[j]?=some t∧Back u s t))∨
  (zp un ((i:Int)+1)=none∧¬(x.ticket=(i:Int)+1∧(x.kind=7∨x.kind=8)))
def UOK(ts:List za)(lg:List zk)(la:List Int)(un:List (Int×zl))(be:List zL)(i:Nat):Prop :=
  ∃(k:Nat) (x:zk),la[i]?=some (k:Int)∧lg[k]?=some x∧Kept ts la un be i k x
structure Inv(F:Nat)(ts:List za)(lg:List zk)(la:List Int)(ow:List (Int×Int))(un:List (Int×zl))(be:List zL):Prop where
  lenT:ts.length≤400
  lenL:lg.length≤6000
  lenA:la.length=ts.length
  lenB:be.length≤lg.length
  good:∀(i:Nat) (s:za),ts[i]?=some s→Good F i s∧1≤s.events∧s.events≤lg.length
  own:Own ts ow
  und:∀i:Nat,i<ts.length→UOK ts lg la un be i
theorem Inv.nil(F:Nat):Inv F [] [] [] [] [] [] :=
  ⟨by simp,by simp,rfl,by simp,fun b c a=>by simp at a,fun d e=>⟨fun a=>by simp[zp]at a,fun⟨b,c,a,_⟩=>by simp at a⟩,fun b a=>by simp at a⟩
variable{F:Nat}{ts:List za}{lg:List zk}{la:List Int}{ow:List (Int×Int)}{un:List (Int×zl)}{be:List zL}
theorem Inv.step(z:Inv F ts lg la ow un be){x:zk}{a:List za}{d:List Int}{s:List (Int×Int)}{n:List (Int×zl)}{e:List zL}(T:Nat→Prop)(a7:lg.length<6000)(J:a.length≤400)(K:d.length=a.length)(a8:ts.length≤a.length)(a9:e.length≤lg.length+1)(r:∀i:Nat,ts.length≤i→i<a.length→T i)(m:∀i:Nat,i<ts.length→¬T i→a[i]?=ts[i]?∧d[i]?=la[i]?∧zp n ((i:Int)+1)=zp un ((i:Int)+1))(t:∀i:Nat,i<a.length→T i→d[i]?=some (lg.length:Int))(A:∀(i:Nat) (s':za),T i→a[i]?=some s'→Good F i s'∧1≤s'.events∧s'.events≤(lg.length:Int)+1)(B:Own a s)(u:∀k:Nat,k<lg.length→JA e k=JA be k)(D:∀i:Nat,i<a.length→T i→Kept a d n e i lg.length x):Inv F a (lg++[x]) d s n e:=by{
 refine⟨J,by simp;omega,K,by simp;omega,fun i j g=>?_,B,fun i c=>?_⟩;by_cases b:T i;have:=A i j b g;refine⟨this.1,this.2.1,by simp;exact this.2.2⟩;have E:i<a.length:=(List.getElem?_eq_some_iff.1 g).1
 have c:i<ts.length:=by
  by_cases c:i<ts.length
  exact c
  exact absurd (r i (by omega) E) b
 rw[(m i c b).1]at g;have:=z.good i j g;exact⟨this.1,this.2.1,by simp;omega⟩;by_cases b:T i;exact⟨lg.length,x,t i c b,by simp,D i c b⟩
 have f:i<ts.length:=by
  by_cases f:i<ts.length
  exact f
  exact absurd (r i (by omega) c) b
 obtain⟨k,a4,L,w,M⟩:=z.und i f;obtain⟨N,O,y⟩:=m i f b;have o:k<lg.length:=(List.getElem?_eq_some_iff.1 w).1;refine⟨k,a4,by rw[O,L],by rw[List.getElem?_append_left o,w],?_⟩;rcases M with ⟨a5,l,p,q,P,Q,R,S,U,W,X,G,H,I⟩|⟨p,q⟩;refine .inl ⟨a5,l,by rw[y,p],q,P,Q,by omega,S,U,W,X,by rw[u k o];exact G,by rw[u k o];exact H,fun h=>?_⟩;by_cases v:T l;rw[t l (by omega) v]at h;have:(lg.length:Int)=(k:Int):=Option.some.inj h;omega;obtain⟨Z,a0,b0⟩:=m l R v;rw[a0]at h;obtain⟨j,a6,a1,a2,a3⟩:=I h;exact⟨j,a6,by rw[N,a1],by rw[Z,a2],a3⟩;exact .inr ⟨by rw[y,p],q⟩}
theorem Own.fn(b:Own ts ow){i j:Nat}{s t:za}(hi:ts[i]?=some s)(c:ts[j]?=some t){m:Int}(d:m∈s.messages∨m∈s.notes)(e:m∈t.messages∨m∈t.notes):i=j:=by{have f:=(b m _).2 ⟨i,s,hi,rfl,d⟩;have a:=(b m _).2 ⟨j,t,c,rfl,e⟩;rw[f]at a;have:=Option.some.inj a;omega}
theorem Own.none_(d:Own ts ow){m:Int}(b:zp ow m=none){i:Nat}{s:za}(hi:ts[i]?=some s):¬(m∈s.messages∨m∈s.notes):=fun c=>by
  have a:=(d m _).2 ⟨i,s,hi,rfl,c⟩
  rw[b]at a
  cases a
theorem Own.same(l:Own ts ow){d:List za}(h:∀(i:Nat) (s':za),d[i]?=some s'→(∃s,ts[i]?=some s∧s'.messages=s.messages∧s'.notes=s.notes)∨(s'.messages=[]∧s'.notes=[]))(j:∀(i:Nat) (s:za),ts[i]?=some s→∃s',d[i]?=some s'∧s'.messages=s.messages∧s'.notes=s.notes):Own d ow:=by{intro m n;rw[l m n];constructor;rintro⟨i,s,f,g,c⟩;obtain⟨s',e,a,b⟩:=j i s f;exact⟨i,s',e,g,by rw[a,b];exact c⟩;rintro⟨i,s',f,g,c⟩;rcases h i s' f with ⟨s,e,a,b⟩|⟨a,b⟩;exact⟨i,s,e,g,by rw[← a, ← b];exact c⟩;rw[a,b]at c;simp at c}
theorem Own.two(l:Own ts ow){q:List za}{r:List (Int×Int)}{i j:Nat}{s t s' f:za}(hi:ts[i]?=some s)(w:ts[j]?=some t)(E:i≠j)(u:q[i]?=some s')(v:q[j]?=some f)(o:∀k:Nat,k≠i→k≠j→q[k]?=ts[k]?)(y:∀a,(a∈s'.messages∨a∈s'.notes)→(a∈s.messages∨a∈s.notes)∨(a∈t.messages∨a∈t.notes))(z:∀a,(a∈f.messages∨a∈f.notes)→(a∈s.messages∨a∈s.notes)∨(a∈t.messages∨a∈t.notes))(x:∀a,(a∈s'.messages∨a∈s'.notes)→¬(a∈f.messages∨a∈f.notes))(g1:∀a,(a∈s'.messages∨a∈s'.notes)→zp r a=some ((i:Int)+1))(A:∀a,(a∈f.messages∨a∈f.notes)→zp r a=some ((j:Int)+1))(B:∀a,¬(a∈s'.messages∨a∈s'.notes)→¬(a∈f.messages∨a∈f.notes)→zp r a=if (a∈s.messages∨a∈s.notes)∨(a∈t.messages∨a∈t.notes) then none else zp ow a):Own q r:=by{
 intro a D;by_cases h:a∈s'.messages∨a∈s'.notes;rw[g1 a h];constructor;intro p;exact⟨i,s',u,(Option.some.inj p).symm,h⟩;rintro⟨k,n,b,rfl,c⟩;by_cases d:k=i;rw[d];by_cases e:k=j;subst e;rw[v]at b;cases b;exact absurd c (x a h);rw[o k d e]at b;rcases y a h with g|g;exact absurd (l.fn b hi c g) d;exact absurd (l.fn b w c g) e;by_cases m:a∈f.messages∨a∈f.notes;rw[A a m];constructor;intro p;exact⟨j,f,v,(Option.some.inj p).symm,m⟩;rintro⟨k,n,b,rfl,c⟩;by_cases e:k=j;rw[e];by_cases d:k=i;subst d;rw[u]at b;cases b;exact absurd c h;rw[o k d e]at b;rcases z a m with g|g;exact absurd (l.fn b hi c g) d;exact absurd (l.fn b w c g) e;rw[B a h m];split;rename_i hin;constructor;intro p;cases p;rintro⟨k,n,b,rfl,c⟩;exfalso;by_cases d:k=i;subst d;rw[u]at b;cases b;exact h c;by_cases e:k=j;subst e;rw[v]at b;cases b;exact m c;rw[o k d e]at b;rcases hin with g|g;exact d (l.fn b hi c g);exact e (l.fn b w c g);rename_i hin;rw[l a D];constructor;rintro⟨k,n,b,rfl,c⟩
 have d:k≠i:=by
  rintro rfl
  rw[hi]at b
  cases b
  exact hin (.inl c)
 have e:k≠j:=by
  rintro rfl
  rw[w]at b
  cases b
  exact hin (.inr c)
 exact⟨k,n,by rw[o k d e];exact b,rfl,c⟩;rintro⟨k,n,b,rfl,c⟩
 have d:k≠i:=by
  rintro rfl
  rw[u]at b
  cases b
  exact h c
 have e:k≠j:=by
  rintro rfl
  rw[v]at b
  cases b
  exact m c
 exact⟨k,n,by rw[← o k d e];exact b,rfl,c⟩}
theorem Own.add(l:Own ts ow){i:Nat}{s s':za}(hi:ts[i]?=some s){f:Int}(m:zp ow f=none)(h:∀c,(c∈s'.messages∨c∈s'.notes)↔((c∈s.messages∨c∈s.notes)∨c=f)):Own (ts.set i s') (Qt ow f ((i:Int)+1)):=by{have j:i<ts.length:=(List.getElem?_eq_some_iff.1 hi).1;intro c o;rw[JJ];by_cases b:f=c;subst b;rw[if_pos rfl];constructor;intro b;exact⟨i,s',by rw[List.getElem?_set_self j],(Option.some.inj b).symm,(h f).2 (.inr rfl)⟩;rintro⟨k,g,a,rfl,e⟩;by_cases d:k=i;rw[d];rw[List.getElem?_set_ne (fun b=>d b.symm)]at a;exact absurd e (l.none_ m a);rw[if_neg b,l c o];constructor;rintro⟨k,g,a,rfl,e⟩;by_cases d:k=i;subst d;rw[hi]at a;cases a;exact⟨k,s',by rw[List.getElem?_set_self j],rfl,(h c).2 (.inl e)⟩;exact⟨k,g,by rw[List.getElem?_set_ne (fun b=>d b.symm)];exact a,rfl,e⟩;rintro⟨k,g,a,rfl,e⟩;by_cases d:k=i;subst d;rw[List.getElem?_set_self j]at a;cases a;refine⟨k,s,hi,rfl,((h c).1 e).elim id fun n=>absurd n.symm b⟩;rw[List.getElem?_set_ne (fun b=>d b.symm)]at a;exact⟨k,g,a,rfl,e⟩}
theorem Inv.one(b:Inv F ts lg la ow un be){x:zk}{i:Nat}{s s':za}{e:List (Int×Int)}(h:lg.length<6000)(hi:ts[i]?=some s)(o:¬(x.kind=7∨x.kind=8))(l:s'.no=s.no)(p:s'.values.length=F)(m:Lst s'.messages)(n:Lst s'.notes)(q:∀g,g∈s'.messages→g∉s'.notes)(v:s'.events=s.events+1)(j:Own (ts.set i s') e):
    Inv F (ts.set i s') (lg++[x]) (la.set i (lg.length:Int)) e (ZA un ((i:Int)+1)) be:=by{
 have f:i<ts.length:=(List.getElem?_eq_some_iff.1 hi).1;have r:i<la.length:=by rw[b.lenA];exact f
 have t:=b.good i s hi
 refine b.step (fun k=>k=i) h (by rw[List.length_set];exact b.lenT) (by rw[List.length_set,List.length_set];exact b.lenA) (by rw[List.length_set];exact Nat.le_refl _) (by have:=b.lenB;omega)
  (fun k c a=>by rw[List.length_set]at a;omega) (fun k c a=>?_) (fun k c a=>?_) (fun k w c a=>?_) j (fun k _=>rfl) (fun k c a=>?_)
 refine⟨List.getElem?_set_ne (fun d=>a d.symm),List.getElem?_set_ne (fun d=>a d.symm),?_⟩;rw[qI,if_neg (by omega)];subst a;rw[List.getElem?_set_self r];subst c;rw[List.getElem?_set_self f]at a;cases a;exact⟨⟨l.trans t.1.no,p,m,n,q⟩,by omega,by omega⟩;subst a;exact .inr ⟨by rw[qI,if_pos rfl],fun u=>o u.2⟩}
end Go.Proofs.YtligccioljhapaaGreatDoor.M
namespace Go.Proofs.YtligccioljhapaaGreatDoor.M
open Go Go.Pu
set_option linter.unusedSimpArgs false
set_option linter.unusedVariables false
theorem zjl{R:Type}(l:List UInt8)(p:UInt8→Bool)(r:R)(B:Int→Option (Ctl Int R))(m:∀(k:Nat) a,l[k]?=some a→B (k:Int)=some (if p a=true then .rt r else .nx ((k:Int)+1)))(n:B (l.length:Int)=some (.bk (l.length:Int))):jO B 0=some (if l.any p=true then .rt r else .fin (l.length:Int)):=by{
 obtain⟨j,o,rfl⟩:=JF (body:=B) (fun f=>∃k:Nat,f=(k:Int)∧k≤l.length∧∀(b:Nat) a,b<k→l[b]?=some a→p a=false) (fun f=>l.length-f.toNat)
  (fun j=>j=(if l.any p=true then .rt r else .fin (l.length:Int))) (s:=0) ⟨0,rfl,Nat.zero_le _,fun b a g=>absurd g (Nat.not_lt_zero _)⟩
  (by
    rintro _⟨k,rfl,t,i⟩
    by_cases h:k<l.length
    · have c:l[k]?=some l[k]:=List.getElem?_eq_getElem h
      refine⟨_,m k _ c,?_⟩
      by_cases hp:p l[k]=true
      · rw[if_pos hp]
        show Lp.rt r=_
        rw[if_pos (List.any_eq_true.2 ⟨_,List.getElem_mem h,hp⟩)]
      · rw[if_neg hp]
        refine⟨⟨k+1,by omega,by omega,fun b a d e=>?_⟩,by simp only[Int.toNat_natCast];omega⟩
        rcases Nat.lt_or_eq_of_le (Nat.le_of_lt_succ d)with g|rfl
        · exact i b a g e
        · rw[c]at e
          cases e
          simpa using hp
    · have s:k=l.length:=by omega
      subst s
      refine⟨_,n,?_⟩
      show Lp.fin (l.length:Int)=_
      rw[if_neg]
      intro q
      obtain⟨a,c,hp⟩:=List.any_eq_true.1 q
      obtain⟨b,d⟩:=List.mem_iff_getElem?.1 c
      rw[i b a (List.getElem?_eq_some_iff.1 d).1 d]at hp
      cases hp)
 exact o}
theorem zmo(s:ByteArray):∃g,JR s=some g∧
    (if (decide ((200:Int)<(s.size:Int)))=true then some 4 else Option.bind (zcs s false) fun i=>if i=true then some 9 else some 0)=some g:=by{
 unfold JR zcs;by_cases d:(200:Int)<(s.size:Int);rw[if_pos (decide_eq_true d),if_pos (decide_eq_true d)];exact⟨4,rfl,rfl⟩;have f:¬(decide ((200:Int)<(s.size:Int)))=true:=by simpa using d
 rw[if_neg f,if_neg f];have j:s.data.toList.length=s.size:=rfl;have h:∀(k:Nat),k<s.size→w64 ((k:Int)+1)=(k:Int)+1:=fun k c=>ZB (by omega) (by omega)
 rw[zjl s.data.toList (fun a=>decide ((a.toNat:Int)<32)) (9:Int) _ (fun k a b=>by
  have c:k<s.size:=(List.getElem?_eq_some_iff.1 b).1
  simp only[decide_eq_true (show (k:Int)<(s.size:Int) by omega),if_true,zdO,b,Option.bind_some,h k c]
  split <;> rfl) (by
  have:¬(s.data.toList.length:Int)<(s.size:Int):=by omega
  simp only[decide_eq_false this,Bool.false_eq_true,if_false])]
 rw[zjl s.data.toList (fun a=>decide ((a.toNat:Int)<32)) true _ (fun k a b=>by
  have c:k<s.size:=(List.getElem?_eq_some_iff.1 b).1
  simp only[decide_eq_true (show (k:Int)<(s.size:Int) by omega),if_true,zdO,b,Option.bind_some,h k c,Bool.false_eq_true,if_false,Bool.not_false]
  by_cases e:(a.toNat:Int)<32
  simp only[decide_eq_true e,if_true,Option.bind_some]
  simp only[decide_eq_false e,Bool.false_eq_true,if_false,Option.bind_some]) (by
  have:¬(s.data.toList.length:Int)<(s.size:Int):=by omega
  simp only[decide_eq_false this,Bool.false_eq_true,if_false])]
 cases s.data.toList.any fun a=>decide ((a.toNat:Int)<32);exact⟨0,rfl,rfl⟩;exact⟨9,rfl,rfl⟩}
theorem zlt(v:api_Value):∃a,zaX v=some (!a)∧zeG v=some a:=by{refine⟨_,?_,rfl⟩;unfold zaX;simp only[bne];generalize (v.kind==0)=b;generalize e:(v.kind==3)=a;generalize (v.int==0)=c;generalize Zw v.text (⟨#[]⟩:ByteArray)=d;cases b <;> cases a <;> cases c <;> cases d <;> rfl}
theorem zlf(x:zF)(v:api_Value):∃b,Jy x v=some b∧zbe x v=some b:=by{
 unfold Jy zbe;obtain⟨c,n,o⟩:=zlt v;rw[n,o,Option.bind_some,Option.bind_some];cases c;exact⟨1,rfl,rfl⟩;simp only[Bool.not_true,Bool.false_eq_true,if_false];by_cases a:((v.kind != 0)&&(v.kind != x.kind))=true;rw[if_pos a,if_pos a];exact⟨10,rfl,rfl⟩;rw[if_neg a,if_neg a];have g:∀e c f,zR e c f=zt e c f:=fun _ _ _=>rfl;simp only[g]
 obtain⟨d,p⟩:∃d,(Option.bind (if (v.kind==1)=true then some (zt v.int 0 1) else Option.bind (if (v.kind==4)=true then some (zt v.int 0 (w64 ((x.options.length:Int)-1))) else Option.bind (if (v.kind==5)=true then some (zt v.int 0 3000000) else Option.bind (if (v.kind==6)=true then some (zt v.int 1 40) else Option.bind (if (v.kind==2)=true then some (zt v.int (-1000000000) 1000000000) else some true) fun h=>some h) fun i=>some i) fun j=>some j) fun l=>some l) fun m=>some m)=some d:=by
  repeat' (first | exact⟨_,rfl⟩ | split)
 simp only[p,Option.bind_some];cases d;exact⟨2,rfl,rfl⟩;simp only[Bool.not_true,Bool.false_eq_true,if_false];obtain⟨b,q,r⟩:=zmo v.text;rw[q];exact⟨b,rfl,r⟩}
theorem zmf(x:zk)(c:1≤x.kind∧x.kind≤10):∃a,zfm x=some a∧Jr x=some (if a=true then 0 else 1):=by{
 refine⟨_,rfl,?_⟩;unfold Jr zcO zt;rw[show (x.field != 0) = !(x.field==0) from rfl,show (x.to_ != 0) = !(x.to_==0) from rfl,show (x.message != 0) = !(x.message==0) from rfl];have b:x.kind=1∨x.kind=2∨x.kind=3∨x.kind=4∨x.kind=5∨x.kind=6∨x.kind=7∨x.kind=8∨x.kind=9∨x.kind=10:=by omega
 generalize (x.field==0)=d;generalize (x.to_==0)=a;generalize (x.message==0)=e;generalize (x.value.kind==0&&(x.value.int==0&&(Zw x.value.text ByteArray.empty)))=f;generalize x.kind=z at b c;rcases b with rfl|rfl|rfl|rfl|rfl|rfl|rfl|rfl|rfl|rfl <;> cases d <;> cases a <;> cases e <;> cases f <;> rfl}
theorem zkB(a b:Int):JQ a b=some (zbS a b):=by{
 unfold JQ zbS;by_cases c:a=1;subst c;rfl;have g:(a==1)=false:=by simpa using c
 simp only[g,Bool.false_eq_true,if_false];by_cases d:a=2;subst d;simp only[BEq.rfl,if_true,Option.bind_some];congr 1;rw[Bool.eq_iff_iff];simp[zt,zR];omega;have h:(a==2)=false:=by simpa using d
 simp only[h,Bool.false_eq_true,if_false];by_cases e:a=3;subst e;simp only[BEq.rfl,if_true,Option.bind_some];congr 1;rw[Bool.eq_iff_iff];simp[zt,zR];omega;have i:(a==3)=false:=by simpa using e
 simp only[i,Bool.false_eq_true,if_false];by_cases f:a=4;subst f;simp only[BEq.rfl,if_true,Option.bind_some];congr 1;rw[Bool.eq_iff_iff];simp[zt,zR];omega;have j:(a==4)=false:=by simpa using f
 simp only[j,Bool.false_eq_true,if_false,Option.bind_some];split <;> rfl}
theorem QD{t:Int}{i:Nat}(a:t=(i:Int)+1)(hi:i<100000):w64 (t-1)=(i:Int):=by{rw[ZB (by omega) (by omega)];omega}
theorem tick{α:Type}{ts:List α}{t:Int}(d:zt t 1 (ts.length:Int)=true)(f:ts.length≤400):∃(i:Nat) (s:α),t=(i:Int)+1∧i<ts.length∧ts[i]?=some s∧w64 (t-1)=(i:Int)∧idx ts (w64 (t-1))=some s:=by{
 unfold zt at d;rw[Bool.and_eq_true,decide_eq_true_eq,decide_eq_true_eq]at d;have a:(t-1).toNat<ts.length:=by omega
 have e:t=((t-1).toNat:Int)+1:=by omega
 have b:=QD e (by omega);have c:ts[(t-1).toNat]?=some ts[(t-1).toNat]:=List.getElem?_eq_getElem a;exact⟨(t-1).toNat,_,e,a,c,b,by rw[b,Jm,c]⟩}
variable{F:Nat}{ts:List za}{lg:List zk}{la:List Int}{ow:List (Int×Int)}{un:List (Int×zl)}{be:List zL}
theorem zld(o:Inv F ts lg la ow un be)(form:zr)(m:Int):∃c,zaG ⟨form,ts,lg,la,be⟩ m=some c∧decide ((0:Int)<c)=(zp ow m).isSome:=by{
 unfold zaG
 obtain⟨p,x,y⟩:=zba (R:=Int) (body:=fun w (_:Unit)=>Option.bind (idx ts (w:Int)) fun g=>Option.bind (qw g.messages m) fun r=>Option.bind (if r=true then (some true) else (Option.bind (qw g.notes m) fun s=>some s)) fun u=>if u=true then some (.rt g.no) else some (.nx ()))
  ts.length (fun k _=>∀(d:Nat) (b:za),d<k→ts[d]?=some b→¬(m∈b.messages∨m∈b.notes)) (fun p=>(∃c,p=.rt c∧0<c∧(zp ow m).isSome=true)∨(p=.fin ()∧(zp ow m).isSome=false)) (s:=())
  (fun d b i=>absurd i (Nat.not_lt_zero _))
  (fun k _ q j=>by
    have l:ts[k]?=some ts[k]:=List.getElem?_eq_getElem q
    have z:qw ts[k].notes m=some (decide (m∈ts[k].notes)):=zdy _ _
    simp only[ZP _ _ q,Option.bind_some,zdy]
    by_cases a:m∈ts[k].messages∨m∈ts[k].notes
    · have f:(if decide (m∈ts[k].messages)=true then some true else some (decide (m∈ts[k].notes)))=some true:=by
        rcases a with a|a
        · rw[if_pos (decide_eq_true a)]
        · rw[decide_eq_true a];split <;> rfl
      rw[f]
      refine⟨_,rfl,.inl ⟨_,rfl,?_,?_⟩⟩
      · rw[(o.good k _ l).1.no];omega
      · rw[(o.own m _).2 ⟨k,_,l,rfl,a⟩];rfl
    · have e:m∉ts[k].messages:=fun f=>a (.inl f)
      have n:m∉ts[k].notes:=fun f=>a (.inr f)
      rw[decide_eq_false e,decide_eq_false n]
      refine⟨_,rfl,fun d b i h=>?_⟩
      rcases Nat.lt_or_eq_of_le (Nat.le_of_lt_succ i)with v|rfl
      · exact j d b v h
      · rw[l]at h
        cases h
        exact a)
  (fun _ j=>.inr ⟨rfl,by
    cases hm:zp ow m with
    | none=>rfl
    | some t =>
      obtain⟨d,b,a,_,n⟩:=(o.own m t).1 hm
      exact absurd n (j d b (List.getElem?_eq_some_iff.1 a).1 a)⟩)
 rw[x];rcases y with ⟨c,rfl,a,e⟩|⟨rfl,e⟩;exact⟨c,rfl,by rw[e,decide_eq_true a]⟩;exact⟨0,rfl,by rw[e];rfl⟩}
end Go.Proofs.YtligccioljhapaaGreatDoor.M
namespace Go.Proofs.YtligccioljhapaaGreatDoor.M
open Go Go.Pu
set_option linter.unusedSimpArgs false
set_option linter.unusedVariables false
variable{F:Nat}{ts:List za}{lg:List zk}{la:List Int}{ow:List (Int×Int)}{un:List (Int×zl)}{be:List zL}
theorem ziG:zR=zt:=rfl
theorem ziL{form:zr}(d:form.fields.length≤20){k:Int}(a:zt k 0 (w64 ((form.fields.length:Int)-1))=true):0≤k∧k<form.fields.length∧∃b,idx form.fields k=some b:=by{rw[ZB (by omega) (by omega)]at a;unfold zt at a;rw[Bool.and_eq_true,decide_eq_true_eq,decide_eq_true_eq]at a;refine⟨a.1,by omega,?_⟩;obtain⟨b,c,_⟩:=zfH (l:=form.fields) a.1 (by omega);exact⟨b,c⟩}
theorem zmO(form:zr)(c:form.fields.length≤20)(oth:Int)(s:za)(x:zk):
    ∃b,jC ⟨form,lg,ts,⟨ow⟩,la,⟨un⟩,oth⟩ s x=some b∧JN ⟨form,ts,lg,la,be⟩ s x=some b∧(b=0→0≤x.field∧x.field<form.fields.length):=by{unfold jC JN;rw[ziG];dsimp only;by_cases a:(!(zt x.field 0 (w64 ((form.fields.length:Int)-1))))=true;rw[if_pos a,if_pos a];exact⟨7,rfl,rfl,fun i=>by cases i⟩;rw[if_neg a,if_neg a];obtain⟨d,e,j,f⟩:=ziL c (k:=x.field) (by simpa using a);obtain⟨b,g,h⟩:=zlf j x.value;rw[f];simp only[Option.bind_some,g,h];repeat' (first | exact⟨_,rfl,rfl,fun _=>⟨d,e⟩⟩ | split)}
theorem zlo(form:zr)(oth:Int)(s:za)(x:zk)(l:s.values.length=form.fields.length):
    ∃d,jn ⟨form,lg,ts,⟨ow⟩,la,⟨un⟩,oth⟩ s x=some d∧Jq ⟨form,ts,lg,la,be⟩ s x=some d:=by{
 unfold jn Jq;rw[ziG];dsimp only;simp only[zkB,Option.bind_some]
 have g:((x.who==0)&&((s.status != 5)||(x.to_ != 2)))=((x.who==0)&&(!((s.status==5)&&(x.to_==2)))):=by
  simp only[bne,Bool.not_and]
 rw[g]
 obtain⟨a,h,i⟩:=zba (R:=Int) (body:=fun b (_:Unit)=>Option.bind (idx form.fields (b:Int)) fun c=>Option.bind (if ((c.needs != 0)&&(decide (c.needs≤x.to_)))=true then (Option.bind (idx s.values (b:Int)) fun e=>some (e.kind==0)) else (some false)) fun f=>if f=true then some (.rt 1) else some (.nx ()))
  form.fields.length (fun _ _=>True) (fun a=>a=.rt 1∨a=.fin ()) (s:=()) trivial
  (fun k _ j _=>by
    simp only[ZP _ _ j,ZP s.values k (by omega),Option.bind_some]
    split
    · rw[Option.bind_some]
      split
      · exact⟨_,rfl,.inl rfl⟩
      · exact⟨_,rfl,trivial⟩
    · exact⟨_,rfl,trivial⟩) (fun _ _=>.inr rfl)
 rw[h];rcases i with rfl|rfl;all_goals repeat' (first | exact⟨_,rfl,rfl⟩ | split)}
theorem zkQ(c:Inv F ts lg la ow un be)(form:zr)(oth:Int)(s:za)(x:zk){i:Nat}(hi:x.ticket=(i:Int)+1):
    ∃d,QZ ⟨form,lg,ts,⟨ow⟩,la,⟨un⟩,oth⟩ s x=some d∧Ji ⟨form,ts,lg,la,be⟩ s x=some d∧
      (d=0→∃(j:Nat) (t:za),ts[j]?=some t∧x.to_=(j:Int)+1∧j≠i):=by{
 unfold QZ Ji Jn zaS;rw[ziG];dsimp only;simp only[Option.bind_some];by_cases a:(!(zt x.to_ 1 (ts.length:Int)))=true;rw[if_pos a,if_pos a];exact⟨7,rfl,rfl,fun c=>by cases c⟩;rw[if_neg a,if_neg a];obtain⟨j,t,e,n,h,o,l⟩:=tick (by simpa using a) c.lenT;rw[l];simp only[Option.bind_some];by_cases b:(x.to_==x.ticket)=true;rw[if_pos b,if_pos b];exact⟨13,rfl,rfl,fun c=>by cases c⟩;rw[if_neg b,if_neg b]
 have g:j≠i:=by
  rintro rfl
  exact b (by rw[e,hi];simp)
 have f:∃(j:Nat) (t:za),ts[j]?=some t∧x.to_=(j:Int)+1∧j≠i:=⟨j,t,h,e,g⟩
 have m:(if (s.status==6)=true then some true else some (t.status==6))=some ((s.status==6)||(t.status==6)):=by
  cases (s.status==6) <;> rfl
 rw[m];simp only[Option.bind_some];repeat' (first | exact⟨_,rfl,rfl,fun _=>f⟩ | split)}
theorem zlN(a:Inv F ts lg la ow un be)(form:zr)(oth:Int)(s:za)(x:zk):
    ∃f,jm ⟨form,lg,ts,⟨ow⟩,la,⟨un⟩,oth⟩ s x=some f∧Jt ⟨form,ts,lg,la,be⟩ s x=some f∧
      (f=0→ts.length<400∧x.to_=(ts.length:Int)+1∧x.message∈s.messages):=by{
 unfold jm Jt;dsimp only;have j:=a.lenT;have h:w64 ((ts.length:Int)+1)=(ts.length:Int)+1:=ZB (by omega) (by omega);rw[h,zgc,zdy];simp only[Option.bind_some];by_cases d:(decide ((400:Int)≤(ts.length:Int)))=true;rw[if_pos d];exact⟨16,rfl,rfl,fun a=>by cases a⟩;rw[if_neg d];by_cases e:(x.to_ != (ts.length:Int)+1)=true;rw[if_pos e];exact⟨5,rfl,rfl,fun a=>by cases a⟩;rw[if_neg e];by_cases b:x.message∈s.messages;rotate_left;rw[decide_eq_false b];exact⟨7,rfl,rfl,fun a=>by cases a⟩;rw[decide_eq_true b]
 obtain⟨c,i⟩:∃c,idx s.messages 0=some c:=by
  cases hm:s.messages with
  | nil=>rw[hm]at b;simp at b
  | cons c l=>exact⟨c,rfl⟩
 rw[i];simp only[Bool.not_true,Bool.false_eq_true,if_false,Option.bind_some];have g:ts.length<400∧x.to_=(ts.length:Int)+1∧x.message∈s.messages:=⟨by simp at d;omega,by simpa using e,b⟩;repeat' (first | exact⟨_,rfl,rfl,fun _=>g⟩ | split)}
def zeH(ts:List za)(lg:List zk)(la:List Int)(un:List (Int×zl))(be:List zL)(i:Nat):Prop :=
  ∃(k:Nat) (y:zk) (u:zl) (j:Nat) (s t:za),la[i]?=some (k:Int)∧lg[k]?=some y∧zp un ((i:Int)+1)=some u∧y.ticket=(i:Int)+1∧(y.kind=7∨y.kind=8)∧y.to_=(j:Int)+1∧j≠i∧u.other=(j:Int)+1∧u.kind=y.kind∧
    Sm (JA be k).one u.before∧(u.kind=7→Sm (JA be k).other u.to_)∧ts[i]?=some s∧ts[j]?=some t∧Back u s t
theorem zkV(c:Inv F ts lg la ow un be)(form:zr)(oth:Int)(x:zk){i:Nat}(hi:x.ticket=(i:Int)+1)(z:i<ts.length):
    ∃a,jb ⟨form,lg,ts,⟨ow⟩,la,⟨un⟩,oth⟩ x=some a∧Jj ⟨form,ts,lg,la,be⟩ x=some a∧(a=0→zeH ts lg la un be i):=by{
 unfold jb Jj;dsimp only;by_cases f:(x.who==0)=true;rw[if_pos f,if_pos f];exact⟨12,rfl,rfl,fun c=>by cases c⟩;rw[if_neg f,if_neg f];have Q:=c.lenT;obtain⟨k,b,o,p,A⟩:=c.und i z;have B:=QD hi (by omega);have D:idx la (w64 (x.ticket-1))=some (k:Int):=by rw[B,Jm,o]
 have E:idx lg (k:Int)=some b:=by rw[Jm,p]
 rw[D];simp only[Option.bind_some,E];rcases A with ⟨N,d,g,e,q,r,G,H,I,s,J,t,u,v⟩|⟨g,e⟩;rw[hi,g,e]
 have m:((((i:Int)+1) != ((i:Int)+1))||((b.kind != 7)&&(b.kind != 8)))=false:=by
  rcases q with a|a <;> rw[a] <;> simp
 rw[m];simp only[Option.isSome_some,Bool.not_true,Bool.false_eq_true,if_false,Option.getD_some,s,I];have w:w64 ((d:Int)+1-1)=(d:Int):=QD rfl (by omega);rw[r,w];have n:d<la.length:=by rw[c.lenA];exact G
 rw[ZP _ _ n];simp only[Option.bind_some];by_cases h:(la[d] != (k:Int))=true;rw[if_pos h];exact⟨11,rfl,rfl,fun c=>by cases c⟩;rw[if_neg h]
 have y:la[d]?=some (k:Int):=by
  rw[List.getElem?_eq_getElem n]
  congr 1
  simpa using h
 obtain⟨O,P,K,L,M⟩:=v y;exact⟨0,rfl,rfl,fun _=>⟨k,b,N,d,O,P,o,p,g,e,q,r,H,s,J,t,u,K,L,M⟩⟩;rw[hi,g]
 have m:((b.ticket != ((i:Int)+1))||((b.kind != 7)&&(b.kind != 8)))=true:=by
  by_cases a:b.ticket=(i:Int)+1
  have j:b.kind≠7:=fun j=>e ⟨a,.inl j⟩
  have l:b.kind≠8:=fun l=>e ⟨a,.inr l⟩
  simp[j,l]
  simp[a]
 rw[m];exact⟨7,rfl,rfl,fun c=>by cases c⟩}
def Fine(F:Nat)(ts:List za)(lg:List zk)(la:List Int)(ow:List (Int×Int))(un:List (Int×zl))(be:List zL)(x:zk):Prop :=
  lg.length<6000∧((x.kind=1∧ts.length<400∧x.ticket=(ts.length:Int)+1)∨
    ∃(i:Nat) (s:za),ts[i]?=some s∧x.ticket=(i:Int)+1∧
      (((x.kind=2∨x.kind=3)∧(1≤x.message∧x.message≤1000)∧zp ow x.message=none)∨(x.kind=4∧0≤x.field∧x.field<F)∨x.kind=5∨x.kind=6∨
       (x.kind=7∧∃(j:Nat) (t:za),ts[j]?=some t∧x.to_=(j:Int)+1∧j≠i)∨(x.kind=8∧ts.length<400∧x.to_=(ts.length:Int)+1∧x.message∈s.messages)∨
       (x.kind=9∧zeH ts lg la un be i)∨(x.kind=10∧(x.message=0→0≤x.field∧x.field<F))))
theorem zll(a:Inv F ts lg la ow un be)(form:zr)(I:form.fields.length=F)(a8:F≤20)(oth:Int)(x:zk):
    ∃d,qo ⟨form,lg,ts,⟨ow⟩,la,⟨un⟩,oth⟩ x=some d∧qH ⟨form,ts,lg,la,be⟩ x=some d∧(d=0→Fine F ts lg la ow un be x):=by
  have R:=a.lenT
  have a9:=a.lenL
  unfold qo qH zaO zaS Jn
  rw[ziG]
  dsimp only
  by_cases p:(decide ((6000:Int)≤(lg.length:Int)))=true
  · rw[if_pos p,if_pos p]
    exact⟨16,rfl,rfl,fun a=>by cases a⟩
  rw[if_neg p,if_neg p]
  have H:lg.length<6000:=by simp at p;omega
  by_cases t:(!(zt x.kind 1 10))=true
  · have:Jr x=some 10:=by unfold Jr;rw[if_pos t]
    rw[this,if_pos t]
    exact⟨10,rfl,rfl,fun a=>by cases a⟩
  rw[if_neg t]
  have P:1≤x.kind∧x.kind≤10:=by
    simpa [zt]using t
  obtain⟨a6,q,S⟩:=zmf x P
  rw[q,S]
  simp only[Option.bind_some]
  cases a6
  · exact⟨1,rfl,rfl,fun a=>by cases a⟩
  rw[if_neg (show ¬(((if true=true then (0:Int) else 1) != 0)=true) by decide),if_neg (show ¬((!true)=true) by decide)]
  by_cases u:((!(zt x.at_ 0 3000000))||(!(zt x.who (-1) 40)))=true
  · rw[if_pos u,if_pos u]
    exact⟨2,rfl,rfl,fun a=>by cases a⟩
  rw[if_neg u,if_neg u]
  obtain⟨E,T⟩:∃E,(if (decide ((0:Int)<(lg.length:Int)))=true then (Option.bind (idx lg (w64 ((lg.length:Int)-1))) fun Q=>some (decide (x.at_<Q.at_))) else (some false))=some E:=by
    by_cases J:(0:Int)<(lg.length:Int)
    · rw[if_pos (decide_eq_true J),ZB (by omega) (by omega)]
      obtain⟨b1,U,_⟩:=zfH (l:=lg) (i:=(lg.length:Int)-1) (by omega) (by omega)
      rw[U]
      exact⟨_,rfl⟩
    · rw[decide_eq_false J]
      exact⟨_,rfl⟩
  simp only[T,Option.bind_some]
  cases E
  rotate_left
  · exact⟨5,rfl,rfl,fun a=>by cases a⟩
  simp only[Bool.false_eq_true,if_false]
  by_cases y:x.kind=1
  · simp only[y,BEq.rfl,if_true]
    have W:w64 ((ts.length:Int)+1)=(ts.length:Int)+1:=ZB (by omega) (by omega)
    rw[W]
    by_cases z:(decide ((400:Int)≤(ts.length:Int)))=true
    · rw[if_pos z]
      exact⟨16,rfl,rfl,fun a=>by cases a⟩
    rw[if_neg z]
    by_cases A:(x.ticket != (ts.length:Int)+1)=true
    · rw[if_pos A]
      exact⟨5,rfl,rfl,fun a=>by cases a⟩
    rw[if_neg A]
    have o:Fine F ts lg la ow un be x:=⟨H,.inl ⟨y,by simp at z;omega,by simpa using A⟩⟩
    by_cases K:(!(zt x.to_ 1 4))=true
    · rw[if_pos K]
      exact⟨2,rfl,rfl,fun a=>by cases a⟩
    · rw[if_neg K]
      exact⟨0,rfl,rfl,fun _=>o⟩
  have X:(x.kind==1)=false:=by simpa using y
  simp only[X,Bool.false_eq_true,if_false,Option.bind_some]
  by_cases r:(!(zt x.ticket 1 (ts.length:Int)))=true
  · rw[if_pos r,if_pos r]
    exact⟨7,rfl,rfl,fun a=>by cases a⟩
  rw[if_neg r,if_neg r]
  obtain⟨w,g,B,Z,L,b0,a0⟩:=tick (by simpa using r) R
  rw[a0]
  simp only[Option.bind_some]
  have a1:=(a.good w g L).1
  by_cases v:(((g.into != 0)&&(x.kind != 10))&&(x.kind != 9))=true
  · rw[if_pos v,if_pos v]
    exact⟨11,rfl,rfl,fun a=>by cases a⟩
  rw[if_neg v,if_neg v]
  have i:∀{M:Prop},M→(M→(((x.kind=2∨x.kind=3)∧(1≤x.message∧x.message≤1000)∧zp ow x.message=none)∨(x.kind=4∧0≤x.field∧x.field<F)∨x.kind=5∨x.kind=6∨
       (x.kind=7∧∃(G:Nat) (N:za),ts[G]?=some N∧x.to_=(G:Int)+1∧G≠w)∨(x.kind=8∧ts.length<400∧x.to_=(ts.length:Int)+1∧x.message∈g.messages)∨
       (x.kind=9∧zeH ts lg la un be w)∨(x.kind=10∧(x.message=0→0≤x.field∧x.field<F))))→Fine F ts lg la ow un be x:=fun f a7=>⟨H,.inr ⟨w,g,L,B,a7 f⟩⟩
  have O:(x.kind=2∨x.kind=3)∨x.kind=4∨x.kind=5∨x.kind=6∨x.kind=7∨x.kind=8∨x.kind=9∨x.kind=10:=by omega
  rcases O with b|b|b|b|b|b|b|b
  · -- Said, Noted
    have a2:(if (x.kind==2)=true then some (x.kind==2) else some (x.kind==3))=some true:=by
      rcases b with d|d <;> rw[d] <;> rfl
    obtain⟨b2,a3,a4⟩:=zld a form x.message
    simp only[a2,Option.bind_some,if_true,a3,a4,jA]
    by_cases e:(!(zt x.message 1 1000))=true
    · rw[if_pos e,if_pos e]
      exact⟨2,rfl,rfl,fun a=>by cases a⟩
    rw[if_neg e,if_neg e]
    by_cases c:(zp ow x.message).isSome=true
    · rw[if_pos c,if_pos c]
      exact⟨6,rfl,rfl,fun a=>by cases a⟩
    rw[if_neg c,if_neg c]
    by_cases h:((x.kind==3)&&(x.who==0))=true
    · rw[if_pos h,if_pos h]
      exact⟨12,rfl,rfl,fun a=>by cases a⟩
    rw[if_neg h,if_neg h]
    refine⟨0,rfl,rfl,fun _=>i trivial fun _=>.inl ⟨b,by simpa [zt]using e,?_⟩⟩
    cases hm:zp ow x.message with
    | none=>rfl
    | some N=>rw[hm]at c;simp at c
  · obtain⟨d,j,l,m⟩:=zmO (lg:=lg) (ts:=ts) (ow:=ow) (la:=la) (un:=un) (be:=be) form (by omega) oth g x
    simp only[b,Int.reduceBEq,Bool.false_eq_true,if_false,if_true,Option.bind_some,j,l,Lp.andThen_rt]
    exact⟨d,rfl,rfl,fun n=>i (m n) fun f=>.inr (.inl ⟨b,f.1,by rw[← I];exact f.2⟩)⟩
  · obtain⟨d,j,l⟩:=zlo (lg:=lg) (ts:=ts) (ow:=ow) (la:=la) (un:=un) (be:=be) form oth g x (by rw[a1.vals,I])
    simp only[b,Int.reduceBEq,Bool.false_eq_true,if_false,if_true,Option.bind_some,j,l,Lp.andThen_rt]
    exact⟨d,rfl,rfl,fun _=>i trivial fun _=>.inr (.inr (.inl b))⟩
  · simp only[b,Int.reduceBEq,Bool.false_eq_true,if_false,if_true,Option.bind_some,JC]
    have o:Fine F ts lg la ow un be x:=i trivial fun _=>.inr (.inr (.inr (.inl b)))
    by_cases e:(!(zt x.to_ 0 40))=true
    · rw[if_pos e,if_pos e]
      exact⟨2,rfl,rfl,fun a=>by cases a⟩
    rw[if_neg e,if_neg e]
    by_cases c:(x.who==0)=true
    · rw[if_pos c,if_pos c]
      exact⟨12,rfl,rfl,fun a=>by cases a⟩
    rw[if_neg c,if_neg c]
    have a5:(g.person==x.to_)=(x.to_==g.person):=BEq.comm
    rw[a5]
    by_cases h:(x.to_==g.person)=true
    · rw[if_pos h,if_pos h]
      exact⟨6,rfl,rfl,fun a=>by cases a⟩
    · rw[if_neg h,if_neg h]
      exact⟨0,rfl,rfl,fun _=>o⟩
  · obtain⟨d,j,l,m⟩:=zkQ a form oth g x B
    simp only[b,Int.reduceBEq,Bool.false_eq_true,if_false,if_true,Option.bind_some,j,l,Lp.andThen_rt]
    exact⟨d,rfl,rfl,fun n=>i (m n) fun f=>.inr (.inr (.inr (.inr (.inl ⟨b,f⟩))))⟩
  · obtain⟨d,j,l,m⟩:=zlN a form oth g x
    simp only[b,Int.reduceBEq,Bool.false_eq_true,if_false,if_true,Option.bind_some,j,l,Lp.andThen_rt]
    exact⟨d,rfl,rfl,fun n=>i (m n) fun f=>.inr (.inr (.inr (.inr (.inr (.inl ⟨b,f⟩)))))⟩
  · obtain⟨d,j,l,m⟩:=zkV a form oth x B Z
    simp only[b,Int.reduceBEq,Bool.false_eq_true,if_false,if_true,Option.bind_some,j,l,Lp.andThen_rt]
    exact⟨d,rfl,rfl,fun n=>i (m n) fun f=>.inr (.inr (.inr (.inr (.inr (.inr (.inl ⟨b,f⟩))))))⟩
  · simp only[b,Int.reduceBEq,Bool.false_eq_true,if_false,if_true,Option.bind_some,jN]
    by_cases e:(x.who==0)=true
    · rw[if_pos e,if_pos e]
      exact⟨12,rfl,rfl,fun a=>by cases a⟩
    rw[if_neg e,if_neg e]
    by_cases s:x.message=0
    · have D:(x.message==0)=true:=by rw[s];rfl
      have q:(x.message != 0)=false:=by rw[s];rfl
      simp only[D,q,Bool.true_and,Bool.false_eq_true,if_false,Option.bind_some]
      by_cases c:(!(zt x.field 0 (w64 ((form.fields.length:Int)-1))))=true
      · rw[if_pos c,if_pos c]
        exact⟨7,rfl,rfl,fun a=>by cases a⟩
      · rw[if_neg c,if_neg c]
        have f:=ziL (form:=form) (by omega) (k:=x.field) (by simpa using c)
        exact⟨0,rfl,rfl,fun _=>i f fun f=>.inr (.inr (.inr (.inr (.inr (.inr (.inr ⟨b,fun _=>⟨f.1,by omega⟩⟩))))))⟩
    · have D:(x.message==0)=false:=by simpa using s
      have q:(x.message != 0)=true:=by simpa using s
      simp only[D,q,Bool.false_and,Bool.false_eq_true,if_false,if_true,zgc,zdy,Option.bind_some]
      have o:Fine F ts lg la ow un be x:=i trivial fun _=>.inr (.inr (.inr (.inr (.inr (.inr (.inr ⟨b,fun d=>absurd d s⟩))))))
      by_cases c:x.message∈g.messages
      · rw[decide_eq_true c]
        exact⟨0,rfl,rfl,fun _=>o⟩
      · rw[decide_eq_false c]
        by_cases h:x.message∈g.notes
        · rw[decide_eq_true h]
          exact⟨0,rfl,rfl,fun _=>o⟩
        · rw[decide_eq_false h]
          exact⟨7,rfl,rfl,fun a=>by cases a⟩
end Go.Proofs.YtligccioljhapaaGreatDoor.M
