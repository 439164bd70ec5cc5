import Derived.Test.YtcnidlpginehjaaGreatLevelHistoryHsA
namespace Go.Proofs.YtcnidlpginehjaaGreat.M
open Go Go.Pu
set_option linter.unusedSimpArgs false
set_option linter.unusedVariables false
structure Good(F:Nat)(i:Nat)(s:zd):Prop where
  no:s.no=(i:Int)+1
  vals:s.values.length=F
  ms:Lst s.messages
  ns:Lst s.notes
  dis:∀m,m∈s.messages→m∉s.notes
def Own(ts:List zd)(ow:List (Int×Int)):Prop:=∀(m t:Int),zy ow m=some t↔∃(i:Nat) (s:zd),ts[i]?=some s∧t=(i:Int)+1∧(m∈s.messages∨m∈s.notes)
def und0:zE:=(⟨0,(⟨0,0,0,0,0,0,0,0,([]:(List zu)),([]:(List Int)),([]:(List Int)),0⟩:zd),(⟨0,0,0,0,0,0,0,0,([]:(List zu)),([]:(List Int)),([]:(List Int)),0⟩:zd)⟩:zE)
def JE(be:List zE)(k:Int):zE:=be.foldl (fun s b=>if b.event=k then b else s) und0
def Sm(a b:zd):Prop:=a.status=b.status∧a.into=b.into∧a.messages=b.messages∧a.notes=b.notes
structure Two(a b:zd):Prop where
  am:Lst a.messages
  an:Lst a.notes
  bm:Lst b.messages
  bn:Lst b.notes
  ad:∀m,m∈a.messages→m∉a.notes
  bd:∀m,m∈b.messages→m∉b.notes
  ab:∀m,(m∈a.messages∨m∈a.notes)→¬(m∈b.messages∨m∈b.notes)
structure Back(u:zo)(s t:zd):Prop where
  two:Two u.before u.to_
  sub:∀m,(m∈u.before.messages∨m∈u.before.notes∨m∈u.to_.messages∨m∈u.to_.notes)→(m∈s.messages∨m∈s.notes)∨(m∈t.messages∨m∈t.notes)
  spl:u.kind=8→s.status=u.before.status∧s.into=u.before.into∧t.notes=[]
def Kept(ts:List zd)(la:List Int)(un:List (Int×zo))(be:List zE)(i k:Nat)(x:zk):Prop :=
  (∃(u:zo) (j:Nat),zy un ((i:Int)+1)=some u∧x.ticket=(i:Int)+1∧(x.kind=7∨x.kind=8)∧x.to_=(j:Int)+1∧j<ts.length∧j≠i∧u.event=(k:Int)∧u.other=(j:Int)+1∧u.kind=x.kind∧
      Sm (JE be k).one u.before∧(u.kind=7→Sm (JE be k).other u.to_)∧(la[j]?=some (k:Int)→∃s t,ts[i]?=some s∧ts[j]?=some t∧Back u s t))∨
  (zy un ((i:Int)+1)=none∧¬(x.ticket=(i:Int)+1∧(x.kind=7∨x.kind=8)))
def UOK(ts:List zd)(lg:List zk)(la:List Int)(un:List (Int×zo))(be:List zE)(i:Nat):Prop :=
  ∃(k:Nat) (x:zk),la[i]?=some (k:Int)∧lg[k]?=some x∧Kept ts la un be i k x
structure Inv(F:Nat)(ts:List zd)(lg:List zk)(la:List Int)(ow:List (Int×Int))(un:List (Int×zo))(be:List zE):Prop where
  lenT:ts.length≤400
  lenL:lg.length≤6000
  lenA:la.length=ts.length
  lenB:be.length≤lg.length
  good:∀(i:Nat) (s:zd),ts[i]?=some s→Good F i s∧1≤s.events∧s.events≤lg.length
  own:Own ts ow
  und:∀i:Nat,i<ts.length→UOK ts lg la un be i
theorem Inv.nil(F:Nat):Inv F [] [] [] [] [] [] :=
  ⟨by simp,by simp,rfl,by simp,fun b c a=>by simp at a,fun d e=>⟨fun a=>by simp[zy]at a,fun⟨b,c,a,_⟩=>by simp at a⟩,fun b a=>by simp at a⟩
variable{F:Nat}{ts:List zd}{lg:List zk}{la:List Int}{ow:List (Int×Int)}{un:List (Int×zo)}{be:List zE}
theorem Inv.step(z:Inv F ts lg la ow un be){x:zk}{a:List zd}{e:List Int}{s:List (Int×Int)}{n:List (Int×zo)}{f:List zE}(T:Nat→Prop)(a7:lg.length<6000)(J:a.length≤400)(K:e.length=a.length)(a8:ts.length≤a.length)(a9:f.length≤lg.length+1)(r:∀i:Nat,ts.length≤i→i<a.length→T i)(m:∀i:Nat,i<ts.length→¬T i→a[i]?=ts[i]?∧e[i]?=la[i]?∧zy n ((i:Int)+1)=zy un ((i:Int)+1))(t:∀i:Nat,i<a.length→T i→e[i]?=some (lg.length:Int))(A:∀(i:Nat) (s':zd),T i→a[i]?=some s'→Good F i s'∧1≤s'.events∧s'.events≤(lg.length:Int)+1)(B:Own a s)(u:∀b:Nat,b<lg.length→JE f b=JE be b)(D:∀i:Nat,i<a.length→T i→Kept a e n f i lg.length x):Inv F a (lg++[x]) e s n f:=by{
 refine⟨J,by simp;omega,K,by simp;omega,fun i k h=>?_,B,fun i d=>?_⟩;by_cases c:T i;have:=A i k c h;refine⟨this.1,this.2.1,by simp;exact this.2.2⟩;have E:i<a.length:=(List.getElem?_eq_some_iff.1 h).1
 have d:i<ts.length:=by
  by_cases d:i<ts.length
  exact d
  exact absurd (r i (by omega) E) c
 rw[(m i d c).1]at h;have:=z.good i k h;exact⟨this.1,this.2.1,by simp;omega⟩;by_cases c:T i;exact⟨lg.length,x,t i d c,by simp,D i d c⟩
 have g:i<ts.length:=by
  by_cases g:i<ts.length
  exact g
  exact absurd (r i (by omega) d) c
 obtain⟨b,a4,L,w,M⟩:=z.und i g;obtain⟨N,O,y⟩:=m i g c;have o:b<lg.length:=(List.getElem?_eq_some_iff.1 w).1;refine⟨b,a4,by rw[O,L],by rw[List.getElem?_append_left o,w],?_⟩;rcases M with ⟨a5,l,p,q,P,Q,R,S,U,W,X,G,H,I⟩|⟨p,q⟩;refine .inl ⟨a5,l,by rw[y,p],q,P,Q,by omega,S,U,W,X,by rw[u b o];exact G,by rw[u b o];exact H,fun j=>?_⟩;by_cases v:T l;rw[t l (by omega) v]at j;have:(lg.length:Int)=(b:Int):=Option.some.inj j;omega;obtain⟨Z,a0,b0⟩:=m l R v;rw[a0]at j;obtain⟨k,a6,a1,a2,a3⟩:=I j;exact⟨k,a6,by rw[N,a1],by rw[Z,a2],a3⟩;exact .inr ⟨by rw[y,p],q⟩}
theorem Own.fn(c:Own ts ow){i j:Nat}{s t:zd}(hi:ts[i]?=some s)(d:ts[j]?=some t){a:Int}(e:a∈s.messages∨a∈s.notes)(f:a∈t.messages∨a∈t.notes):i=j:=by{have g:=(c a _).2 ⟨i,s,hi,rfl,e⟩;have b:=(c a _).2 ⟨j,t,d,rfl,f⟩;rw[g]at b;have:=Option.some.inj b;omega}
theorem Own.none_(e:Own ts ow){a:Int}(c:zy ow a=none){i:Nat}{s:zd}(hi:ts[i]?=some s):¬(a∈s.messages∨a∈s.notes):=fun d=>by
  have b:=(e a _).2 ⟨i,s,hi,rfl,d⟩
  rw[c]at b
  cases b
theorem Own.same(k:Own ts ow){d:List zd}(h:∀(i:Nat) (s':zd),d[i]?=some s'→(∃s,ts[i]?=some s∧s'.messages=s.messages∧s'.notes=s.notes)∨(s'.messages=[]∧s'.notes=[]))(j:∀(i:Nat) (s:zd),ts[i]?=some s→∃s',d[i]?=some s'∧s'.messages=s.messages∧s'.notes=s.notes):Own d ow:=by{intro l m;rw[k l m];constructor;rintro⟨i,s,f,g,c⟩;obtain⟨s',e,a,b⟩:=j i s f;exact⟨i,s',e,g,by rw[a,b];exact c⟩;rintro⟨i,s',f,g,c⟩;rcases h i s' f with ⟨s,e,a,b⟩|⟨a,b⟩;exact⟨i,s,e,g,by rw[← a, ← b];exact c⟩;rw[a,b]at c;simp at c}
theorem Own.two(l:Own ts ow){q:List zd}{r:List (Int×Int)}{i j:Nat}{s t s' g:zd}(hi:ts[i]?=some s)(w:ts[j]?=some t)(E:i≠j)(u:q[i]?=some s')(v:q[j]?=some g)(o:∀c:Nat,c≠i→c≠j→q[c]?=ts[c]?)(y:∀a,(a∈s'.messages∨a∈s'.notes)→(a∈s.messages∨a∈s.notes)∨(a∈t.messages∨a∈t.notes))(z:∀a,(a∈g.messages∨a∈g.notes)→(a∈s.messages∨a∈s.notes)∨(a∈t.messages∨a∈t.notes))(x:∀a,(a∈s'.messages∨a∈s'.notes)→¬(a∈g.messages∨a∈g.notes))(g1:∀a,(a∈s'.messages∨a∈s'.notes)→zy r a=some ((i:Int)+1))(A:∀a,(a∈g.messages∨a∈g.notes)→zy r a=some ((j:Int)+1))(B:∀a,¬(a∈s'.messages∨a∈s'.notes)→¬(a∈g.messages∨a∈g.notes)→zy r a=if (a∈s.messages∨a∈s.notes)∨(a∈t.messages∨a∈t.notes) then none else zy ow a):Own q r:=by{
 intro a D;by_cases k:a∈s'.messages∨a∈s'.notes;rw[g1 a k];constructor;intro p;exact⟨i,s',u,(Option.some.inj p).symm,k⟩;rintro⟨c,n,b,rfl,d⟩;by_cases e:c=i;rw[e];by_cases f:c=j;subst f;rw[v]at b;cases b;exact absurd d (x a k);rw[o c e f]at b;rcases y a k with h|h;exact absurd (l.fn b hi d h) e;exact absurd (l.fn b w d h) f;by_cases m:a∈g.messages∨a∈g.notes;rw[A a m];constructor;intro p;exact⟨j,g,v,(Option.some.inj p).symm,m⟩;rintro⟨c,n,b,rfl,d⟩;by_cases f:c=j;rw[f];by_cases e:c=i;subst e;rw[u]at b;cases b;exact absurd d k;rw[o c e f]at b;rcases z a m with h|h;exact absurd (l.fn b hi d h) e;exact absurd (l.fn b w d h) f;rw[B a k m];split;rename_i hin;constructor;intro p;cases p;rintro⟨c,n,b,rfl,d⟩;exfalso;by_cases e:c=i;subst e;rw[u]at b;cases b;exact k d;by_cases f:c=j;subst f;rw[v]at b;cases b;exact m d;rw[o c e f]at b;rcases hin with h|h;exact e (l.fn b hi d h);exact f (l.fn b w d h);rename_i hin;rw[l a D];constructor;rintro⟨c,n,b,rfl,d⟩
 have e:c≠i:=by
  rintro rfl
  rw[hi]at b
  cases b
  exact hin (.inl d)
 have f:c≠j:=by
  rintro rfl
  rw[w]at b
  cases b
  exact hin (.inr d)
 exact⟨c,n,by rw[o c e f];exact b,rfl,d⟩;rintro⟨c,n,b,rfl,d⟩
 have e:c≠i:=by
  rintro rfl
  rw[u]at b
  cases b
  exact k d
 have f:c≠j:=by
  rintro rfl
  rw[v]at b
  cases b
  exact m d
 exact⟨c,n,by rw[← o c e f];exact b,rfl,d⟩}
theorem Own.add(l:Own ts ow){i:Nat}{s s':zd}(hi:ts[i]?=some s){g:Int}(m:zy ow g=none)(j:∀c,(c∈s'.messages∨c∈s'.notes)↔((c∈s.messages∨c∈s.notes)∨c=g)):Own (ts.set i s') (qR ow g ((i:Int)+1)):=by{have k:i<ts.length:=(List.getElem?_eq_some_iff.1 hi).1;intro c o;rw[jB];by_cases b:g=c;subst b;rw[if_pos rfl];constructor;intro b;exact⟨i,s',by rw[List.getElem?_set_self k],(Option.some.inj b).symm,(j g).2 (.inr rfl)⟩;rintro⟨d,h,a,rfl,f⟩;by_cases e:d=i;rw[e];rw[List.getElem?_set_ne (fun b=>e b.symm)]at a;exact absurd f (l.none_ m a);rw[if_neg b,l c o];constructor;rintro⟨d,h,a,rfl,f⟩;by_cases e:d=i;subst e;rw[hi]at a;cases a;exact⟨d,s',by rw[List.getElem?_set_self k],rfl,(j c).2 (.inl f)⟩;exact⟨d,h,by rw[List.getElem?_set_ne (fun b=>e b.symm)];exact a,rfl,f⟩;rintro⟨d,h,a,rfl,f⟩;by_cases e:d=i;subst e;rw[List.getElem?_set_self k]at a;cases a;refine⟨d,s,hi,rfl,((j c).1 f).elim id fun n=>absurd n.symm b⟩;rw[List.getElem?_set_ne (fun b=>e b.symm)]at a;exact⟨d,h,a,rfl,f⟩}
theorem Inv.one(c:Inv F ts lg la ow un be){x:zk}{i:Nat}{s s':zd}{f:List (Int×Int)}(j:lg.length<6000)(hi:ts[i]?=some s)(o:¬(x.kind=7∨x.kind=8))(l:s'.no=s.no)(p:s'.values.length=F)(m:Lst s'.messages)(n:Lst s'.notes)(q:∀h,h∈s'.messages→h∉s'.notes)(v:s'.events=s.events+1)(k:Own (ts.set i s') f):
    Inv F (ts.set i s') (lg++[x]) (la.set i (lg.length:Int)) f (qh un ((i:Int)+1)) be:=by{
 have g:i<ts.length:=(List.getElem?_eq_some_iff.1 hi).1;have r:i<la.length:=by rw[c.lenA];exact g
 have t:=c.good i s hi
 refine c.step (fun b=>b=i) j (by rw[List.length_set];exact c.lenT) (by rw[List.length_set,List.length_set];exact c.lenA) (by rw[List.length_set];exact Nat.le_refl _) (by have:=c.lenB;omega)
  (fun b d a=>by rw[List.length_set]at a;omega) (fun b d a=>?_) (fun b d a=>?_) (fun b w d a=>?_) k (fun b _=>rfl) (fun b d a=>?_)
 refine⟨List.getElem?_set_ne (fun e=>a e.symm),List.getElem?_set_ne (fun e=>a e.symm),?_⟩;rw[qV,if_neg (by omega)];subst a;rw[List.getElem?_set_self r];subst d;rw[List.getElem?_set_self g]at a;cases a;exact⟨⟨l.trans t.1.no,p,m,n,q⟩,by omega,by omega⟩;subst a;exact .inr ⟨by rw[qV,if_pos rfl],fun u=>o u.2⟩}
end Go.Proofs.YtcnidlpginehjaaGreat.M
namespace Go.Proofs.YtcnidlpginehjaaGreat.M
open Go Go.Pu
set_option linter.unusedSimpArgs false
set_option linter.unusedVariables false
theorem zhb{R:Type}(l:List UInt8)(p:UInt8→Bool)(r:R)(B:Int→Option (Ctl Int R))(m:∀(k:Nat) a,l[k]?=some a→B (k:Int)=some (if p a=true then .rt r else .nx ((k:Int)+1)))(n:B (l.length:Int)=some (.bk (l.length:Int))):zbK B 0=some (if l.any p=true then .rt r else .fin (l.length:Int)):=by{
 obtain⟨j,o,rfl⟩:=zdr (body:=B) (fun f=>∃k:Nat,f=(k:Int)∧k≤l.length∧∀(b:Nat) a,b<k→l[b]?=some a→p a=false) (fun f=>l.length-f.toNat)
  (fun j=>j=(if l.any p=true then .rt r else .fin (l.length:Int))) (s:=0) ⟨0,rfl,Nat.zero_le _,fun b a g=>absurd g (Nat.not_lt_zero _)⟩
  (by
    rintro _⟨k,rfl,t,i⟩
    by_cases h:k<l.length
    · have c:l[k]?=some l[k]:=List.getElem?_eq_getElem h
      refine⟨_,m k _ c,?_⟩
      by_cases hp:p l[k]=true
      · rw[if_pos hp]
        show Lp.rt r=_
        rw[if_pos (List.any_eq_true.2 ⟨_,List.getElem_mem h,hp⟩)]
      · rw[if_neg hp]
        refine⟨⟨k+1,by omega,by omega,fun b a d e=>?_⟩,by simp only[Int.toNat_natCast];omega⟩
        rcases Nat.lt_or_eq_of_le (Nat.le_of_lt_succ d)with g|rfl
        · exact i b a g e
        · rw[c]at e
          cases e
          simpa using hp
    · have s:k=l.length:=by omega
      subst s
      refine⟨_,n,?_⟩
      show Lp.fin (l.length:Int)=_
      rw[if_neg]
      intro q
      obtain⟨a,c,hp⟩:=List.any_eq_true.1 q
      obtain⟨b,d⟩:=List.mem_iff_getElem?.1 c
      rw[i b a (List.getElem?_eq_some_iff.1 d).1 d]at hp
      cases hp)
 exact o}
theorem zjs(s:ByteArray):∃h,JL s=some h∧
    (if (decide ((200:Int)<(s.size:Int)))=true then some 4 else Option.bind (zay s false) fun j=>if j=true then some 9 else some 0)=some h:=by{
 unfold JL zay;by_cases e:(200:Int)<(s.size:Int);rw[if_pos (decide_eq_true e),if_pos (decide_eq_true e)];exact⟨4,rfl,rfl⟩;have g:¬(decide ((200:Int)<(s.size:Int)))=true:=by simpa using e
 rw[if_neg g,if_neg g];have k:s.data.toList.length=s.size:=rfl;have i:∀(a:Nat),a<s.size→w64 ((a:Int)+1)=(a:Int)+1:=fun a d=>Jy (by omega) (by omega)
 rw[zhb s.data.toList (fun b=>decide ((b.toNat:Int)<32)) (9:Int) _ (fun a b c=>by
  have d:a<s.size:=(List.getElem?_eq_some_iff.1 c).1
  simp only[decide_eq_true (show (a:Int)<(s.size:Int) by omega),if_true,zdh,c,Option.bind_some,i a d]
  split <;> rfl) (by
  have:¬(s.data.toList.length:Int)<(s.size:Int):=by omega
  simp only[decide_eq_false this,Bool.false_eq_true,if_false])]
 rw[zhb s.data.toList (fun b=>decide ((b.toNat:Int)<32)) true _ (fun a b c=>by
  have d:a<s.size:=(List.getElem?_eq_some_iff.1 c).1
  simp only[decide_eq_true (show (a:Int)<(s.size:Int) by omega),if_true,zdh,c,Option.bind_some,i a d,Bool.false_eq_true,if_false,Bool.not_false]
  by_cases f:(b.toNat:Int)<32
  simp only[decide_eq_true f,if_true,Option.bind_some]
  simp only[decide_eq_false f,Bool.false_eq_true,if_false,Option.bind_some]) (by
  have:¬(s.data.toList.length:Int)<(s.size:Int):=by omega
  simp only[decide_eq_false this,Bool.false_eq_true,if_false])]
 cases s.data.toList.any fun b=>decide ((b.toNat:Int)<32);exact⟨0,rfl,rfl⟩;exact⟨9,rfl,rfl⟩}
theorem ziE(v:zu):∃a,zaQ v=some (!a)∧zbc v=some a:=by{refine⟨_,?_,rfl⟩;unfold zaQ;simp only[bne];generalize (v.kind==0)=b;generalize e:(v.kind==3)=a;generalize (v.int==0)=c;generalize ZU v.text (⟨#[]⟩:ByteArray)=d;cases b <;> cases a <;> cases c <;> cases d <;> rfl}
theorem ziI(x:zS)(v:zu):∃b,Jz x v=some b∧jU x v=some b:=by{
 unfold Jz jU;obtain⟨c,m,n⟩:=ziE v;rw[m,n,Option.bind_some,Option.bind_some];cases c;exact⟨1,rfl,rfl⟩;simp only[Bool.not_true,Bool.false_eq_true,if_false];by_cases a:((v.kind != 0)&&(v.kind != x.kind))=true;rw[if_pos a,if_pos a];exact⟨10,rfl,rfl⟩;rw[if_neg a,if_neg a];have g:∀e c f,zV e c f=zF e c f:=fun _ _ _=>rfl;simp only[g]
 obtain⟨d,o⟩:∃d,(Option.bind (if (v.kind==1)=true then some (zF v.int 0 1) else Option.bind (if (v.kind==4)=true then some (zF v.int 0 (w64 ((x.options.length:Int)-1))) else Option.bind (if (v.kind==5)=true then some (zF v.int 0 3000000) else Option.bind (if (v.kind==6)=true then some (zF v.int 1 40) else Option.bind (if (v.kind==2)=true then some (zF v.int (-1000000000) 1000000000) else some true) fun h=>some h) fun i=>some i) fun j=>some j) fun k=>some k) fun l=>some l)=some d:=by
  repeat' (first | exact⟨_,rfl⟩ | split)
 simp only[o,Option.bind_some];cases d;exact⟨2,rfl,rfl⟩;simp only[Bool.not_true,Bool.false_eq_true,if_false];obtain⟨b,p,q⟩:=zjs v.text;rw[p];exact⟨b,rfl,q⟩}
theorem zjh(x:zk)(c:1≤x.kind∧x.kind≤10):∃a,zbr x=some a∧Ju x=some (if a=true then 0 else 1):=by{
 refine⟨_,rfl,?_⟩;unfold Ju zcp zF;rw[show (x.field != 0) = !(x.field==0) from rfl,show (x.to_ != 0) = !(x.to_==0) from rfl,show (x.message != 0) = !(x.message==0) from rfl];have b:x.kind=1∨x.kind=2∨x.kind=3∨x.kind=4∨x.kind=5∨x.kind=6∨x.kind=7∨x.kind=8∨x.kind=9∨x.kind=10:=by omega
 generalize (x.field==0)=d;generalize (x.to_==0)=a;generalize (x.message==0)=e;generalize (x.value.kind==0&&(x.value.int==0&&(ZU x.value.text ByteArray.empty)))=f;generalize x.kind=z at b c;rcases b with rfl|rfl|rfl|rfl|rfl|rfl|rfl|rfl|rfl|rfl <;> cases d <;> cases a <;> cases e <;> cases f <;> rfl}
theorem zil(a b:Int):JT a b=some (ju a b):=by{
 unfold JT ju;by_cases c:a=1;subst c;rfl;have g:(a==1)=false:=by simpa using c
 simp only[g,Bool.false_eq_true,if_false];by_cases d:a=2;subst d;simp only[BEq.rfl,if_true,Option.bind_some];congr 1;rw[Bool.eq_iff_iff];simp[zF,zV];omega;have h:(a==2)=false:=by simpa using d
 simp only[h,Bool.false_eq_true,if_false];by_cases e:a=3;subst e;simp only[BEq.rfl,if_true,Option.bind_some];congr 1;rw[Bool.eq_iff_iff];simp[zF,zV];omega;have i:(a==3)=false:=by simpa using e
 simp only[i,Bool.false_eq_true,if_false];by_cases f:a=4;subst f;simp only[BEq.rfl,if_true,Option.bind_some];congr 1;rw[Bool.eq_iff_iff];simp[zF,zV];omega;have j:(a==4)=false:=by simpa using f
 simp only[j,Bool.false_eq_true,if_false,Option.bind_some];split <;> rfl}
theorem jf{t:Int}{i:Nat}(a:t=(i:Int)+1)(hi:i<100000):w64 (t-1)=(i:Int):=by{rw[Jy (by omega) (by omega)];omega}
theorem tick{α:Type}{ts:List α}{t:Int}(d:zF t 1 (ts.length:Int)=true)(f:ts.length≤400):∃(i:Nat) (s:α),t=(i:Int)+1∧i<ts.length∧ts[i]?=some s∧w64 (t-1)=(i:Int)∧idx ts (w64 (t-1))=some s:=by{
 unfold zF at d;rw[Bool.and_eq_true,decide_eq_true_eq,decide_eq_true_eq]at d;have a:(t-1).toNat<ts.length:=by omega
 have e:t=((t-1).toNat:Int)+1:=by omega
 have b:=jf e (by omega);have c:ts[(t-1).toNat]?=some ts[(t-1).toNat]:=List.getElem?_eq_getElem a;exact⟨(t-1).toNat,_,e,a,c,b,by rw[b,zbg,c]⟩}
variable{F:Nat}{ts:List zd}{lg:List zk}{la:List Int}{ow:List (Int×Int)}{un:List (Int×zo)}{be:List zE}
theorem zjc(o:Inv F ts lg la ow un be)(form:zK)(a:Int):∃e,jy ⟨form,ts,lg,la,be⟩ a=some e∧decide ((0:Int)<e)=(zy ow a).isSome:=by{
 unfold jy
 obtain⟨p,x,y⟩:=zdA (R:=Int) (body:=fun w (_:Unit)=>Option.bind (idx ts (w:Int)) fun i=>Option.bind (qv i.messages a) fun r=>Option.bind (if r=true then (some true) else (Option.bind (qv i.notes a) fun s=>some s)) fun u=>if u=true then some (.rt i.no) else some (.nx ()))
  ts.length (fun c _=>∀(f:Nat) (d:zd),f<c→ts[f]?=some d→¬(a∈d.messages∨a∈d.notes)) (fun p=>(∃e,p=.rt e∧0<e∧(zy ow a).isSome=true)∨(p=.fin ()∧(zy ow a).isSome=false)) (s:=())
  (fun f d k=>absurd k (Nat.not_lt_zero _))
  (fun c _ q l=>by
    have m:ts[c]?=some ts[c]:=List.getElem?_eq_getElem q
    have z:qv ts[c].notes a=some (decide (a∈ts[c].notes)):=zcG _ _
    simp only[jD _ _ q,Option.bind_some,zcG]
    by_cases b:a∈ts[c].messages∨a∈ts[c].notes
    · have h:(if decide (a∈ts[c].messages)=true then some true else some (decide (a∈ts[c].notes)))=some true:=by
        rcases b with b|b
        · rw[if_pos (decide_eq_true b)]
        · rw[decide_eq_true b];split <;> rfl
      rw[h]
      refine⟨_,rfl,.inl ⟨_,rfl,?_,?_⟩⟩
      · rw[(o.good c _ m).1.no];omega
      · rw[(o.own a _).2 ⟨c,_,m,rfl,b⟩];rfl
    · have g:a∉ts[c].messages:=fun h=>b (.inl h)
      have n:a∉ts[c].notes:=fun h=>b (.inr h)
      rw[decide_eq_false g,decide_eq_false n]
      refine⟨_,rfl,fun f d k j=>?_⟩
      rcases Nat.lt_or_eq_of_le (Nat.le_of_lt_succ k)with v|rfl
      · exact l f d v j
      · rw[m]at j
        cases j
        exact b)
  (fun _ l=>.inr ⟨rfl,by
    cases hm:zy ow a with
    | none=>rfl
    | some t =>
      obtain⟨f,d,b,_,n⟩:=(o.own a t).1 hm
      exact absurd n (l f d (List.getElem?_eq_some_iff.1 b).1 b)⟩)
 rw[x];rcases y with ⟨e,rfl,b,g⟩|⟨rfl,g⟩;exact⟨e,rfl,by rw[g,decide_eq_true b]⟩;exact⟨0,rfl,by rw[g];rfl⟩}
end Go.Proofs.YtcnidlpginehjaaGreat.M
namespace Go.Proofs.YtcnidlpginehjaaGreat.M
open Go Go.Pu
set_option linter.unusedSimpArgs false
set_option linter.unusedVariables false
variable{F:Nat}{ts:List zd}{lg:List zk}{la:List Int}{ow:List (Int×Int)}{un:List (Int×zo)}{be:List zE}
theorem zgL:zV=zF:=rfl
theorem zhl{form:zK}(d:form.fields.length≤20){k:Int}(a:zF k 0 (w64 ((form.fields.length:Int)-1))=true):0≤k∧k<form.fields.length∧∃b,idx form.fields k=some b:=by{rw[Jy (by omega) (by omega)]at a;unfold zF at a;rw[Bool.and_eq_true,decide_eq_true_eq,decide_eq_true_eq]at a;refine⟨a.1,by omega,?_⟩;obtain⟨b,c,_⟩:=zfT (l:=form.fields) a.1 (by omega);exact⟨b,c⟩}
theorem zjH(form:zK)(c:form.fields.length≤20)(oth:Int)(s:zd)(x:zk):
    ∃b,jI ⟨form,lg,ts,⟨ow⟩,la,⟨un⟩,oth⟩ s x=some b∧QR ⟨form,ts,lg,la,be⟩ s x=some b∧(b=0→0≤x.field∧x.field<form.fields.length):=by{unfold jI QR;rw[zgL];dsimp only;by_cases a:(!(zF x.field 0 (w64 ((form.fields.length:Int)-1))))=true;rw[if_pos a,if_pos a];exact⟨7,rfl,rfl,fun i=>by cases i⟩;rw[if_neg a,if_neg a];obtain⟨d,e,j,f⟩:=zhl c (k:=x.field) (by simpa using a);obtain⟨b,g,h⟩:=ziI j x.value;rw[f];simp only[Option.bind_some,g,h];repeat' (first | exact⟨_,rfl,rfl,fun _=>⟨d,e⟩⟩ | split)}
theorem ziv(form:zK)(oth:Int)(s:zd)(x:zk)(l:s.values.length=form.fields.length):
    ∃d,jt ⟨form,lg,ts,⟨ow⟩,la,⟨un⟩,oth⟩ s x=some d∧QI ⟨form,ts,lg,la,be⟩ s x=some d:=by{
 unfold jt QI;rw[zgL];dsimp only;simp only[zil,Option.bind_some]
 have g:((x.who==0)&&((s.status != 5)||(x.to_ != 2)))=((x.who==0)&&(!((s.status==5)&&(x.to_==2)))):=by
  simp only[bne,Bool.not_and]
 rw[g]
 obtain⟨a,h,i⟩:=zdA (R:=Int) (body:=fun b (_:Unit)=>Option.bind (idx form.fields (b:Int)) fun c=>Option.bind (if ((c.needs != 0)&&(decide (c.needs≤x.to_)))=true then (Option.bind (idx s.values (b:Int)) fun e=>some (e.kind==0)) else (some false)) fun f=>if f=true then some (.rt 1) else some (.nx ()))
  form.fields.length (fun _ _=>True) (fun a=>a=.rt 1∨a=.fin ()) (s:=()) trivial
  (fun k _ j _=>by
    simp only[jD _ _ j,jD s.values k (by omega),Option.bind_some]
    split
    · rw[Option.bind_some]
      split
      · exact⟨_,rfl,.inl rfl⟩
      · exact⟨_,rfl,trivial⟩
    · exact⟨_,rfl,trivial⟩) (fun _ _=>.inr rfl)
 rw[h];rcases i with rfl|rfl;all_goals repeat' (first | exact⟨_,rfl,rfl⟩ | split)}
theorem zie(c:Inv F ts lg la ow un be)(form:zK)(oth:Int)(s:zd)(x:zk){i:Nat}(hi:x.ticket=(i:Int)+1):
    ∃d,jd ⟨form,lg,ts,⟨ow⟩,la,⟨un⟩,oth⟩ s x=some d∧QC ⟨form,ts,lg,la,be⟩ s x=some d∧
      (d=0→∃(j:Nat) (t:zd),ts[j]?=some t∧x.to_=(j:Int)+1∧j≠i):=by{
 unfold jd QC jl jX;rw[zgL];dsimp only;simp only[Option.bind_some];by_cases a:(!(zF x.to_ 1 (ts.length:Int)))=true;rw[if_pos a,if_pos a];exact⟨7,rfl,rfl,fun c=>by cases c⟩;rw[if_neg a,if_neg a];obtain⟨j,t,e,m,h,n,k⟩:=tick (by simpa using a) c.lenT;rw[k];simp only[Option.bind_some];by_cases b:(x.to_==x.ticket)=true;rw[if_pos b,if_pos b];exact⟨13,rfl,rfl,fun c=>by cases c⟩;rw[if_neg b,if_neg b]
 have g:j≠i:=by
  rintro rfl
  exact b (by rw[e,hi];simp)
 have f:∃(j:Nat) (t:zd),ts[j]?=some t∧x.to_=(j:Int)+1∧j≠i:=⟨j,t,h,e,g⟩
 have l:(if (s.status==6)=true then some true else some (t.status==6))=some ((s.status==6)||(t.status==6)):=by
  cases (s.status==6) <;> rfl
 rw[l];simp only[Option.bind_some];repeat' (first | exact⟨_,rfl,rfl,fun _=>f⟩ | split)}
theorem ziP(a:Inv F ts lg la ow un be)(form:zK)(oth:Int)(s:zd)(x:zk):
    ∃f,js ⟨form,lg,ts,⟨ow⟩,la,⟨un⟩,oth⟩ s x=some f∧QH ⟨form,ts,lg,la,be⟩ s x=some f∧
      (f=0→ts.length<400∧x.to_=(ts.length:Int)+1∧x.message∈s.messages):=by{
 unfold js QH;dsimp only;have j:=a.lenT;have h:w64 ((ts.length:Int)+1)=(ts.length:Int)+1:=Jy (by omega) (by omega);rw[h,zeE,zcG];simp only[Option.bind_some];by_cases d:(decide ((400:Int)≤(ts.length:Int)))=true;rw[if_pos d];exact⟨16,rfl,rfl,fun a=>by cases a⟩;rw[if_neg d];by_cases e:(x.to_ != (ts.length:Int)+1)=true;rw[if_pos e];exact⟨5,rfl,rfl,fun a=>by cases a⟩;rw[if_neg e];by_cases b:x.message∈s.messages;rotate_left;rw[decide_eq_false b];exact⟨7,rfl,rfl,fun a=>by cases a⟩;rw[decide_eq_true b]
 obtain⟨c,i⟩:∃c,idx s.messages 0=some c:=by
  cases hm:s.messages with
  | nil=>rw[hm]at b;simp at b
  | cons c l=>exact⟨c,rfl⟩
 rw[i];simp only[Bool.not_true,Bool.false_eq_true,if_false,Option.bind_some];have g:ts.length<400∧x.to_=(ts.length:Int)+1∧x.message∈s.messages:=⟨by simp at d;omega,by simpa using e,b⟩;repeat' (first | exact⟨_,rfl,rfl,fun _=>g⟩ | split)}
def zeY(ts:List zd)(lg:List zk)(la:List Int)(un:List (Int×zo))(be:List zE)(i:Nat):Prop :=
  ∃(k:Nat) (y:zk) (u:zo) (j:Nat) (s t:zd),la[i]?=some (k:Int)∧lg[k]?=some y∧zy un ((i:Int)+1)=some u∧y.ticket=(i:Int)+1∧(y.kind=7∨y.kind=8)∧y.to_=(j:Int)+1∧j≠i∧u.other=(j:Int)+1∧u.kind=y.kind∧
    Sm (JE be k).one u.before∧(u.kind=7→Sm (JE be k).other u.to_)∧ts[i]?=some s∧ts[j]?=some t∧Back u s t
theorem zik(c:Inv F ts lg la ow un be)(form:zK)(oth:Int)(x:zk){i:Nat}(hi:x.ticket=(i:Int)+1)(z:i<ts.length):
    ∃a,ja ⟨form,lg,ts,⟨ow⟩,la,⟨un⟩,oth⟩ x=some a∧QD ⟨form,ts,lg,la,be⟩ x=some a∧(a=0→zeY ts lg la un be i):=by{
 unfold ja QD;dsimp only;by_cases g:(x.who==0)=true;rw[if_pos g,if_pos g];exact⟨12,rfl,rfl,fun c=>by cases c⟩;rw[if_neg g,if_neg g];have Q:=c.lenT;obtain⟨f,b,o,p,A⟩:=c.und i z;have B:=jf hi (by omega);have D:idx la (w64 (x.ticket-1))=some (f:Int):=by rw[B,zbg,o]
 have E:idx lg (f:Int)=some b:=by rw[zbg,p]
 rw[D];simp only[Option.bind_some,E];rcases A with ⟨N,d,h,e,q,r,G,H,I,s,J,t,u,v⟩|⟨h,e⟩;rw[hi,h,e]
 have m:((((i:Int)+1) != ((i:Int)+1))||((b.kind != 7)&&(b.kind != 8)))=false:=by
  rcases q with a|a <;> rw[a] <;> simp
 rw[m];simp only[Option.isSome_some,Bool.not_true,Bool.false_eq_true,if_false,Option.getD_some,s,I];have w:w64 ((d:Int)+1-1)=(d:Int):=jf rfl (by omega);rw[r,w];have n:d<la.length:=by rw[c.lenA];exact G
 rw[jD _ _ n];simp only[Option.bind_some];by_cases j:(la[d] != (f:Int))=true;rw[if_pos j];exact⟨11,rfl,rfl,fun c=>by cases c⟩;rw[if_neg j]
 have y:la[d]?=some (f:Int):=by
  rw[List.getElem?_eq_getElem n]
  congr 1
  simpa using j
 obtain⟨O,P,K,L,M⟩:=v y;exact⟨0,rfl,rfl,fun _=>⟨f,b,N,d,O,P,o,p,h,e,q,r,H,s,J,t,u,K,L,M⟩⟩;rw[hi,h]
 have m:((b.ticket != ((i:Int)+1))||((b.kind != 7)&&(b.kind != 8)))=true:=by
  by_cases a:b.ticket=(i:Int)+1
  have k:b.kind≠7:=fun k=>e ⟨a,.inl k⟩
  have l:b.kind≠8:=fun l=>e ⟨a,.inr l⟩
  simp[k,l]
  simp[a]
 rw[m];exact⟨7,rfl,rfl,fun c=>by cases c⟩}
def Fine(F:Nat)(ts:List zd)(lg:List zk)(la:List Int)(ow:List (Int×Int))(un:List (Int×zo))(be:List zE)(x:zk):Prop :=
  lg.length<6000∧((x.kind=1∧ts.length<400∧x.ticket=(ts.length:Int)+1)∨
    ∃(i:Nat) (s:zd),ts[i]?=some s∧x.ticket=(i:Int)+1∧
      (((x.kind=2∨x.kind=3)∧(1≤x.message∧x.message≤1000)∧zy ow x.message=none)∨(x.kind=4∧0≤x.field∧x.field<F)∨x.kind=5∨x.kind=6∨
       (x.kind=7∧∃(j:Nat) (t:zd),ts[j]?=some t∧x.to_=(j:Int)+1∧j≠i)∨(x.kind=8∧ts.length<400∧x.to_=(ts.length:Int)+1∧x.message∈s.messages)∨
       (x.kind=9∧zeY ts lg la un be i)∨(x.kind=10∧(x.message=0→0≤x.field∧x.field<F))))
theorem ziK(a:Inv F ts lg la ow un be)(form:zK)(H:form.fields.length=F)(a7:F≤20)(oth:Int)(x:zk):
    ∃d,qX ⟨form,lg,ts,⟨ow⟩,la,⟨un⟩,oth⟩ x=some d∧qx ⟨form,ts,lg,la,be⟩ x=some d∧(d=0→Fine F ts lg la ow un be x):=by
  have Q:=a.lenT
  have a8:=a.lenL
  unfold qX qx jm jX jl
  rw[zgL]
  dsimp only
  by_cases o:(decide ((6000:Int)≤(lg.length:Int)))=true
  · rw[if_pos o,if_pos o]
    exact⟨16,rfl,rfl,fun a=>by cases a⟩
  rw[if_neg o,if_neg o]
  have G:lg.length<6000:=by simp at o;omega
  by_cases s:(!(zF x.kind 1 10))=true
  · have:Ju x=some 10:=by unfold Ju;rw[if_pos s]
    rw[this,if_pos s]
    exact⟨10,rfl,rfl,fun a=>by cases a⟩
  rw[if_neg s]
  have O:1≤x.kind∧x.kind≤10:=by
    simpa [zF]using s
  obtain⟨a5,p,R⟩:=zjh x O
  rw[p,R]
  simp only[Option.bind_some]
  cases a5
  · exact⟨1,rfl,rfl,fun a=>by cases a⟩
  rw[if_neg (show ¬(((if true=true then (0:Int) else 1) != 0)=true) by decide),if_neg (show ¬((!true)=true) by decide)]
  by_cases t:((!(zF x.at_ 0 3000000))||(!(zF x.who (-1) 40)))=true
  · rw[if_pos t,if_pos t]
    exact⟨2,rfl,rfl,fun a=>by cases a⟩
  rw[if_neg t,if_neg t]
  obtain⟨D,S⟩:∃D,(if (decide ((0:Int)<(lg.length:Int)))=true then (Option.bind (idx lg (w64 ((lg.length:Int)-1))) fun P=>some (decide (x.at_<P.at_))) else (some false))=some D:=by
    by_cases I:(0:Int)<(lg.length:Int)
    · rw[if_pos (decide_eq_true I),Jy (by omega) (by omega)]
      obtain⟨b0,T,_⟩:=zfT (l:=lg) (i:=(lg.length:Int)-1) (by omega) (by omega)
      rw[T]
      exact⟨_,rfl⟩
    · rw[decide_eq_false I]
      exact⟨_,rfl⟩
  simp only[S,Option.bind_some]
  cases D
  rotate_left
  · exact⟨5,rfl,rfl,fun a=>by cases a⟩
  simp only[Bool.false_eq_true,if_false]
  by_cases w:x.kind=1
  · simp only[w,BEq.rfl,if_true]
    have U:w64 ((ts.length:Int)+1)=(ts.length:Int)+1:=Jy (by omega) (by omega)
    rw[U]
    by_cases y:(decide ((400:Int)≤(ts.length:Int)))=true
    · rw[if_pos y]
      exact⟨16,rfl,rfl,fun a=>by cases a⟩
    rw[if_neg y]
    by_cases z:(x.ticket != (ts.length:Int)+1)=true
    · rw[if_pos z]
      exact⟨5,rfl,rfl,fun a=>by cases a⟩
    rw[if_neg z]
    have n:Fine F ts lg la ow un be x:=⟨G,.inl ⟨w,by simp at y;omega,by simpa using z⟩⟩
    by_cases J:(!(zF x.to_ 1 4))=true
    · rw[if_pos J]
      exact⟨2,rfl,rfl,fun a=>by cases a⟩
    · rw[if_neg J]
      exact⟨0,rfl,rfl,fun _=>n⟩
  have W:(x.kind==1)=false:=by simpa using w
  simp only[W,Bool.false_eq_true,if_false,Option.bind_some]
  by_cases q:(!(zF x.ticket 1 (ts.length:Int)))=true
  · rw[if_pos q,if_pos q]
    exact⟨7,rfl,rfl,fun a=>by cases a⟩
  rw[if_neg q,if_neg q]
  obtain⟨v,g,A,X,K,a9,Z⟩:=tick (by simpa using q) Q
  rw[Z]
  simp only[Option.bind_some]
  have a0:=(a.good v g K).1
  by_cases u:(((g.into != 0)&&(x.kind != 10))&&(x.kind != 9))=true
  · rw[if_pos u,if_pos u]
    exact⟨11,rfl,rfl,fun a=>by cases a⟩
  rw[if_neg u,if_neg u]
  have i:∀{L:Prop},L→(L→(((x.kind=2∨x.kind=3)∧(1≤x.message∧x.message≤1000)∧zy ow x.message=none)∨(x.kind=4∧0≤x.field∧x.field<F)∨x.kind=5∨x.kind=6∨
       (x.kind=7∧∃(E:Nat) (M:zd),ts[E]?=some M∧x.to_=(E:Int)+1∧E≠v)∨(x.kind=8∧ts.length<400∧x.to_=(ts.length:Int)+1∧x.message∈g.messages)∨
       (x.kind=9∧zeY ts lg la un be v)∨(x.kind=10∧(x.message=0→0≤x.field∧x.field<F))))→Fine F ts lg la ow un be x:=fun f a6=>⟨G,.inr ⟨v,g,K,A,a6 f⟩⟩
  have N:(x.kind=2∨x.kind=3)∨x.kind=4∨x.kind=5∨x.kind=6∨x.kind=7∨x.kind=8∨x.kind=9∨x.kind=10:=by omega
  rcases N with b|b|b|b|b|b|b|b
  · -- Said, Noted
    have a1:(if (x.kind==2)=true then some (x.kind==2) else some (x.kind==3))=some true:=by
      rcases b with d|d <;> rw[d] <;> rfl
    obtain⟨b1,a2,a3⟩:=zjc a form x.message
    simp only[a1,Option.bind_some,if_true,a2,a3,jM]
    by_cases e:(!(zF x.message 1 1000))=true
    · rw[if_pos e,if_pos e]
      exact⟨2,rfl,rfl,fun a=>by cases a⟩
    rw[if_neg e,if_neg e]
    by_cases c:(zy ow x.message).isSome=true
    · rw[if_pos c,if_pos c]
      exact⟨6,rfl,rfl,fun a=>by cases a⟩
    rw[if_neg c,if_neg c]
    by_cases h:((x.kind==3)&&(x.who==0))=true
    · rw[if_pos h,if_pos h]
      exact⟨12,rfl,rfl,fun a=>by cases a⟩
    rw[if_neg h,if_neg h]
    refine⟨0,rfl,rfl,fun _=>i trivial fun _=>.inl ⟨b,by simpa [zF]using e,?_⟩⟩
    cases hm:zy ow x.message with
    | none=>rfl
    | some M=>rw[hm]at c;simp at c
  · obtain⟨d,j,k,l⟩:=zjH (lg:=lg) (ts:=ts) (ow:=ow) (la:=la) (un:=un) (be:=be) form (by omega) oth g x
    simp only[b,Int.reduceBEq,Bool.false_eq_true,if_false,if_true,Option.bind_some,j,k,Lp.andThen_rt]
    exact⟨d,rfl,rfl,fun m=>i (l m) fun f=>.inr (.inl ⟨b,f.1,by rw[← H];exact f.2⟩)⟩
  · obtain⟨d,j,k⟩:=ziv (lg:=lg) (ts:=ts) (ow:=ow) (la:=la) (un:=un) (be:=be) form oth g x (by rw[a0.vals,H])
    simp only[b,Int.reduceBEq,Bool.false_eq_true,if_false,if_true,Option.bind_some,j,k,Lp.andThen_rt]
    exact⟨d,rfl,rfl,fun _=>i trivial fun _=>.inr (.inr (.inl b))⟩
  · simp only[b,Int.reduceBEq,Bool.false_eq_true,if_false,if_true,Option.bind_some,JB]
    have n:Fine F ts lg la ow un be x:=i trivial fun _=>.inr (.inr (.inr (.inl b)))
    by_cases e:(!(zF x.to_ 0 40))=true
    · rw[if_pos e,if_pos e]
      exact⟨2,rfl,rfl,fun a=>by cases a⟩
    rw[if_neg e,if_neg e]
    by_cases c:(x.who==0)=true
    · rw[if_pos c,if_pos c]
      exact⟨12,rfl,rfl,fun a=>by cases a⟩
    rw[if_neg c,if_neg c]
    have a4:(g.person==x.to_)=(x.to_==g.person):=BEq.comm
    rw[a4]
    by_cases h:(x.to_==g.person)=true
    · rw[if_pos h,if_pos h]
      exact⟨6,rfl,rfl,fun a=>by cases a⟩
    · rw[if_neg h,if_neg h]
      exact⟨0,rfl,rfl,fun _=>n⟩
  · obtain⟨d,j,k,l⟩:=zie a form oth g x A
    simp only[b,Int.reduceBEq,Bool.false_eq_true,if_false,if_true,Option.bind_some,j,k,Lp.andThen_rt]
    exact⟨d,rfl,rfl,fun m=>i (l m) fun f=>.inr (.inr (.inr (.inr (.inl ⟨b,f⟩))))⟩
  · obtain⟨d,j,k,l⟩:=ziP a form oth g x
    simp only[b,Int.reduceBEq,Bool.false_eq_true,if_false,if_true,Option.bind_some,j,k,Lp.andThen_rt]
    exact⟨d,rfl,rfl,fun m=>i (l m) fun f=>.inr (.inr (.inr (.inr (.inr (.inl ⟨b,f⟩)))))⟩
  · obtain⟨d,j,k,l⟩:=zik a form oth x A X
    simp only[b,Int.reduceBEq,Bool.false_eq_true,if_false,if_true,Option.bind_some,j,k,Lp.andThen_rt]
    exact⟨d,rfl,rfl,fun m=>i (l m) fun f=>.inr (.inr (.inr (.inr (.inr (.inr (.inl ⟨b,f⟩))))))⟩
  · simp only[b,Int.reduceBEq,Bool.false_eq_true,if_false,if_true,Option.bind_some,jS]
    by_cases e:(x.who==0)=true
    · rw[if_pos e,if_pos e]
      exact⟨12,rfl,rfl,fun a=>by cases a⟩
    rw[if_neg e,if_neg e]
    by_cases r:x.message=0
    · have B:(x.message==0)=true:=by rw[r];rfl
      have p:(x.message != 0)=false:=by rw[r];rfl
      simp only[B,p,Bool.true_and,Bool.false_eq_true,if_false,Option.bind_some]
      by_cases c:(!(zF x.field 0 (w64 ((form.fields.length:Int)-1))))=true
      · rw[if_pos c,if_pos c]
        exact⟨7,rfl,rfl,fun a=>by cases a⟩
      · rw[if_neg c,if_neg c]
        have f:=zhl (form:=form) (by omega) (k:=x.field) (by simpa using c)
        exact⟨0,rfl,rfl,fun _=>i f fun f=>.inr (.inr (.inr (.inr (.inr (.inr (.inr ⟨b,fun _=>⟨f.1,by omega⟩⟩))))))⟩
    · have B:(x.message==0)=false:=by simpa using r
      have p:(x.message != 0)=true:=by simpa using r
      simp only[B,p,Bool.false_and,Bool.false_eq_true,if_false,if_true,zeE,zcG,Option.bind_some]
      have n:Fine F ts lg la ow un be x:=i trivial fun _=>.inr (.inr (.inr (.inr (.inr (.inr (.inr ⟨b,fun d=>absurd d r⟩))))))
      by_cases c:x.message∈g.messages
      · rw[decide_eq_true c]
        exact⟨0,rfl,rfl,fun _=>n⟩
      · rw[decide_eq_false c]
        by_cases h:x.message∈g.notes
        · rw[decide_eq_true h]
          exact⟨0,rfl,rfl,fun _=>n⟩
        · rw[decide_eq_false h]
          exact⟨7,rfl,rfl,fun a=>by cases a⟩
end Go.Proofs.YtcnidlpginehjaaGreat.M
