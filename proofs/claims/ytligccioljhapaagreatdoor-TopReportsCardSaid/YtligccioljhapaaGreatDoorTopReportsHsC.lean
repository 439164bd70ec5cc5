import Derived.Test.YtligccioljhapaaGreatDoorTopReportsHsB
namespace Go.Proofs.YtligccioljhapaaGreatDoor.M
open Go Go.Pu
set_option linter.unusedSimpArgs false
set_option linter.unusedVariables false
variable{F:Nat}{form:zr}{ts:List za}{lg:List zk}{la:List Int}{ow:List (Int×Int)}{un:List (Int×zl)}{be:List zL}{oth:Int}
theorem zav{α:Type}{l:List α}{i:Nat}{a:α}(b:i<l.length):idx (l.set i a) (i:Int)=some a:=by rw[Jm,List.getElem?_set_self b]
theorem ZV{α:Type}{l:List α}{i:Nat}{a:α}(b:i<l.length):setI l (i:Int) a=some (l.set i a):=by rw[setI,if_pos (by simp only[Int.toNat_natCast];omega),Int.toNat_natCast]
theorem ZW{α:Type}{l:List α}{i:Nat}{a:α}(b:l[i]?=some a):idx l (i:Int)=some a:=by rw[Jm,b]
theorem JU{α:Type}{l:List α}{i:Nat}{a:α}(b:l[i]?=some a):i<l.length:=(List.getElem?_eq_some_iff.1 b).1
theorem ziV{α:Type}{l:List α}{i:Nat}{a:α}(c:l[i]?=some a):l.set i a=l:=by{obtain⟨b,rfl⟩:=List.getElem?_eq_some_iff.1 c;exact zjq b}
theorem jp{α:Type}{l:List α}{a:α}{n:Nat}(b:l.length<n):zE n l [a]=some (l++[a]):=by unfold zE;rw[if_pos (by simp;omega)]
def tch(s:za)(a:Int):za:=⟨s.no,s.opened,a,s.status,s.priority,s.person,s.into,s.from_,s.values,s.messages,s.notes,s.events+1⟩
theorem zbw{i:Nat}{s:za}{t k a:Int}(d:ts[i]?=some s)(j:la.length=ts.length)(e:t=(i:Int)+1)(l:ts.length≤401)(h:0≤s.events∧s.events≤10000):
  qY ⟨form,lg,ts,⟨ow⟩,la,⟨un⟩,oth⟩ t k a=some ⟨form,lg,ts.set i (tch s a),⟨ow⟩,la.set i k,⟨ZA un t⟩,oth⟩:=by{
 have b:=JU d;have f:w64 (t-1)=(i:Int):=QD e (by omega);have g:w64 (s.events+1)=s.events+1:=ZB (by omega) (by omega);have c:i<la.length:=by omega
 unfold qY;simp only[f,ZW d,Option.bind_some,ZV b,zav b,g,List.set_set];rw[ZV (by rw[List.length_set];exact b),Option.bind_some,ZP _ _ c,Option.bind_some,ZV c,Option.bind_some,List.set_set];rfl}
theorem zcd{i:Nat}{s:za}{t k a:Int}(d:ts[i]?=some s)(j:la.length=ts.length)(e:t=(i:Int)+1)(l:ts.length≤401)(h:0≤s.events∧s.events≤10000):
  Zq ⟨form,ts,lg,la,be⟩ t k a=some ⟨form,ts.set i (tch s a),lg,la.set i k,be⟩:=by{
 have b:=JU d;have f:w64 (t-1)=(i:Int):=QD e (by omega);have g:w64 (s.events+1)=s.events+1:=ZB (by omega) (by omega);have c:i<la.length:=by omega
 unfold Zq;simp only[f,ZW d,Option.bind_some,ZV b,zav b,g,List.set_set,ZP _ _ c,ZV c];rw[ZV (by rw[List.length_set];exact b),Option.bind_some,List.set_set];rfl}
theorem zcG{t:Int}{l ms:List Int}(i:l.length≤1000)(j:ms.length≤1000):
  ZG ⟨form,lg,ts,⟨ow⟩,la,⟨un⟩,oth⟩ t l ms=some (srt (l++ms),⟨form,lg,ts,⟨puts ow ms t⟩,la,⟨un⟩,oth⟩):=by{
 unfold ZG;have g:zE 17592186044416 l ms=some (l++ms):=by unfold zE;rw[if_pos (by omega)]
 rw[zeu (by omega),Option.bind_some,g,Option.bind_some]
 obtain⟨b,f,rfl⟩:=qb (R:=List Int×ticket_Desk) (b:=fun d (a:ticket_Desk)=>Option.bind (idx ms (d:Int)) fun e=>some (.nx (⟨a.form,a.log,a.tickets,⟨(Qt a.owners.l e t)⟩,a.last,⟨a.undo.l⟩,a.other⟩:ticket_Desk)))
  ms.length (fun k b=>b=⟨form,lg,ts,⟨puts ow (ms.take k) t⟩,la,⟨un⟩,oth⟩) (s:=⟨form,lg,ts,⟨ow⟩,la,⟨un⟩,oth⟩) rfl
  (fun k b c h=>by
   subst h
   rw[ZP _ _ c]
   refine⟨_,rfl,?_⟩
   dsimp only
   rw[List.take_add_one,List.getElem?_eq_getElem c]
   unfold puts
   rw[List.foldl_append]
   rfl)
 rw[f,Option.bind_some,Lp.andThen_fin,List.take_length,zcX,if_pos (by simp;omega)];rfl}
theorem zeW{i:Nat}{s:za}(b:ts[i]?=some s)(m:s.messages.length+s.notes.length≤2000):
  qE ⟨form,lg,ts,⟨ow⟩,la,⟨un⟩,oth⟩ (i:Int)=some ⟨form,lg,ts.set i ⟨s.no,s.opened,s.changed,s.status,s.priority,s.person,s.into,s.from_,s.values, [], [],s.events⟩,⟨dels ow (s.messages++s.notes)⟩,la,⟨un⟩,oth⟩:=by{
 have c:=JU b;unfold qE;dsimp only;rw[ZW b,Option.bind_some,zkJ (by omega),Option.bind_some];generalize s.messages++s.notes=d
 obtain⟨e,j,rfl⟩:=qb (R:=ticket_Desk) (b:=fun g (a:ticket_Desk)=>Option.bind (idx d (g:Int)) fun h=>some (.nx (⟨a.form,a.log,a.tickets,⟨(ZA a.owners.l h)⟩,a.last,⟨a.undo.l⟩,a.other⟩:ticket_Desk)))
  d.length (fun k e=>e=⟨form,lg,ts,⟨dels ow (d.take k)⟩,la,⟨un⟩,oth⟩) (s:=⟨form,lg,ts,⟨ow⟩,la,⟨un⟩,oth⟩) rfl
  (fun k e f l=>by
   subst l
   rw[ZP _ _ f]
   refine⟨_,rfl,?_⟩
   dsimp only
   rw[List.take_add_one,List.getElem?_eq_getElem f]
   unfold dels
   rw[List.foldl_append]
   rfl)
 rw[j,Option.bind_some,Lp.andThen_fin,List.take_length];simp only[ZW b,Option.bind_some,ZV c,zav c];rw[ZV (by rw[List.length_set];exact c),Option.bind_some,List.set_set]}
def sayS(x:zk)(st:Int):Int:=if (((x.who==0)&&((st==3)||(st==5)))||((decide ((0:Int)<x.who))&&(st==1)))=true then 2 else st
theorem zmL{i:Nat}{s:za}{x:zk}(b:ts[i]?=some s)(d:s.messages.length≤1000):
  zae ⟨form,lg,ts,⟨ow⟩,la,⟨un⟩,oth⟩ (i:Int) x=some ⟨form,lg,ts.set i ⟨s.no,s.opened,s.changed,sayS x s.status,s.priority,s.person,s.into,s.from_,s.values,srt (s.messages++[x.message]),s.notes,s.events⟩,⟨Qt ow x.message s.no⟩,la,⟨un⟩,oth⟩:=by{have c:=JU b;unfold zae;dsimp only;rw[ZW b,Option.bind_some,zcG d (by simp),Option.bind_some];simp only[ZW b,Option.bind_some,ZV c,zav c];unfold sayS;by_cases a:(((x.who==0)&&((s.status==3)||(s.status==5)))||((decide ((0:Int)<x.who))&&(s.status==1)))=true;rw[if_pos a,if_pos a,ZV (by rw[List.length_set];exact c),Option.bind_some,List.set_set];rfl;rw[if_neg a,if_neg a];rfl}
end Go.Proofs.YtligccioljhapaaGreatDoor.M
namespace Go.Proofs.YtligccioljhapaaGreatDoor.M
open Go Go.Pu
set_option linter.unusedSimpArgs false
set_option linter.unusedVariables false
variable{F:Nat}{form:zr}{ts:List za}{lg:List zk}{la:List Int}{ow:List (Int×Int)}{un:List (Int×zl)}{be:List zL}{oth:Int}{x:zk}
def Tch(lg:List zk)(la:List Int)(x:zk)(i:Nat):Prop :=
 x.ticket=(i:Int)+1∨((x.kind=7∨x.kind=8)∧x.to_=(i:Int)+1)∨(x.kind=9∧∃(t k:Nat) (y:zk),x.ticket=(t:Int)+1∧la[t]?=some (k:Int)∧lg[k]?=some y∧y.to_=(i:Int)+1)
def evs(ts:List za)(i:Nat):Int:=match ts[i]? with|some s=>s.events|none=>0
structure Done(F:Nat)(ts:List za)(lg:List zk)(la:List Int)(x:zk)(ts':List za)(la':List Int)(ow':List (Int×Int))(un':List (Int×zl))(be':List zL):Prop where
 inv:Inv F ts' (lg++[x]) la' ow' un' be'
 len:ts.length≤ts'.length
 tin:∀i:Nat,Tch lg la x i→i<ts'.length
 new:∀i:Nat,ts.length≤i→i<ts'.length→Tch lg la x i
 out:∀i:Nat,¬Tch lg la x i→i<ts.length→ts'[i]?=ts[i]?∧la'[i]?=la[i]?
 ev:∀(i:Nat) (s':za),Tch lg la x i→ts'[i]?=some s'→la'[i]?=some (lg.length:Int)∧s'.events=evs ts i+1
 nine:x.kind=9→∃(t k:Nat) (y:zk),x.ticket=(t:Int)+1∧la[t]?=some (k:Int)∧lg[k]?=some y∧y.ticket=x.ticket∧(y.kind=7∨y.kind=8)
def zgg(F:Nat)(form:zr)(ts:List za)(lg:List zk)(la:List Int)(ow:List (Int×Int))(un:List (Int×zl))(be:List zL)(oth:Int)(x:zk):Prop :=
 ∃(ts':List za) (la':List Int) (ow':List (Int×Int)) (un':List (Int×zl)) (be':List zL) (oth':Int),
  zU ⟨form,lg,ts,⟨ow⟩,la,⟨un⟩,oth⟩ x=some (0,⟨form,lg++[x],ts',⟨ow'⟩,la',⟨un'⟩,oth'⟩)∧ZS ⟨form,ts,lg,la,be⟩ x=some (0,⟨form,ts',lg++[x],la',be'⟩)∧
  Done F ts lg la x ts' la' ow' un' be'
theorem zbX(m:Inv F ts lg la ow un be)(o:lg.length<6000){i:Nat}{s s':za}{f:List (Int×Int)}(hi:ts[i]?=some s)(h:x.ticket=(i:Int)+1)(j:¬(x.kind=7∨x.kind=8))(l:x.kind≠9)(q:s'.no=s.no)(u:s'.values.length=F)(r:Lst s'.messages)(t:Lst s'.notes)(v:∀n,n∈s'.messages→n∉s'.notes)(g:s'.events=s.events+1)(p:Own (ts.set i s') f):
  Done F ts lg la x (ts.set i s') (la.set i (lg.length:Int)) f (ZA un x.ticket) be:=by{
 have d:=JU hi
 have e:∀k:Nat,Tch lg la x k↔k=i:=by
  intro k
  unfold Tch
  constructor
  rintro (a | a | a)
  omega
  exact absurd a.1 j
  exact absurd a.1 l
  rintro rfl
  exact .inl h
 have w:i<la.length:=by rw[m.lenA];exact d
 refine⟨by rw[h];exact m.one o hi j q u r t v g p,by rw[List.length_set];exact Nat.le_refl _,fun k b=>?_,fun k c y=>?_,fun k b c=>?_,fun k z b c=>?_,fun a=>absurd a l⟩;rw[List.length_set,(e k).1 b];exact d;rw[List.length_set]at y;omega;have:i≠k:=fun a=>b ((e k).2 a.symm);exact⟨List.getElem?_set_ne this,List.getElem?_set_ne this⟩;have a:=(e k).1 b;subst a;rw[List.getElem?_set_self d]at c;cases c;exact⟨List.getElem?_set_self w,by unfold evs;rw[hi];exact g⟩}
theorem zcV(f:Inv F ts lg la ow un be)(b8:form.fields.length=F)(p:lg.length<6000)(q:qo ⟨form,lg,ts,⟨ow⟩,la,⟨un⟩,oth⟩ x=some 0)(r:qH ⟨form,ts,lg,la,be⟩ x=some 0){i:Nat}{s:za}(e:ts[i]?=some s)(l:x.ticket=(i:Int)+1)(Q:((x.kind=2∨x.kind=3)∧(1≤x.message∧x.message≤1000)∧zp ow x.message=none)∨(x.kind=4∧0≤x.field∧x.field<F)∨x.kind=5∨x.kind=6∨(x.kind=10∧(x.message=0→0≤x.field∧x.field<F))):
  zgg F form ts lg la ow un be oth x:=by{
 have b9:=f.lenT;have m:=JU e;have h:=QD l (by omega);have⟨a,b6⟩:=f.good i s e;have X:i<la.length:=by rw[f.lenA];exact m
 have j:zE 1599289640401 lg [x]=some (lg++[x]):=jp (by omega);have t:=zbw (form:=form) (lg:=lg++[x]) (ow:=ow) (un:=un) (oth:=oth) (k:=(lg.length:Int)) (a:=x.at_) e f.lenA l (by omega) (by omega);have u:idx (ts.set i (tch s x.at_)) (i:Int)=some (tch s x.at_):=zav m;have b0:(ts.set i (tch s x.at_))[i]?=some (tch s x.at_):=List.getElem?_set_self m;have b7:i<(ts.set i (tch s x.at_)).length:=by rw[List.length_set];exact m
 have n:∀(d o:za),setI (ts.set i d) (i:Int) o=some (ts.set i o):=fun d o=>by rw[ZV (by rw[List.length_set];exact m),List.set_set]
 have v:∀(o:za),setI ts (i:Int) o=some (ts.set i o):=fun o=>ZV m;have w:idx ts (i:Int)=some s:=ZW e;have Z:∀(d:za),idx (ts.set i d) (i:Int)=some d:=fun d=>zav m
 have y:∀(K:za),K.events=s.events→Zq ⟨form,ts.set i K,lg++[x],la,be⟩ x.ticket (lg.length:Int) x.at_=some ⟨form,ts.set i (tch K x.at_),lg++[x],la.set i (lg.length:Int),be⟩:=fun K c0=>by
  rw[zcd (List.getElem?_set_self m) (by rw[List.length_set,f.lenA]) l (by rw[List.length_set];omega) (by omega),List.set_set]
 have a0:=a.ms.len;have a1:=a.ns.len
 have a2:∀(g:Int),(1≤g∧g≤1000)→∀(N:List Int),Lst N→g∉N→Lst (srt (N++[g])):=by
  intro g L N a3 E
  refine zkg (List.nodup_append.2 ⟨a3.nodup,by simp,fun d X o a4=>?_⟩) fun b5 z=>?_
  rw[List.mem_singleton]at a4
  subst a4
  intro c
  subst c
  exact E X
  rcases List.mem_append.1 z with z|z
  exact a3.2 b5 z
  rw[List.mem_singleton]at z
  subst z
  exact L
 rcases Q with ⟨b,L,E⟩|⟨b,R,b2⟩|b|b|⟨b,Q⟩;have W:=f.own.none_ E e;have a5:x.message∉s.messages:=fun c=>W (.inl c);have a6:x.message∉s.notes:=fun c=>W (.inr c);rcases b with b|b
 refine⟨ts.set i ⟨s.no,s.opened,x.at_,sayS x s.status,s.priority,s.person,s.into,s.from_,s.values,srt (s.messages++[x.message]),s.notes,s.events+1⟩,la.set i (lg.length:Int),Qt ow x.message s.no,ZA un x.ticket,be,oth,?_,?_,
  zbX f p e l (by omega) (by omega) rfl a.vals (a2 _ L _ a.ms a5) a.ns (fun g I J=>?_) rfl ?_⟩
 unfold zU;have sv:=zmL (form:=form) (lg:=lg++[x]) (ow:=ow) (la:=la.set i (lg.length:Int)) (un:=ZA un x.ticket) (oth:=oth) (x:=x) b0 a0;simp only[q,b,Option.bind_some,Int.reduceBEq,bne_self_eq_false,Bool.or_self,Bool.false_eq_true,if_false,if_true,j,t,h,u,sv,List.set_set];rfl;unfold ZS;simp only[r,b,Option.bind_some,Int.reduceBEq,bne_self_eq_false,Bool.or_self,Bool.false_eq_true,if_false,if_true,j,h,w,zeR (Nat.le_trans a0 (by omega)),v,Z,n,zgR _ (zhG a.ms.1)];unfold sayS;by_cases S:(((x.who==0)&&((s.status==3)||(s.status==5)))||((decide ((0:Int)<x.who))&&(s.status==1)))=true;simp only[S,if_true,Option.bind_some,y];rfl;rw[Bool.not_eq_true]at S;simp only[S,Bool.false_eq_true,if_false,Option.bind_some,y];rfl;rcases List.mem_append.1 (zaJ.1 I)with c|c
 exact a.dis g c J;simp at c;subst c;exact a6 J;rw[a.no];refine f.own.add e E fun g=>?_;show (g∈srt (s.messages++[x.message])∨g∈s.notes)↔_;rw[zaJ,List.mem_append,List.mem_singleton];constructor;rintro ((d | d) | d);exact .inl (.inl d);exact .inr d;exact .inl (.inr d);rintro ((d | d) | d);exact .inl (.inl d);exact .inr d;exact .inl (.inr d)
 refine⟨ts.set i ⟨s.no,s.opened,x.at_,s.status,s.priority,s.person,s.into,s.from_,s.values,s.messages,srt (s.notes++[x.message]),s.events+1⟩,la.set i (lg.length:Int),Qt ow x.message s.no,ZA un x.ticket,be,oth,?_,?_,
  zbX f p e l (by omega) (by omega) rfl a.vals a.ms (a2 _ L _ a.ns a6) (fun g I J=>?_) rfl ?_⟩
 unfold zU;have b3:=zcG (form:=form) (lg:=lg++[x]) (ts:=ts.set i (tch s x.at_)) (ow:=ow) (la:=la.set i (lg.length:Int)) (un:=ZA un x.ticket) (oth:=oth) (t:=s.no) (ms := [x.message]) a1 (by simp);have b1:ZG ⟨form,lg++[x],ts.set i (tch s x.at_),⟨ow⟩,la.set i (lg.length:Int),⟨ZA un x.ticket⟩,oth⟩ (tch s x.at_).no (tch s x.at_).notes [x.message]=_:=b3;simp only[q,b,Option.bind_some,Int.reduceBEq,bne_self_eq_false,Bool.or_self,Bool.false_eq_true,if_false,if_true,j,t,h,u,b1,n];rfl;unfold ZS;simp only[r,b,Option.bind_some,Int.reduceBEq,bne_self_eq_false,Bool.or_self,Bool.false_eq_true,if_false,if_true,j,h,w,zeR (Nat.le_trans a1 (by omega)),v,Z,n,zgR _ (zhG a.ns.1),y];rfl;rcases List.mem_append.1 (zaJ.1 J)with c|c
 exact a.dis g I c;simp at c;subst c;exact a5 I;rw[a.no];refine f.own.add e E fun g=>?_;show (g∈s.messages∨g∈srt (s.notes++[x.message]))↔_;rw[zaJ,List.mem_append,List.mem_singleton];exact or_assoc.symm
 all_goals
  have G:∀H:za,H.messages=s.messages→H.notes=s.notes→Own (ts.set i H) ow:=fun H a7 a8=>f.own.same (fun k U b=>by
    by_cases c:i=k
    ·subst c
     rw[List.getElem?_set_self m]at b
     cases b
     exact .inl ⟨s,e,a7,a8⟩
    ·rw[List.getElem?_set_ne c]at b
     exact .inl ⟨U,b,rfl,rfl⟩) (fun k U b=>by
    by_cases c:i=k
    ·subst c
     rw[e]at b
     cases b
     exact⟨H,List.getElem?_set_self m,a7,a8⟩
    ·exact⟨U,by rw[List.getElem?_set_ne c];exact b,rfl,rfl⟩)
 obtain⟨T,B,_⟩:=zfH (l:=s.values) (i:=x.field) R (by rw[a.vals];omega);have D:setI s.values x.field x.value=some (s.values.set x.field.toNat x.value):=by rw[setI,if_pos (by rw[a.vals];omega)]
 have O:idx (tch s x.at_).values x.field=some T:=B;have P:setI (tch s x.at_).values x.field x.value=some (s.values.set x.field.toNat x.value):=D
 refine⟨ts.set i ⟨s.no,s.opened,x.at_,s.status,s.priority,s.person,s.into,s.from_,s.values.set x.field.toNat x.value,s.messages,s.notes,s.events+1⟩,la.set i (lg.length:Int),ow,ZA un x.ticket,be,oth,?_,?_,
  zbX f p e l (by omega) (by omega) rfl (by rw[List.length_set];exact a.vals) a.ms a.ns a.dis rfl (G _ rfl rfl)⟩
 unfold zU;simp only[q,b,Option.bind_some,Int.reduceBEq,bne_self_eq_false,Bool.or_self,Bool.false_eq_true,if_false,if_true,j,t,h,u,O,P,n];rfl;unfold ZS;simp only[r,b,Option.bind_some,Int.reduceBEq,bne_self_eq_false,Bool.or_self,Bool.false_eq_true,if_false,if_true,j,h,w,B,D,v,y];rfl
 refine⟨ts.set i ⟨s.no,s.opened,x.at_,x.to_,s.priority,s.person,s.into,s.from_,s.values,s.messages,s.notes,s.events+1⟩,la.set i (lg.length:Int),ow,ZA un x.ticket,be,oth,?_,?_,
  zbX f p e l (by omega) (by omega) rfl a.vals a.ms a.ns a.dis rfl (G _ rfl rfl)⟩
 unfold zU;simp only[q,b,Option.bind_some,Int.reduceBEq,bne_self_eq_false,Bool.or_self,Bool.false_eq_true,if_false,if_true,j,t,h,u,n];rfl;unfold ZS;simp only[r,b,Option.bind_some,Int.reduceBEq,bne_self_eq_false,Bool.or_self,Bool.false_eq_true,if_false,if_true,j,h,w,v,y];rfl
 refine⟨ts.set i ⟨s.no,s.opened,x.at_,s.status,s.priority,x.to_,s.into,s.from_,s.values,s.messages,s.notes,s.events+1⟩,la.set i (lg.length:Int),ow,ZA un x.ticket,be,oth,?_,?_,
  zbX f p e l (by omega) (by omega) rfl a.vals a.ms a.ns a.dis rfl (G _ rfl rfl)⟩
 unfold zU;simp only[q,b,Option.bind_some,Int.reduceBEq,bne_self_eq_false,Bool.or_self,Bool.false_eq_true,if_false,if_true,j,t,h,u,n];rfl;unfold ZS;simp only[r,b,Option.bind_some,Int.reduceBEq,bne_self_eq_false,Bool.or_self,Bool.false_eq_true,if_false,if_true,j,h,w,v,y];rfl;by_cases M:x.message=0;obtain⟨R,b2⟩:=Q M;obtain⟨T,B,_⟩:=zfH (l:=s.values) (i:=x.field) R (by rw[a.vals];omega);have D:∀A,setI s.values x.field A=some (s.values.set x.field.toNat A):=fun A=>by rw[setI,if_pos (by rw[a.vals];omega)]
 have O:idx (tch s x.at_).values x.field=some T:=B;have P:∀A,setI (tch s x.at_).values x.field A=some (s.values.set x.field.toNat A):=D
 refine⟨ts.set i ⟨s.no,s.opened,x.at_,s.status,s.priority,s.person,s.into,s.from_,s.values.set x.field.toNat ⟨0,0,ByteArray.empty⟩,s.messages,s.notes,s.events+1⟩,la.set i (lg.length:Int),ow,ZA un x.ticket,be,oth,?_,?_,
  zbX f p e l (by omega) (by omega) rfl (by rw[List.length_set];exact a.vals) a.ms a.ns a.dis rfl (G _ rfl rfl)⟩
 unfold zU;simp only[q,b,M,Option.bind_some,Int.reduceBEq,bne_self_eq_false,Bool.or_self,Bool.false_eq_true,if_false,if_true,j,t,h,u,O,P,n,BEq.rfl];rfl;unfold ZS;simp only[r,b,M,Option.bind_some,Int.reduceBEq,bne_self_eq_false,Bool.or_self,Bool.false_eq_true,if_false,if_true,j,h,w,B,D,v,BEq.rfl,y];rfl;have a9:(x.message==0)=false:=by simpa using M
 refine⟨ts.set i (tch s x.at_),la.set i (lg.length:Int),ow,ZA un x.ticket,be,oth,?_,?_,
  zbX f p e l (by omega) (by omega) rfl a.vals a.ms a.ns a.dis rfl (G _ rfl rfl)⟩
 unfold zU;simp only[q,b,a9,Option.bind_some,Int.reduceBEq,bne_self_eq_false,Bool.or_self,Bool.false_eq_true,if_false,if_true,j,t,h,u,n];unfold ZS;have b4:=zcd (form:=form) (lg:=lg++[x]) (be:=be) (k:=(lg.length:Int)) (a:=x.at_) e f.lenA l (by omega) (show 0≤s.events∧s.events≤10000 by omega);simp only[r,b,a9,Option.bind_some,Int.reduceBEq,bne_self_eq_false,Bool.or_self,Bool.false_eq_true,if_false,if_true,j,h,w,v,b4]}
theorem zlu(o:Inv F ts lg la ow un be)(B:form.fields.length=F)(O:F≤20)(A:lg.length<6000)(t:qo ⟨form,lg,ts,⟨ow⟩,la,⟨un⟩,oth⟩ x=some 0)(D:qH ⟨form,ts,lg,la,be⟩ x=some 0)(e:x.kind=1)(P:ts.length<400)(f:x.ticket=(ts.length:Int)+1):zgg F form ts lg la ow un be oth x:=by{
 have E:=QD f (by omega);have l:=o.lenA;have u:zE 1599289640401 lg [x]=some (lg++[x]):=jp (by omega);have v:∀a:za,zE 977343669134 ts [a]=some (ts++[a]):=fun a=>jp (by omega);have w:zE 17592186044416 la [(lg.length:Int)]=some (la++[(lg.length:Int)]):=jp (by omega)
 have y:ji 8796093022208 (form.fields.length:Int) (⟨0,0,ByteArray.empty⟩:api_Value)=some (List.replicate F ⟨0,0,ByteArray.empty⟩):=by
  rw[ji,if_pos (by omega),Int.toNat_natCast,B]
 have G:w64 ((ts.length:Int)+1)=x.ticket:=by rw[f];exact ZB (by omega) (by omega)
 have p:∀c g:za,(ts++[c]).set ts.length g=ts++[g]:=fun c g=>by simp
 have sl:(la++[(lg.length:Int)]).set ts.length (lg.length:Int)=la++[(lg.length:Int)]:=by rw[← l];simp
 have j:∀c:za,(ts++[c])[ts.length]?=some c:=fun c=>by simp
 have H:∀c:za,idx (ts++[c]) (ts.length:Int)=some c:=fun c=>ZW (j c);have I:∀c g:za,setI (ts++[c]) (ts.length:Int) g=some (ts++[g]):=fun c g=>by rw[ZV (by simp),p]
 have J:∀a:za,a.events=0→qY ⟨form,lg++[x],ts++[a],⟨ow⟩,la++[(lg.length:Int)],⟨un⟩,oth⟩ x.ticket (lg.length:Int) x.at_=some ⟨form,lg++[x],ts++[tch a x.at_],⟨ow⟩,la++[(lg.length:Int)],⟨ZA un x.ticket⟩,oth⟩:=fun a K=>by
  rw[zbw (j a) (by simp[l]) f (by simp;omega) (by omega),p,sl]
 have L:∀a:za,a.events=0→Zq ⟨form,ts++[a],lg++[x],la++[(lg.length:Int)],be⟩ x.ticket (lg.length:Int) x.at_=some ⟨form,ts++[tch a x.at_],lg++[x],la++[(lg.length:Int)],be⟩:=fun a K=>by
  rw[zcd (j a) (by simp[l]) f (by simp;omega) (by omega),p,sl]
 have q:∀k:Nat,Tch lg la x k↔k=ts.length:=by
  intro k
  unfold Tch
  constructor
  rintro (h | h | h)
  omega
  omega
  omega
  rintro rfl
  exact .inl f
 have n:∀(a:za) (i:Nat),i<ts.length→(ts++[a])[i]?=ts[i]?:=fun a i z=>List.getElem?_append_left z;have r:∀(i:Nat),i<ts.length→(la++[(lg.length:Int)])[i]?=la[i]?:=fun i z=>List.getElem?_append_left (by omega);have s:(la++[(lg.length:Int)])[ts.length]?=some (lg.length:Int):=by rw[← l];simp
 refine⟨ts++[⟨x.ticket,x.at_,x.at_,1,x.to_,0,0,0,List.replicate F ⟨0,0,ByteArray.empty⟩, [], [],1⟩],la++[(lg.length:Int)],ow,ZA un x.ticket,be,oth,?_,?_,⟨?_,by simp,?_,?_,?_,?_,fun h=>by omega⟩⟩;unfold zU;simp only[t,e,Option.bind_some,Int.reduceBEq,bne_self_eq_false,Bool.or_false,Bool.true_or,Bool.false_eq_true,if_false,if_true,u,y,G,v,w,J,E,H,I];rfl;unfold ZS;simp only[D,e,Option.bind_some,Int.reduceBEq,bne_self_eq_false,Bool.false_eq_true,if_false,if_true,u,y,v,w,L];rfl
 refine o.step (fun k=>k=ts.length) A (by simp;omega) (by simp[l]) (by simp) (by have:=o.lenB;omega) (fun k d b=>by simp at b;omega) (fun k d b=>⟨n _ k d,r k d,by rw[qI,if_neg (by omega)]⟩)
  (fun k d b=>by subst b;exact s) (fun k m d b=>?_) (o.own.same (fun k m e=>?_) (fun k m e=>⟨m,by rw[n _ k (JU e)];exact e,rfl,rfl⟩)) (fun k _=>rfl) (fun k d b=>?_)
 subst d;rw[j]at b;cases b;exact⟨⟨f,by simp,Lst.nil,Lst.nil,fun Q M=>by simp at M⟩,by show (1:Int)≤1;omega,by show (1:Int)≤_;omega⟩;by_cases h:k<ts.length;rw[n _ k h]at e;exact .inl ⟨m,e,rfl,rfl⟩;have:=JU e;have N:k=ts.length:=by simp at this;omega
 subst N;rw[j]at e;cases e;exact .inr ⟨rfl,rfl⟩;subst b;exact .inr ⟨by rw[qI,if_pos f],fun t=>by omega⟩;intro k d;rw[(q k).1 d];simp;intro k d b;rw[q];simp at b;omega;intro k d b;exact⟨n _ k b,r k b⟩;intro k m d b;have h:=(q k).1 d;subst h;rw[j]at b;cases b;refine⟨s,?_⟩;unfold evs;rw[List.getElem?_eq_none (Nat.le_refl _)];rfl}
end Go.Proofs.YtligccioljhapaaGreatDoor.M
namespace Go.Proofs.YtligccioljhapaaGreatDoor.M
open Go Go.Pu
set_option linter.unusedSimpArgs false
set_option linter.unusedVariables false
variable{F:Nat}{form:zr}{ts:List za}{lg:List zk}{la:List Int}{ow:List (Int×Int)}{un:List (Int×zl)}{be:List zL}{oth:Int}{x:zk}
def P2{α:Type}(l:List α)(i j:Nat)(a b:α):List α:=(l.set i a).set j b
theorem qJ{α:Type}(l:List α)(i j:Nat)(a b:α):(P2 l i j a b).length=l.length:=by simp[P2]
theorem P2_i{α:Type}{l:List α}{i j:Nat}(hi:i<l.length)(c:j≠i)(a b:α):(P2 l i j a b)[i]?=some a:=by{rw[P2,List.getElem?_set_ne c,List.getElem?_set_self hi]}
theorem P2_j{α:Type}{l:List α}{i j:Nat}(c:j<l.length)(a b:α):(P2 l i j a b)[j]?=some b:=by{rw[P2,List.getElem?_set_self (by rw[List.length_set];exact c)]}
theorem P2_o{α:Type}{l:List α}{i j k:Nat}(hi:k≠i)(d:k≠j)(a b:α):(P2 l i j a b)[k]?=l[k]?:=by{rw[P2,List.getElem?_set_ne (fun c=>d c.symm),List.getElem?_set_ne (fun c=>hi c.symm)]}
theorem zcH{α:Type}{l:List α}{i j:Nat}(d:j≠i)(a b c:α):(P2 l i j a b).set i c=P2 l i j c b:=by{rw[P2,P2,List.set_comm _ _ d,List.set_set]}
theorem zcj{α:Type}{l:List α}{i j:Nat}(a b c:α):(P2 l i j a b).set j c=P2 l i j a c:=by{rw[P2,P2,List.set_set]}
theorem ziC{α:Type}{l:List α}{i j:Nat}{a b:α}(hi:l[i]?=some a)(c:l[j]?=some b):P2 l i j a b=l:=by{rw[P2,ziV hi,ziV c]}
theorem zce{α:Type}{l:List α}{i j:Nat}{b:α}(c:j≠i)(d:l[j]?=some b)(a:α):l.set i a=P2 l i j a b:=by{rw[P2];exact (ziV (l:=l.set i a) (by rw[List.getElem?_set_ne (fun e=>c e.symm)];exact d)).symm}
theorem zne{α:Type}{l:List α}{i:Nat}(hi:i<l.length)(n a b:α):P2 (l++[n]) i l.length a b=l.set i a++[b]:=by{rw[P2,List.set_append_left _ _ hi];simp}
theorem ziI(l:List Int)(m:Int):insL m (srt l)=srt (l++[m]):=by{rw[zgR _ (zeF l)];exact zfX ((zbt _).trans (((zbt l).append_right [m]).trans (zbt _).symm)) (zeF _) (zeF _)}
theorem zkc(l:List Int):(srt l).length=l.length:=(zbt l).length_eq
theorem zfG{l:List Int}{k:Nat}(a:k<l.length):l.take (k+1)=l.take k++[l[k]]:=by{rw[List.take_add_one,List.getElem?_eq_getElem a];rfl}
variable{i j:Nat}
theorem zhN(d:j<ts.length)(e:la.length=ts.length){t k a:Int}(f:t=(j:Int)+1)(g:ts.length≤401)(s b:za)(p h:Int)(c:0≤b.events∧b.events≤10000):
  qY ⟨form,lg,P2 ts i j s b,⟨ow⟩,P2 la i j p h,⟨un⟩,oth⟩ t k a=some ⟨form,lg,P2 ts i j s (tch b a),⟨ow⟩,P2 la i j p k,⟨ZA un t⟩,oth⟩:=by{rw[zbw (P2_j d s b) (by rw[qJ,qJ,e]) f (by rw[qJ];exact g) c,zcj,zcj]}
theorem zgY(hi:i<ts.length)(c:j≠i)(f:la.length=ts.length){t k a:Int}(g:t=(i:Int)+1)(h:ts.length≤401)(s b:za)(p d:Int)(e:0≤s.events∧s.events≤10000):
  Zq ⟨form,P2 ts i j s b,lg,P2 la i j p d,be⟩ t k a=some ⟨form,P2 ts i j (tch s a) b,lg,P2 la i j k d,be⟩:=by{rw[zcd (P2_i hi c s b) (by rw[qJ,qJ,f]) g (by rw[qJ];exact h) e,zcH c,zcH c]}
theorem zgT(d:j<ts.length)(e:la.length=ts.length){t k a:Int}(f:t=(j:Int)+1)(g:ts.length≤401)(s b:za)(p h:Int)(c:0≤b.events∧b.events≤10000):
  Zq ⟨form,P2 ts i j s b,lg,P2 la i j p h,be⟩ t k a=some ⟨form,P2 ts i j s (tch b a),lg,P2 la i j p k,be⟩:=by{rw[zcd (P2_j d s b) (by rw[qJ,qJ,e]) f (by rw[qJ];exact g) c,zcj,zcj]}
theorem znk(hi:i<ts.length)(e:j<ts.length)(d:j≠i)(q:la.length=ts.length)(r:ts.length≤401)(f:x.to_=(j:Int)+1)(u:x.kind=7)(s t:za)(p g k:Int)(E:s.values.length≤1000)(F:t.values.length≤1000)(h:s.messages.length≤1000)(l:s.notes.length≤1000)(m:t.messages.length≤1000)(n:t.notes.length≤1000)(o:0≤t.events∧t.events≤10000):
  jo ⟨form,lg,P2 ts i j s t,⟨ow⟩,P2 la i j p g,⟨un⟩,oth⟩ (i:Int) x k =
   some ⟨form,lg,P2 ts i j ⟨s.no,s.opened,s.changed,6,s.priority,s.person,x.to_,s.from_,s.values, [], [],s.events⟩ ⟨t.no,t.opened,x.at_,t.status,t.priority,t.person,t.into,t.from_,t.values,srt (t.messages++s.messages),srt (t.notes++s.notes),t.events+1⟩,
    ⟨puts (puts (dels ow (s.messages++s.notes)) s.messages t.no) s.notes t.no⟩,P2 la i j p k,⟨Qt (ZA un x.to_) x.ticket ⟨7,x.to_,k,s,t⟩⟩,oth⟩:=by{
 have v:w64 (x.to_-1)=(j:Int):=QD f (by omega);have B:∀b a,idx (P2 ts i j b a) (i:Int)=some b:=fun b a=>ZW (P2_i hi d b a);have D:∀b a,idx (P2 ts i j b a) (j:Int)=some a:=fun b a=>ZW (P2_j e b a);have w:∀b a c,setI (P2 ts i j b a) (i:Int) c=some (P2 ts i j c a):=fun b a c=>by rw[ZV (by rw[qJ];exact hi),zcH d]
 have y:∀b a c,setI (P2 ts i j b a) (j:Int) c=some (P2 ts i j b c):=fun b a c=>by rw[ZV (by rw[qJ];exact e),zcj]
 have z:∀a la un,qE ⟨form,lg,P2 ts i j s a,⟨ow⟩,la,⟨un⟩,oth⟩ (i:Int)=some ⟨form,lg,P2 ts i j ⟨s.no,s.opened,s.changed,s.status,s.priority,s.person,s.into,s.from_,s.values, [], [],s.events⟩ a,⟨dels ow (s.messages++s.notes)⟩,la,⟨un⟩,oth⟩:=fun a la un=>by
  rw[zeW (P2_i hi d s a) (by omega),zcH d]
 have A:=zhN (form:=form) (lg:=lg) (ow:=ow) (un:=un) (oth:=oth) (k:=k) (a:=x.at_) (i:=i) e q f r s t p g o;unfold jo;simp only[v,B,D,w,y,A,z,tch,zck (s:=s) (by omega) (by omega) (by omega),zck (s:=t) (by omega) (by omega) (by omega),u,Int.reduceBEq,if_true,Option.bind_some,zcG,h,l,m,n]}
theorem zmY(hi:i<ts.length)(l:j<ts.length)(p:j≠i)(s t:za)(ms:List Int)(q:ms.length≤1000)(h:Lst t.messages):
  zG (R:=Empty) (fun c a=>Option.bind (idx ms (c:Int)) fun d=>Option.bind (idx a.states ((j:Int))) fun b=>Option.bind (QQ b.messages d) fun e=>Option.bind (setI a.states ((j:Int)) ({ (b:za)with messages:=e })) fun f=>some (.nx (⟨a.form,f,a.log,a.last,a.before⟩:zJ))) ms.length 0 (⟨form,P2 ts i j s t,lg,la,be⟩:zJ) =
   some (.fin ⟨form,P2 ts i j s ⟨t.no,t.opened,t.changed,t.status,t.priority,t.person,t.into,t.from_,t.values,srt (t.messages++ms),t.notes,t.events⟩,lg,la,be⟩):=by{
 obtain⟨g,n,rfl⟩:=qb (R:=Empty) (b:=fun c a=>Option.bind (idx ms (c:Int)) fun d=>Option.bind (idx a.states ((j:Int))) fun b=>Option.bind (QQ b.messages d) fun e=>Option.bind (setI a.states ((j:Int)) ({ (b:za)with messages:=e })) fun f=>some (.nx (⟨a.form,f,a.log,a.last,a.before⟩:zJ)))
  ms.length (fun k g=>g=⟨form,P2 ts i j s ⟨t.no,t.opened,t.changed,t.status,t.priority,t.person,t.into,t.from_,t.values,srt (t.messages++ms.take k),t.notes,t.events⟩,lg,la,be⟩) (s:=⟨form,P2 ts i j s t,lg,la,be⟩)
  (by rw[List.take_zero,List.append_nil,zcf h.1])
  (fun k g m o=>by
   subst o
   have r:=h.len
   refine⟨_,?_,rfl⟩
   dsimp only
   rw[ZP _ _ m,Option.bind_some,ZW (P2_j l _ _),Option.bind_some,zeR (by rw[zkc,List.length_append,List.length_take];omega),Option.bind_some,ZV (by rw[qJ];exact l),Option.bind_some,zcj,ziI,zfG m,List.append_assoc])
 rw[n,List.take_length]}
theorem zmX(hi:i<ts.length)(l:j<ts.length)(p:j≠i)(s t:za)(ms:List Int)(q:ms.length≤1000)(h:Lst t.notes):
  zG (R:=Empty) (fun c a=>Option.bind (idx ms (c:Int)) fun d=>Option.bind (idx a.states ((j:Int))) fun b=>Option.bind (QQ b.notes d) fun e=>Option.bind (setI a.states ((j:Int)) ({ (b:za)with notes:=e })) fun f=>some (.nx (⟨a.form,f,a.log,a.last,a.before⟩:zJ))) ms.length 0 (⟨form,P2 ts i j s t,lg,la,be⟩:zJ) =
   some (.fin ⟨form,P2 ts i j s ⟨t.no,t.opened,t.changed,t.status,t.priority,t.person,t.into,t.from_,t.values,t.messages,srt (t.notes++ms),t.events⟩,lg,la,be⟩):=by{
 obtain⟨g,n,rfl⟩:=qb (R:=Empty) (b:=fun c a=>Option.bind (idx ms (c:Int)) fun d=>Option.bind (idx a.states ((j:Int))) fun b=>Option.bind (QQ b.notes d) fun e=>Option.bind (setI a.states ((j:Int)) ({ (b:za)with notes:=e })) fun f=>some (.nx (⟨a.form,f,a.log,a.last,a.before⟩:zJ)))
  ms.length (fun k g=>g=⟨form,P2 ts i j s ⟨t.no,t.opened,t.changed,t.status,t.priority,t.person,t.into,t.from_,t.values,t.messages,srt (t.notes++ms.take k),t.events⟩,lg,la,be⟩) (s:=⟨form,P2 ts i j s t,lg,la,be⟩)
  (by rw[List.take_zero,List.append_nil,zcf h.1])
  (fun k g m o=>by
   subst o
   have r:=h.len
   refine⟨_,?_,rfl⟩
   dsimp only
   rw[ZP _ _ m,Option.bind_some,ZW (P2_j l _ _),Option.bind_some,zeR (by rw[zkc,List.length_append,List.length_take];omega),Option.bind_some,ZV (by rw[qJ];exact l),Option.bind_some,zcj,ziI,zfG m,List.append_assoc])
 rw[n,List.take_length]}
theorem zcm(be:List zL)(b:zL)(k:Int):JA (be++[b]) k=if b.event=k then b else JA be k:=by{unfold JA;rw[List.foldl_append];rfl}
theorem zka{a b:List Int}(e:Lst a)(f:Lst b)(g:∀c,c∈a→c∉b):Lst (srt (a++b)):=by{refine zkg (List.nodup_append.2 ⟨e.nodup,f.nodup,fun c d j h i=>?_⟩) fun c d=>?_;subst i;exact g c d h;exact (List.mem_append.1 d).elim (e.2 c) (f.2 c)}
theorem zkp(c:x.ticket=(i:Int)+1)(b:x.to_=(j:Int)+1)(d:x.kind=7∨x.kind=8)(k:Nat):Tch lg la x k↔k=i∨k=j:=by{unfold Tch;constructor;rintro (a |⟨_,a⟩|⟨a,_⟩);omega;omega;omega;rintro (rfl | rfl);exact .inl c;exact .inr (.inl ⟨d,b⟩)}
theorem zfP{s:za}(a:ts[i]?=some s):evs ts i=s.events:=by unfold evs;rw[a]
theorem zgI(z:Inv F ts lg la ow un be){tz:List za}{lz:List Int}(A:lg.length<6000)(J:tz.length≤400)(D:lz.length=tz.length)(q:ts.length≤tz.length)(n:∀k:Nat,k<ts.length→tz[k]?=ts[k]?∧lz[k]?=la[k]?)(p:∀k:Nat,ts.length≤k→k<tz.length→k=j)(hi:i<ts.length)(K:j<tz.length)(r:j≠i){s' d:za}{u:List (Int×Int)}{o:List (Int×zl)}{m:List zL}(f:∀k:Nat,Tch lg la x k↔k=i∨k=j)(E:m.length≤lg.length+1)(G:∀k:Nat,k≠i→k≠j→zp o ((k:Int)+1)=zp un ((k:Int)+1))(L:Good F i s')(M:Good F j d)(N:s'.events=evs ts i+1)(O:d.events=evs ts j+1)(B:Own (P2 tz i j s' d) u)(H:∀k:Nat,k<lg.length→JA m k=JA be k)(P:Kept (P2 tz i j s' d) (P2 lz i j (lg.length:Int) (lg.length:Int)) o m i lg.length x)(Q:Kept (P2 tz i j s' d) (P2 lz i j (lg.length:Int) (lg.length:Int)) o m j lg.length x)(R:x.kind=9→∃(t k:Nat) (y:zk),x.ticket=(t:Int)+1∧la[t]?=some (k:Int)∧lg[k]?=some y∧y.ticket=x.ticket∧(y.kind=7∨y.kind=8)):
  Done F ts lg la x (P2 tz i j s' d) (P2 lz i j (lg.length:Int) (lg.length:Int)) u o m:=by{
 have I:i<tz.length:=by omega
 have ev:∀k:Nat,0≤evs ts k∧evs ts k≤lg.length:=by
  intro k
  unfold evs
  cases g:ts[k]? with
  | none=>exact⟨Int.le_refl _,by show (0:Int)≤_;omega⟩
  | some s=>have:=z.good k s g;exact⟨by show 0≤s.events;omega,this.2.2⟩
 have S:=ev i;have T:=ev j
 have v:∀(k:Nat) (c:za),(k=i∨k=j)→(P2 tz i j s' d)[k]?=some c→Good F k c∧c.events=evs ts k+1:=by
  rintro k c (rfl | rfl) g
  rw[P2_i I r]at g
  cases g
  exact⟨L,N⟩
  rw[P2_j K]at g
  cases g
  exact⟨M,O⟩
 have w:∀k:Nat,(k=i∨k=j)→(P2 lz i j (lg.length:Int) (lg.length:Int))[k]?=some (lg.length:Int):=by
  rintro k (rfl | rfl)
  exact P2_i (by omega) r _ _
  exact P2_j (by omega) _ _
 refine⟨z.step (fun k=>k=i∨k=j) A (by rw[qJ];exact J) (by rw[qJ,qJ,D]) (by rw[qJ];exact q) E (fun k b a=>.inr (p k b (by rw[qJ]at a;exact a))) (fun k b a=>?_) (fun k b a=>w k a) (fun k c b a=>?_) B H (fun k b a=>?_),
  by rw[qJ];exact q,fun k b=>?_,fun k b a=>(f k).2 (.inr (p k b (by rw[qJ]at a;exact a))),fun k b a=>?_,fun k c b a=>⟨w k ((f k).1 b),(v k c ((f k).1 b) a).2⟩,R⟩
 have h:k≠i:=fun e=>a (.inl e);have l:k≠j:=fun e=>a (.inr e);exact⟨by rw[P2_o h l];exact (n k b).1,by rw[P2_o h l];exact (n k b).2,G k h l⟩;obtain⟨g1,U⟩:=v k c b a;have:=ev k;exact⟨g1,by omega,by omega⟩;rcases a with rfl|rfl;exact P;exact Q;rw[qJ];rcases (f k).1 b with rfl|rfl <;> omega
 have h:k≠i:=fun e=>b ((f k).2 (.inl e));have l:k≠j:=fun e=>b ((f k).2 (.inr e));exact⟨by rw[P2_o h l];exact (n k a).1,by rw[P2_o h l];exact (n k a).2⟩}
end Go.Proofs.YtligccioljhapaaGreatDoor.M
namespace Go.Proofs.YtligccioljhapaaGreatDoor.M
open Go Go.Pu
set_option linter.unusedSimpArgs false
set_option linter.unusedVariables false
variable{F:Nat}{form:zr}{ts:List za}{lg:List zk}{la:List Int}{ow:List (Int×Int)}{un:List (Int×zl)}{be:List zL}{oth:Int}{x:zk}{i j:Nat}
theorem zmS(m:Inv F ts lg la ow un be)(b5:form.fields.length=F)(b2:F≤20)(S:lg.length<6000)(U:qo ⟨form,lg,ts,⟨ow⟩,la,⟨un⟩,oth⟩ x=some 0)(W:qH ⟨form,ts,lg,la,be⟩ x=some 0){s t:za}(n:ts[i]?=some s)(w:x.ticket=(i:Int)+1)(u:x.kind=7)(l:ts[j]?=some t)(r:x.to_=(j:Int)+1)(e:j≠i):zgg F form ts lg la ow un be oth x:=by{
 have X:=m.lenT;have y:=m.lenA;have g:=JU n;have o:=JU l;have b6:=m.lenB;have⟨h,b3⟩:=m.good i s n;have⟨f,b4⟩:=m.good j t l;have H:=QD w (by omega);have T:=QD r (by omega);have I:la[i]?=some (la[i]'(by omega)):=List.getElem?_eq_getElem (by omega);have A:la[j]?=some (la[j]'(by omega)):=List.getElem?_eq_getElem (by omega);generalize la[i]'(by omega)=p at I;generalize la[j]'(by omega)=q at A;have sv:=h.vals;have Z:=f.vals;have J:=h.ms.len;have K:=h.ns.len;have a0:=f.ms.len;have a1:=f.ns.len;have L:zE 1599289640401 lg [x]=some (lg++[x]):=jp (by omega);have v:∀b,(b∈s.messages∨b∈s.notes)→¬(b∈t.messages∨b∈t.notes):=fun b M N=>e (m.own.fn l n N M)
 refine⟨P2 ts i j ⟨s.no,s.opened,x.at_,6,s.priority,s.person,x.to_,s.from_,s.values, [], [],s.events+1⟩ ⟨t.no,t.opened,x.at_,t.status,t.priority,t.person,t.into,t.from_,t.values,srt (t.messages++s.messages),srt (t.notes++s.notes),t.events+1⟩,
  P2 la i j (lg.length:Int) (lg.length:Int),puts (puts (dels ow (s.messages++s.notes)) s.messages t.no) s.notes t.no,Qt (ZA (ZA un x.ticket) x.to_) x.ticket ⟨7,x.to_,(lg.length:Int),tch s x.at_,t⟩,be++[⟨(lg.length:Int),s,t⟩],oth,?_,?_,?_⟩
 have O:=zbw (form:=form) (lg:=lg++[x]) (ow:=ow) (un:=un) (oth:=oth) (k:=(lg.length:Int)) (a:=x.at_) n y w (by omega) (by omega);rw[zce e l,zce e A]at O;have a2:idx (P2 ts i j (tch s x.at_) t) (i:Int)=some (tch s x.at_):=ZW (P2_i g e _ _);have a3:=znk (form:=form) (lg:=lg++[x]) (ow:=ow) (un:=ZA un x.ticket) (oth:=oth) g o e y (by omega) r u (tch s x.at_) t (lg.length:Int) q (lg.length:Int) (by show s.values.length≤1000;omega) (by omega) J K a0 a1 (by omega);unfold zU;simp only[U,Option.bind_some,bne_self_eq_false,Bool.false_eq_true,if_false,L];simp only[u,Int.reduceBEq,Bool.or_self,Bool.false_eq_true,if_false,if_true,Option.bind_some,O,H,a2,a3];rfl;have a4:idx ts (i:Int)=some s:=ZW n;have a5:idx ts (j:Int)=some t:=ZW l;have b1:∀a c,idx (P2 ts i j a c) (i:Int)=some a:=fun a c=>ZW (P2_i g e a c);have a6:∀a c E,setI (P2 ts i j a c) (i:Int) E=some (P2 ts i j E c):=fun a c E=>by rw[ZV (by rw[qJ];exact g),zcH e]
 have a7:∀c:zL,zE 475464487686 be [c]=some (be++[c]):=fun c=>jp (by omega);have l1:=fun be=>zmY (form:=form) (lg:=lg++[x]) (la:=la) (be:=be) g o e s t s.messages J f.ms;simp only[ziC n l]at l1;have l2:=fun be=>zmX (form:=form) (lg:=lg++[x]) (la:=la) (be:=be) g o e s ⟨t.no,t.opened,t.changed,t.status,t.priority,t.person,t.into,t.from_,t.values,srt (t.messages++s.messages),t.notes,t.events⟩ s.notes K f.ns
 have a8:∀a c be,a.events=s.events→Zq ⟨form,P2 ts i j a c,lg++[x],la,be⟩ x.ticket (lg.length:Int) x.at_=some ⟨form,P2 ts i j (tch a x.at_) c,lg++[x],P2 la i j (lg.length:Int) q,be⟩:=fun a c be B=>by
  have:=zgY (form:=form) (lg:=lg++[x]) (be:=be) (k:=(lg.length:Int)) (a:=x.at_) g e y w (by omega) a c p q (by omega)
  rw[ziC I A]at this
  exact this
 have a9:∀a c be,c.events=t.events→Zq ⟨form,P2 ts i j a c,lg++[x],P2 la i j (lg.length:Int) q,be⟩ x.to_ (lg.length:Int) x.at_=some ⟨form,P2 ts i j a (tch c x.at_),lg++[x],P2 la i j (lg.length:Int) (lg.length:Int),be⟩:=fun a c be B =>
  zgT (form:=form) (lg:=lg++[x]) (be:=be) (k:=(lg.length:Int)) (a:=x.at_) o y r (by omega) a c (lg.length:Int) q (by omega)
 unfold ZS;simp only[W,Option.bind_some,bne_self_eq_false,Bool.false_eq_true,if_false,L];simp only[u,Int.reduceBEq,Bool.or_false,Bool.false_eq_true,if_false,if_true,Option.bind_some,H,T,a4,a5,zfa (s:=s) (by omega) (by omega) (by omega),zfa (s:=t) (by omega) (by omega) (by omega),a7,l1,l2,Lp.andThen_fin,b1,a6,a8,a9];rfl
 have B:∀k:Nat,k<lg.length→JA (be++[⟨(lg.length:Int),s,t⟩]) k=JA be k:=fun k u=>by
  rw[zcm,if_neg]
  show ¬((lg.length:Int)=(k:Int))
  omega
 have P:JA (be++[⟨(lg.length:Int),s,t⟩]) (lg.length:Int)=⟨(lg.length:Int),s,t⟩:=by rw[zcm,if_pos rfl]
 have G:t.no=(j:Int)+1:=f.no
 refine zgI m S X y (Nat.le_refl _) (fun k _=>⟨rfl,rfl⟩) (fun k M N=>by omega) g o e (zkp w r (.inl u)) (by simp;omega) (fun k Q R=>?_) ⟨h.no,sv,Lst.nil,Lst.nil,fun b b0=>by simp at b0⟩
  ⟨G,Z,zka f.ms h.ms fun b a c=>v b (.inl c) (.inl a),zka f.ns h.ns fun b a c=>v b (.inr c) (.inr a),fun b a c=>?_⟩ (by rw[zfP n]) (by rw[zfP l]) ?_ B ?_ ?_ (fun d=>by omega)
 rw[JJ,if_neg (by omega),qI,if_neg (by omega),qI,if_neg (by omega)];rcases List.mem_append.1 (zaJ.1 a)with a|a <;> rcases List.mem_append.1 (zaJ.1 c)with c|c
 exact f.dis b a c;exact v b (.inr c) (.inl a);exact v b (.inl a) (.inr c);exact h.dis b a c
 have D:∀b,(b∈srt (t.messages++s.messages)∨b∈srt (t.notes++s.notes))↔((b∈s.messages∨b∈s.notes)∨(b∈t.messages∨b∈t.notes)):=by
  intro b
  rw[zaJ,zaJ,List.mem_append,List.mem_append]
  constructor
  rintro ((a | a) | (a | a))
  exact .inr (.inl a)
  exact .inl (.inl a)
  exact .inr (.inr a)
  exact .inl (.inr a)
  rintro ((a | a) | (a | a))
  exact .inl (.inr a)
  exact .inr (.inr a)
  exact .inl (.inl a)
  exact .inr (.inl a)
 refine m.own.two n l (fun d=>e d.symm) (P2_i g e _ _) (P2_j o _ _) (fun k Q R=>P2_o Q R _ _) (fun b a=>by simp at a) (fun b a=>(D b).1 a) (fun b a=>by simp at a) (fun b a=>by simp at a) (fun b a=>?_) (fun b _ a=>?_);rw[qT,qT,zdT,G];rcases (D b).1 a with (a|a)|a;rw[if_pos a];split <;> rfl
 rw[if_pos a];split;rfl;split;rfl
 rw[if_neg (fun d=>by
  rw[List.mem_append]at d
  exact v b d a)]
 exact (m.own b _).2 ⟨j,t,l,rfl,a⟩;have z:=fun d=>a ((D b).2 d);rw[qT,qT,zdT,if_neg (fun d=>z (.inl (.inr d))),if_neg (fun d=>z (.inl (.inl d))),if_neg (fun d=>z (.inl (List.mem_append.1 d))),if_neg z];refine .inl ⟨⟨7,x.to_,(lg.length:Int),tch s x.at_,t⟩,j,by rw[JJ,if_pos w],w,.inl u,r,by rw[qJ];exact o,e,rfl,r,u.symm,by rw[P];exact⟨rfl,rfl,rfl,rfl⟩,fun _=>by rw[P];exact⟨rfl,rfl,rfl,rfl⟩,fun _=>⟨_,_,P2_i g e _ _,P2_j o _ _,?_⟩⟩;refine⟨⟨h.ms,h.ns,f.ms,f.ns,h.dis,f.dis,v⟩,fun b a=>.inr ?_,fun d=>by cases d⟩;show b∈srt (t.messages++s.messages)∨b∈srt (t.notes++s.notes);rw[zaJ,zaJ,List.mem_append,List.mem_append];rcases a with a|a|a|a;exact .inl (.inr a);exact .inr (.inr a);exact .inl (.inl a);exact .inr (.inl a);refine .inr ⟨by rw[JJ,if_neg (by omega),qI,if_pos r],fun d=>by omega⟩}
end Go.Proofs.YtligccioljhapaaGreatDoor.M
namespace Go.Proofs.YtligccioljhapaaGreatDoor.M
open Go Go.Pu
set_option linter.unusedSimpArgs false
set_option linter.unusedVariables false
variable{F:Nat}{form:zr}{ts:List za}{lg:List zk}{la:List Int}{ow:List (Int×Int)}{un:List (Int×zl)}{be:List zL}{oth:Int}{x:zk}{i j:Nat}
theorem znq{α:Type}{s:List α}{k:Nat}(a:k≤s.length):jE s (some (k:Int)) none=some (s.drop k):=by{unfold jE zfI;simp only[Option.getD_some,Option.getD_none];rw[if_pos (by omega)];simp}
theorem Lst.sub{l m:List Int}(b:Lst l)(a:m.Sublist l):Lst m:=⟨b.1.sublist a,fun d c=>b.2 d (a.subset c)⟩
theorem zjC(m:Int):∀b:List Int,b.Pairwise (· < ·)→m∈b→∃e,b.findIdx? (fun x=>m==x)=some e∧e<b.length∧b.filter (fun d=>decide (d<m))=b.take e∧b.filter (fun d=>!decide (d<m))=b.drop e
 | [],_,hm=>by simp at hm
 | a::b,hl,hm=>by
  have h1:=List.pairwise_cons.1 hl
  by_cases f:m=a
  ·subst f
   refine⟨0,by rw[List.findIdx?_cons];simp,by simp,?_,?_⟩
   ·rw[List.take_zero,List.filter_eq_nil_iff]
    intro d c
    rcases List.mem_cons.1 c with rfl|c
    ·simp
    ·have:=h1.1 d c
     simp only[decide_eq_true_eq]
     omega
   ·rw[List.drop_zero,List.filter_eq_self]
    intro d c
    rcases List.mem_cons.1 c with rfl|c
    ·simp
    ·have:=h1.1 d c
     simp only[Bool.not_eq_true',decide_eq_false_iff_not]
     omega
  ·have g:m∈b:=(List.mem_cons.1 hm).resolve_left f
   obtain⟨e,i,n,j,l⟩:=zjC m b h1.2 g
   have h:a<m:=h1.1 m g
   refine⟨e+1,?_,by simp;omega,?_,?_⟩
   ·rw[List.findIdx?_cons,i]
    have:(m==a)=false:=by simpa using f
    rw[this]
    rfl
   ·rw[List.filter_cons_of_pos (by simpa using h),j]
    rfl
   ·rw[List.filter_cons_of_neg (by simpa using h),l]
    rfl
theorem znt(hi:i<ts.length)(g:j<ts.length)(d:j≠i)(u:la.length=ts.length)(v:ts.length≤401)(h:x.to_=(j:Int)+1)(w:x.kind=8)(s f:za)(p r k:Int)(O:s.values.length≤1000)(P:f.values.length≤1000)(e:Lst s.messages)(l:Lst s.notes)(m:f.messages=[])(o:f.notes=[])(t:0≤f.events∧f.events≤10000)(n:Nat)(y:s.messages.findIdx? (fun L=>x.message==L)=some n)(q:n<s.messages.length):
  jo ⟨form,lg,P2 ts i j s f,⟨ow⟩,P2 la i j p r,⟨un⟩,oth⟩ (i:Int) x k =
   some ⟨form,lg,P2 ts i j ⟨s.no,s.opened,s.changed,s.status,s.priority,s.person,s.into,s.from_,s.values,s.messages.take n,s.notes,s.events⟩ ⟨f.no,f.opened,x.at_,2,s.priority,f.person,f.into,s.no,f.values,s.messages.drop n, [],f.events+1⟩,
    ⟨puts (puts (puts (dels ow (s.messages++s.notes)) (s.messages.take n) s.no) s.notes s.no) (s.messages.drop n) f.no⟩,P2 la i j p k,⟨Qt (ZA un x.to_) x.ticket ⟨8,x.to_,k,s,f⟩⟩,oth⟩:=by{
 have z:w64 (x.to_-1)=(j:Int):=QD h (by omega);have M:∀b a,idx (P2 ts i j b a) (i:Int)=some b:=fun b a=>ZW (P2_i hi d b a);have N:∀b a,idx (P2 ts i j b a) (j:Int)=some a:=fun b a=>ZW (P2_j g b a);have A:∀b a c,setI (P2 ts i j b a) (i:Int) c=some (P2 ts i j c a):=fun b a c=>by rw[ZV (by rw[qJ];exact hi),zcH d]
 have B:∀b a c,setI (P2 ts i j b a) (j:Int) c=some (P2 ts i j b c):=fun b a c=>by rw[ZV (by rw[qJ];exact g),zcj]
 have D:=e.len;have E:=l.len
 have F:∀a la un,qE ⟨form,lg,P2 ts i j s a,⟨ow⟩,la,⟨un⟩,oth⟩ (i:Int)=some ⟨form,lg,P2 ts i j ⟨s.no,s.opened,s.changed,s.status,s.priority,s.person,s.into,s.from_,s.values, [], [],s.events⟩ a,⟨dels ow (s.messages++s.notes)⟩,la,⟨un⟩,oth⟩:=fun a la un=>by
  rw[zeW (P2_i hi d s a) (by omega),zcH d]
 have G:=zhN (form:=form) (lg:=lg) (ow:=ow) (un:=un) (oth:=oth) (k:=k) (a:=x.at_) (i:=i) g u h v s f p r t;have g1:(s.messages.take n).length≤1000:=by rw[List.length_take];omega
 have H:(s.messages.drop n).length≤1000:=by rw[List.length_drop];omega
 have I:srt (s.messages.take n)=s.messages.take n:=zcf (e.sub (List.take_sublist _ _)).1;have J:srt (s.messages.drop n)=s.messages.drop n:=zcf (e.sub (List.drop_sublist _ _)).1;have K:srt s.notes=s.notes:=zcf l.1;unfold jo
 simp only[z,M,N,A,B,G,F,tch,zck (s:=s) (by omega) (by omega) (by omega),zck (s:=f) (by omega) (by rw[m];simp) (by rw[o];simp),w,Int.reduceBEq,Bool.false_eq_true,if_false,Option.bind_some,zie,y,zkI (Nat.le_of_lt q),znq (Nat.le_of_lt q),zcG,D,E,g1,H,
  List.length_nil,Nat.zero_le,List.nil_append,I,J,K,m,o]}
theorem znl(ms:List Int)(u:ms.length≤1000)(m:Int)(f:za)(p:f.messages=[]):
  zG (R:=Empty) (fun h a=>Option.bind (Option.bind (idx ms (h:Int)) fun c=>Option.bind (if (decide (c<m))=true then Option.bind (zE 17592186044416 a.1 ([c]:List Int)) fun i=>some (i,a.2) else Option.bind (zE 17592186044416 a.2.messages ([c]:List Int)) fun j=>some (a.1,(⟨a.2.no,a.2.opened,a.2.changed,a.2.status,a.2.priority,a.2.person,a.2.into,a.2.from_,a.2.values,j,a.2.notes,a.2.events⟩:za))) fun e=>some (e.1,e.2)) fun g=>some (.nx (g.1,g.2))) ms.length 0 (([]:(List Int)),f) =
   some (.fin (ms.filter (fun b=>decide (b<m)),⟨f.no,f.opened,f.changed,f.status,f.priority,f.person,f.into,f.from_,f.values,ms.filter (fun b=>!decide (b<m)),f.notes,f.events⟩)):=by{
 obtain⟨n,q,rfl⟩:=qb (R:=Empty) (b:=fun h (a:List Int×za)=>Option.bind (Option.bind (idx ms (h:Int)) fun c=>Option.bind (if (decide (c<m))=true then Option.bind (zE 17592186044416 a.1 ([c]:List Int)) fun i=>some (i,a.2) else Option.bind (zE 17592186044416 a.2.messages ([c]:List Int)) fun j=>some (a.1,(⟨a.2.no,a.2.opened,a.2.changed,a.2.status,a.2.priority,a.2.person,a.2.into,a.2.from_,a.2.values,j,a.2.notes,a.2.events⟩:za))) fun e=>some (e.1,e.2)) fun g=>some (.nx (g.1,g.2)))
  ms.length (fun k n=>n=((ms.take k).filter (fun b=>decide (b<m)),⟨f.no,f.opened,f.changed,f.status,f.priority,f.person,f.into,f.from_,f.values,(ms.take k).filter (fun b=>!decide (b<m)),f.notes,f.events⟩)) (s:=([],f))
  (by rw[List.take_zero,List.filter_nil,List.filter_nil, ← p])
  (fun k n l t=>by
   subst t
   refine⟨_,?_,rfl⟩
   have l1:=List.length_filter_le (fun b=>decide (b<m)) (ms.take k)
   have l2:=List.length_filter_le (fun b=>!decide (b<m)) (ms.take k)
   rw[List.length_take]at l1 l2
   have r:∀d,zE 17592186044416 ((ms.take k).filter (fun b=>decide (b<m))) [d]=some ((ms.take k).filter (fun b=>decide (b<m))++[d]):=fun d=>jp (by omega)
   have s:∀d,zE 17592186044416 ((ms.take k).filter (fun b=>!decide (b<m))) [d]=some ((ms.take k).filter (fun b=>!decide (b<m))++[d]):=fun d=>jp (by omega)
   rw[zfG l,List.filter_append,List.filter_append]
   by_cases o:ms[k]<m
   ·simp only[ZP _ _ l,Option.bind_some,decide_eq_true o,if_true,r,List.filter_cons,List.filter_nil,Bool.not_true,Bool.false_eq_true,if_false,List.append_nil]
   ·simp only[ZP _ _ l,Option.bind_some,decide_eq_false o,Bool.false_eq_true,if_false,s,List.filter_cons,List.filter_nil,Bool.not_false,if_true,List.append_nil])
 rw[q,List.take_length]}
theorem znb(z:Inv F ts lg la ow un be)(a7:form.fields.length=F)(c9:F≤20)(a3:lg.length<6000)(a8:qo ⟨form,lg,ts,⟨ow⟩,la,⟨un⟩,oth⟩ x=some 0)(a9:qH ⟨form,ts,lg,la,be⟩ x=some 0){s:za}(v:ts[i]?=some s)(q:x.ticket=(i:Int)+1)(h:x.kind=8)(d2:ts.length<400)(l:x.to_=(ts.length:Int)+1)(b0:x.message∈s.messages):zgg F form ts lg la ow un be oth x:=by{
 have P:=z.lenA;have A:=JU v;have d3:=z.lenB;have⟨g,d0⟩:=z.good i s v;have Q:=QD q (by omega);have d1:=QD l (by omega);have sv:=g.vals;have b1:=g.ms.len;have d4:=g.ns.len;obtain⟨e,B,D,b2,b3⟩:=zjC x.message s.messages g.ms.1 b0;have R:zE 1599289640401 lg [x]=some (lg++[x]):=jp (by omega);have b4:∀e:za,zE 977343669134 ts [e]=some (ts++[e]):=fun e=>jp (by omega);have S:zE 17592186044416 la [(lg.length:Int)]=some (la++[(lg.length:Int)]):=jp (by omega)
 have T:ji 8796093022208 (form.fields.length:Int) (⟨0,0,ByteArray.empty⟩:api_Value)=some (List.replicate F ⟨0,0,ByteArray.empty⟩):=by
  rw[ji,if_pos (by omega),Int.toNat_natCast,a7]
 have b5:w64 ((ts.length:Int)+1)=x.to_:=by rw[l];exact ZB (by omega) (by omega)
 obtain⟨c,m⟩:∃c:za,c=⟨x.to_,x.at_,0,0,0,0,0,0,List.replicate F ⟨0,0,ByteArray.empty⟩, [], [],0⟩:=⟨_,rfl⟩;have r:c.messages=[]:=by rw[m]
 have t:c.notes=[]:=by rw[m]
 have d5:c.events=0:=by rw[m]
 have d6:c.values.length=F:=by rw[m];simp
 have j:ts.length≠i:=by omega
 have u:ts.length<(ts++[c]).length:=by simp
 have n:i<(ts++[c]).length:=by simp;omega
 have o:(la++[(lg.length:Int)]).length=(ts++[c]).length:=by simp[P]
 have H:(ts++[c]).length≤401:=by simp;omega
 have U:(ts++[c])[i]?=some s:=by rw[List.getElem?_append_left A];exact v
 have I:(ts++[c])[ts.length]?=some c:=by simp
 have W:(la++[(lg.length:Int)])[i]?=some ((la++[(lg.length:Int)])[i]'(by rw[o];exact n)):=List.getElem?_eq_getElem _;generalize (la++[(lg.length:Int)])[i]'(by rw[o];exact n)=p at W;have X:(la++[(lg.length:Int)])[ts.length]?=some (lg.length:Int):=by rw[← P];simp
 refine⟨P2 (ts++[c]) i ts.length ⟨s.no,s.opened,x.at_,s.status,s.priority,s.person,s.into,s.from_,s.values,s.messages.take e,s.notes,s.events+1⟩ ⟨x.to_,x.at_,x.at_,2,s.priority,0,0,s.no,List.replicate F ⟨0,0,ByteArray.empty⟩,s.messages.drop e, [],1⟩,
  P2 (la++[(lg.length:Int)]) i ts.length (lg.length:Int) (lg.length:Int),puts (puts (puts (dels ow (s.messages++s.notes)) (s.messages.take e) s.no) s.notes s.no) (s.messages.drop e) x.to_,Qt (ZA (ZA un x.ticket) x.to_) x.ticket ⟨8,x.to_,(lg.length:Int),tch s x.at_,c⟩,be++[⟨(lg.length:Int),s,⟨0,0,0,0,0,0,0,0, [], [], [],0⟩⟩],oth,?_,?_,?_⟩
 have Z:=zbw (form:=form) (lg:=lg++[x]) (ow:=ow) (un:=un) (oth:=oth) (k:=(lg.length:Int)) (a:=x.at_) U o q (by omega) (by omega);rw[zce j I,zce j X]at Z;have b6:idx (P2 (ts++[c]) i ts.length (tch s x.at_) c) (i:Int)=some (tch s x.at_):=ZW (P2_i n j _ _);have b7:=znt (form:=form) (lg:=lg++[x]) (ow:=ow) (un:=ZA un x.ticket) (oth:=oth) n u j o H l h (tch s x.at_) c (lg.length:Int) (lg.length:Int) (lg.length:Int) (by show s.values.length≤1000;omega) (by omega) g.ms g.ns r t (by omega) e B D;unfold zU;simp only[a8,Option.bind_some,bne_self_eq_false,Bool.false_eq_true,if_false,R];simp only[h,Int.reduceBEq,Bool.or_true,Bool.false_eq_true,if_false,if_true,Option.bind_some,T,b5, ← m,b4,S,Z,Q,b6,b7];rw[m];rfl;have b8:idx ts (i:Int)=some s:=ZW v;have c8:∀a d,idx (P2 (ts++[c]) i ts.length a d) (i:Int)=some a:=fun a d=>ZW (P2_i n j a d);have b9:∀d,setI ts (i:Int) d=some (ts.set i d):=fun d=>ZV A;have c0:∀a d,zE 977343669134 (ts.set i a) [d]=some (P2 (ts++[c]) i ts.length a d):=fun a d=>by rw[zne A];exact jp (by rw[List.length_set];omega)
 have c1:∀d:zL,zE 475464487686 be [d]=some (be++[d]):=fun d=>jp (by omega);have l1:=fun c m=>znl s.messages b1 x.message c m
 have c2:∀a d be,a.events=s.events→Zq ⟨form,P2 (ts++[c]) i ts.length a d,lg++[x],la++[(lg.length:Int)],be⟩ x.ticket (lg.length:Int) x.at_=some ⟨form,P2 (ts++[c]) i ts.length (tch a x.at_) d,lg++[x],P2 (la++[(lg.length:Int)]) i ts.length (lg.length:Int) (lg.length:Int),be⟩:=fun a d be J=>by
  have:=zgY (form:=form) (lg:=lg++[x]) (be:=be) (k:=(lg.length:Int)) (a:=x.at_) n j o q H a d p (lg.length:Int) (by omega)
  rw[ziC W X]at this
  exact this
 have c3:∀a d be,d.events=0→Zq ⟨form,P2 (ts++[c]) i ts.length a d,lg++[x],P2 (la++[(lg.length:Int)]) i ts.length (lg.length:Int) (lg.length:Int),be⟩ x.to_ (lg.length:Int) x.at_=some ⟨form,P2 (ts++[c]) i ts.length a (tch d x.at_),lg++[x],P2 (la++[(lg.length:Int)]) i ts.length (lg.length:Int) (lg.length:Int),be⟩:=fun a d be J =>
  zgT (form:=form) (lg:=lg++[x]) (be:=be) (k:=(lg.length:Int)) (a:=x.at_) u o l H a d (lg.length:Int) (lg.length:Int) (by omega)
 have a5:x.ticket=s.no:=by rw[q,g.no]
 unfold ZS;simp only[a9,Option.bind_some,bne_self_eq_false,Bool.false_eq_true,if_false,R];simp only[h,Int.reduceBEq,Bool.or_true,Bool.false_eq_true,if_false,if_true,Option.bind_some,Q,b8,zfa (s:=s) (by omega) (by omega) (by omega),c1,T,l1,Lp.andThen_fin,b9,S,c0,c8,c2,c3,b2,b3];rw[a5];rfl
 have J:∀k:Nat,k<lg.length→JA (be++[⟨(lg.length:Int),s,⟨0,0,0,0,0,0,0,0, [], [], [],0⟩⟩]) k=JA be k:=fun k h=>by
  rw[zcm,if_neg]
  show ¬((lg.length:Int)=(k:Int))
  omega
 have c4:JA (be++[⟨(lg.length:Int),s,⟨0,0,0,0,0,0,0,0, [], [], [],0⟩⟩]) (lg.length:Int)=⟨(lg.length:Int),s,⟨0,0,0,0,0,0,0,0, [], [], [],0⟩⟩:=by rw[zcm,if_pos rfl]
 have a6:(ts++[c]).length≤400:=by simp;omega
 have O:∀{b},b∈s.messages.take e→b∈s.messages:=fun a=>(List.take_sublist _ _).subset a;have G:∀{b},b∈s.messages.drop e→b∈s.messages:=fun a=>(List.drop_sublist _ _).subset a
 have M:∀{b},b∈s.messages→b∈s.messages.take e∨b∈s.messages.drop e:=fun {b} a=>by
  rw[← List.mem_append,List.take_append_drop]
  exact a
 have N:∀{b},b∈s.messages.take e→b∉s.messages.drop e:=fun {b} a d=>by
  have E:=g.ms.nodup
  rw[← List.take_append_drop e s.messages,List.nodup_append]at E
  exact E.2.2 b a b d rfl
 have a4:Own (ts++[c]) ow:=z.own.same (fun k L h=>by
  by_cases f:k<ts.length
  rw[List.getElem?_append_left f]at h
  exact .inl ⟨L,h,rfl,rfl⟩
  have:=JU h
  have c5:k=ts.length:=by simp at this;omega
  subst c5
  rw[I]at h
  cases h
  exact .inr ⟨r,t⟩) (fun k L h=>⟨L,by rw[List.getElem?_append_left (JU h)];exact h,rfl,rfl⟩)
 refine zgI (tz:=ts++[c]) (lz:=la++[(lg.length:Int)]) z a3 a6 o (by simp) (fun k h=>⟨List.getElem?_append_left h,List.getElem?_append_left (by omega)⟩) (fun k d7 c6=>by simp at c6;omega) A u j (zkp q l (.inr h)) (by simp;omega) (fun k B D=>?_) ⟨g.no,sv,g.ms.sub (List.take_sublist _ _),g.ns,fun b a=>g.dis b (O a)⟩
  ⟨l,by simp,g.ms.sub (List.drop_sublist _ _),Lst.nil,fun b a d=>by simp at d⟩ (by rw[zfP v]) (by unfold evs;rw[List.getElem?_eq_none (Nat.le_refl _)];rfl) ?_ J ?_ ?_ (fun f=>by omega)
 rw[JJ,if_neg (by omega),qI,if_neg (by omega),qI,if_neg (by omega)];refine a4.two U I (fun f=>j f.symm) (P2_i n j _ _) (P2_j u _ _) (fun k B D=>P2_o B D _ _) (fun b a=>.inl (a.imp O id)) (fun b a=>.inl (.inl (G (a.resolve_right (by simp))))) (fun b a d=>?_) (fun b a=>?_) (fun b a=>?_) (fun b a d=>?_);have w:b∈s.messages.drop e:=d.resolve_right (by simp);rcases a with a|a;exact N a w;exact g.dis b (G w) a
 have E:b∉s.messages.drop e:=fun w=>by
  rcases a with a|a
  exact N a w
  exact g.dis b (G w) a
 rw[qT,qT,qT,if_neg E,g.no];rcases a with a|a;have y:b∈s.messages.take e:=a;rw[if_pos y];split <;> rfl
 have y:b∈s.notes:=a;rw[if_pos y];have y:b∈s.messages.drop e:=a.resolve_right (by simp);rw[qT,if_pos y,l];have a0:b∉s.messages.take e:=fun f=>a (.inl f);have K:b∉s.notes:=fun f=>a (.inr f);have a1:b∉s.messages.drop e:=fun f=>d (.inl f);have a2:b∉s.messages:=fun f=>(M f).elim a0 a1
 have c7:¬((b∈s.messages∨b∈s.notes)∨(b∈c.messages∨b∈c.notes)):=by
  rw[r,t]
  simp[a2,K]
 rw[qT,if_neg a1,qT,if_neg K,qT,if_neg a0,zdT,if_neg (fun f=>(List.mem_append.1 f).elim a2 K),if_neg c7];refine .inl ⟨⟨8,x.to_,(lg.length:Int),tch s x.at_,c⟩,ts.length,by rw[JJ,if_pos q],q,.inr h,l,by rw[qJ];exact u,j,rfl,l,h.symm,by rw[c4];exact⟨rfl,rfl,rfl,rfl⟩,(fun f=>by cases f),fun _=>⟨_,_,P2_i n j _ _,P2_j u _ _,?_⟩⟩;refine⟨⟨g.ms,g.ns,by show Lst c.messages;rw[r];exact Lst.nil,by show Lst c.notes;rw[t];exact Lst.nil,g.dis,fun b a=>by rw[show (⟨8,x.to_,(lg.length:Int),tch s x.at_,c⟩:zl).to_=c from rfl,r]at a;simp at a,fun b _ a=>by rw[show (⟨8,x.to_,(lg.length:Int),tch s x.at_,c⟩:zl).to_=c from rfl,r,t]at a;simp at a⟩,fun b a=>?_,fun f=>⟨rfl,rfl,rfl⟩⟩;rcases a with a|a|a|a;rcases M (show b∈s.messages from a)with f|f
 exact .inl (.inl f);exact .inr (.inl f);exact .inl (.inr a);rw[show (⟨8,x.to_,(lg.length:Int),tch s x.at_,c⟩:zl).to_=c from rfl,r]at a;simp at a;rw[show (⟨8,x.to_,(lg.length:Int),tch s x.at_,c⟩:zl).to_=c from rfl,t]at a;simp at a;refine .inr ⟨by rw[JJ,if_neg (by omega),qI,if_pos l],fun f=>by omega⟩}
end Go.Proofs.YtligccioljhapaaGreatDoor.M
namespace Go.Proofs.YtligccioljhapaaGreatDoor.M
open Go Go.Pu
set_option linter.unusedSimpArgs false
set_option linter.unusedVariables false
variable{F:Nat}{form:zr}{ts:List za}{lg:List zk}{la:List Int}{ow:List (Int×Int)}{un:List (Int×zl)}{be:List zL}{oth:Int}{x:zk}{i j:Nat}
def bs(u:zl)(s:za):za :=
 if u.kind=8 then ⟨s.no,s.opened,s.changed,s.status,s.priority,s.person,s.into,s.from_,s.values,u.before.messages,u.before.notes,s.events⟩
 else ⟨s.no,s.opened,s.changed,u.before.status,s.priority,s.person,u.before.into,s.from_,s.values,u.before.messages,u.before.notes,s.events⟩
def bt(u:zl)(t:za)(a:Int):za :=
 if u.kind=8 then ⟨t.no,t.opened,a,6,t.priority,t.person,t.into,t.from_,t.values, [], [],t.events+1⟩
 else ⟨t.no,t.opened,a,u.to_.status,t.priority,t.person,u.to_.into,t.from_,t.values,u.to_.messages,u.to_.notes,t.events+1⟩
noncomputable def bo(u:zl)(s t:za)(ow:List (Int×Int)):List (Int×Int) :=
 if u.kind=8 then puts (puts (dels (dels ow (s.messages++s.notes)) (t.messages++t.notes)) u.before.messages s.no) u.before.notes s.no
 else puts (puts (puts (puts (dels (dels ow (s.messages++s.notes)) (t.messages++t.notes)) u.before.messages s.no) u.before.notes s.no) u.to_.messages t.no) u.to_.notes t.no
theorem ziW(hi:i<ts.length)(f:j<ts.length)(e:j≠i)(I:la.length=ts.length)(J:ts.length≤401)(c:zl)(h:c.other=(j:Int)+1)(two:Two c.before c.to_)(s t:za)(p E k a:Int)(K:s.messages.length≤1000)(L:s.notes.length≤1000)(M:t.messages.length≤1000)(N:t.notes.length≤1000)(H:0≤t.events∧t.events≤10000):
  Jf ⟨form,lg,P2 ts i j s t,⟨ow⟩,P2 la i j p E,⟨un⟩,oth⟩ (i:Int) c k a =
   some ⟨form,lg,P2 ts i j (bs c s) (bt c t a),⟨bo c s t ow⟩,P2 la i j p k,⟨ZA un c.other⟩,c.other⟩:=by{
 have l:w64 (c.other-1)=(j:Int):=QD h (by omega);have F:∀a b,idx (P2 ts i j a b) (i:Int)=some a:=fun a b=>ZW (P2_i hi e a b);have G:∀a b,idx (P2 ts i j a b) (j:Int)=some b:=fun a b=>ZW (P2_j f a b);have m:∀a b d,setI (P2 ts i j a b) (i:Int) d=some (P2 ts i j d b):=fun a b d=>by rw[ZV (by rw[qJ];exact hi),zcH e]
 have n:∀a b d,setI (P2 ts i j a b) (j:Int) d=some (P2 ts i j a d):=fun a b d=>by rw[ZV (by rw[qJ];exact f),zcj]
 have o:=zhN (form:=form) (lg:=lg) (ow:=ow) (un:=un) (oth:=oth) (k:=k) (a:=a) (i:=i) f I h J s t p E H
 have q:∀b ow la un oth,qE ⟨form,lg,P2 ts i j s b,⟨ow⟩,la,⟨un⟩,oth⟩ (i:Int)=some ⟨form,lg,P2 ts i j ⟨s.no,s.opened,s.changed,s.status,s.priority,s.person,s.into,s.from_,s.values, [], [],s.events⟩ b,⟨dels ow (s.messages++s.notes)⟩,la,⟨un⟩,oth⟩:=fun b ow la un oth=>by
  rw[zeW (P2_i hi e s b) (by omega),zcH e]
 have r:∀d ow la un oth,qE ⟨form,lg,P2 ts i j d ⟨t.no,t.opened,a,t.status,t.priority,t.person,t.into,t.from_,t.values,t.messages,t.notes,t.events+1⟩,⟨ow⟩,la,⟨un⟩,oth⟩ (j:Int)=some ⟨form,lg,P2 ts i j d ⟨t.no,t.opened,a,t.status,t.priority,t.person,t.into,t.from_,t.values, [], [],t.events+1⟩,⟨dels ow (t.messages++t.notes)⟩,la,⟨un⟩,oth⟩:=fun d ow la un oth=>by
  rw[zeW (P2_j f d _) (by show t.messages.length+t.notes.length≤2000;omega),zcj]
 have u:=zcf two.am.1;have v:=zcf two.an.1;have w:=zcf two.bm.1;have x:=zcf two.bn.1;have y:=two.am.len;have z:=two.an.len;have A:=two.bm.len;have B:=two.bn.len;unfold Jf bs bt bo;by_cases g:c.kind=8;have D:(c.kind==8)=true:=by simpa using g
 simp only[l,F,G,m,n,o,tch,q,r,g,BEq.rfl,if_true,Option.bind_some,zcG,y,z,A,B,List.length_nil,Nat.zero_le,List.nil_append,u,v,w,x];have D:(c.kind==8)=false:=by simpa using g
 simp only[l,F,G,m,n,o,tch,q,r,g,D,Bool.false_eq_true,if_false,Option.bind_some,zcG,y,z,A,B,List.length_nil,Nat.zero_le,List.nil_append,u,v,w,x]}
theorem zlB{R:Type}(be:List zL)(k:Int):
  zG (R:=R) (fun d e=>Option.bind (Option.bind (idx be (d:Int)) fun b=>Option.bind (if (b.event==k)=true then some b else some e) fun c=>some c) fun f=>some (.nx f)) be.length 0 (⟨0,(⟨0,0,0,0,0,0,0,0,([]:(List api_Value)),([]:(List Int)),([]:(List Int)),0⟩:za),(⟨0,0,0,0,0,0,0,0,([]:(List api_Value)),([]:(List Int)),([]:(List Int)),0⟩:za)⟩:zL)=some (.fin (JA be k)):=by{
 obtain⟨h,j,rfl⟩:=qb (R:=R) (b:=fun d e=>Option.bind (Option.bind (idx be (d:Int)) fun b=>Option.bind (if (b.event==k)=true then some b else some e) fun c=>some c) fun f=>some (.nx f))
  be.length (fun a h=>h=JA (be.take a) k) (s:=(⟨0,(⟨0,0,0,0,0,0,0,0,([]:(List api_Value)),([]:(List Int)),([]:(List Int)),0⟩:za),(⟨0,0,0,0,0,0,0,0,([]:(List api_Value)),([]:(List Int)),([]:(List Int)),0⟩:za)⟩:zL)) rfl
  (fun a h i m=>by
   subst m
   refine⟨_,?_,rfl⟩
   have l:be.take (a+1)=be.take a++[be[a]]:=by rw[List.take_add_one,List.getElem?_eq_getElem i];rfl
   rw[l,zcm,ZP _ _ i]
   by_cases g:be[a].event=k
   ·simp only[Option.bind_some,g,BEq.rfl,if_true]
   ·have:(be[a].event==k)=false:=by simpa using g
    simp only[Option.bind_some,this,Bool.false_eq_true,if_false,if_neg g])
 rw[j,List.take_length]}
theorem znh(r:Inv F ts lg la ow un be)(f8:form.fields.length=F)(f5:F≤20)(c2:lg.length<6000)(c9:qo ⟨form,lg,ts,⟨ow⟩,la,⟨un⟩,oth⟩ x=some 0)(d0:qH ⟨form,ts,lg,la,be⟩ x=some 0)(m:x.ticket=(i:Int)+1)(E:x.kind=9)(c3:zeH ts lg la un be i):zgg F form ts lg la ow un be oth x:=by{
 obtain⟨k,N,c,j,e,f,w,y,a0,d1,n,P,l,a1,a2,c4,c5,s,p,z⟩:=c3;have d2:=r.lenT;have A:=r.lenA;have o:=JU s;have t:=JU p;have f9:=r.lenB;have c6:=JU y;have⟨B,f6⟩:=r.good i e s;have⟨G,f7⟩:=r.good j f p;have Q:=QD m (by omega);have U:=QD P (by omega);have R:la[j]?=some (la[j]'(by omega)):=List.getElem?_eq_getElem (by omega);generalize la[j]'(by omega)=q at R;have d3:=B.ms.len;have d4:=B.ns.len;have d5:=G.ms.len;have d6:=G.ns.len;have a3:zE 1599289640401 lg [x]=some (lg++[x]):=jp (by omega);refine⟨P2 ts i j (bs c (tch e x.at_)) (bt c f x.at_),P2 la i j (lg.length:Int) (lg.length:Int),bo c e f ow,ZA (ZA un x.ticket) c.other,be,c.other,?_,?_,?_⟩;have a4:=zbw (form:=form) (lg:=lg++[x]) (ow:=ow) (un:=un) (oth:=oth) (k:=(lg.length:Int)) (a:=x.at_) s A m (by omega) (by omega);rw[zce l p,zce l R]at a4;have d7:idx (P2 ts i j (tch e x.at_) f) (i:Int)=some (tch e x.at_):=ZW (P2_i o l _ _);have d8:=ziW (form:=form) (lg:=lg++[x]) (ow:=ow) (un:=ZA un x.ticket) (oth:=oth) o t l A (by omega) c a1 z.two (tch e x.at_) f (lg.length:Int) q (lg.length:Int) x.at_ d3 d4 d5 d6 (by omega);rw[← m]at a0;unfold zU;simp only[c9,Option.bind_some,bne_self_eq_false,Bool.false_eq_true,if_false,a3];simp only[E,Int.reduceBEq,Bool.or_self,Bool.false_eq_true,if_false,if_true,Option.bind_some,a4,Q,d7,a0,Option.getD_some,d8];rfl;have a5:idx ts (i:Int)=some e:=ZW s;have a6:idx ts (j:Int)=some f:=ZW p;have b9:∀a d,idx (P2 ts i j a d) (i:Int)=some a:=fun a d=>ZW (P2_i o l a d);have c0:∀a d,idx (P2 ts i j a d) (j:Int)=some d:=fun a d=>ZW (P2_j t a d);have a7:∀h,setI ts (i:Int) h=some (P2 ts i j h f):=fun h=>by rw[ZV o,zce l p]
 have a8:∀a d h,setI (P2 ts i j a d) (i:Int) h=some (P2 ts i j h d):=fun a d h=>by rw[ZV (by rw[qJ];exact o),zcH l]
 have a9:∀a d h,setI (P2 ts i j a d) (j:Int) h=some (P2 ts i j a h):=fun a d h=>by rw[ZV (by rw[qJ];exact t),zcj]
 have W:idx la (i:Int)=some (k:Int):=ZW w;have X:idx (lg++[x]) (k:Int)=some N:=ZW (by rw[List.getElem?_append_left c6];exact y);have b0:=zlB (R:=zJ) be (k:Int)
 have b1:∀a d,d.events=f.events→Zq ⟨form,P2 ts i j a d,lg++[x],la,be⟩ N.to_ (lg.length:Int) x.at_=some ⟨form,P2 ts i j a (tch d x.at_),lg++[x],P2 la i j (k:Int) (lg.length:Int),be⟩:=fun a d d9=>by
  have:=zgT (form:=form) (lg:=lg++[x]) (be:=be) (k:=(lg.length:Int)) (a:=x.at_) (i:=i) t A P (by omega) a d (k:Int) q (by omega)
  rw[ziC w R]at this
  exact this
 have b2:∀a d,a.events=e.events→Zq ⟨form,P2 ts i j a d,lg++[x],P2 la i j (k:Int) (lg.length:Int),be⟩ x.ticket (lg.length:Int) x.at_=some ⟨form,P2 ts i j (tch a x.at_) d,lg++[x],P2 la i j (lg.length:Int) (lg.length:Int),be⟩:=fun a d d9 =>
  zgY (form:=form) (lg:=lg++[x]) (be:=be) (k:=(lg.length:Int)) (a:=x.at_) o l A m (by omega) a d (k:Int) (lg.length:Int) (by omega)
 obtain⟨b3,b4,b5,b6⟩:=c4;unfold ZS zcc;simp only[d0,Option.bind_some,bne_self_eq_false,Bool.false_eq_true,if_false,a3];rcases n with n|n;obtain⟨e0,e1,e2,e3⟩:=c5 (a2.trans n);have u8:¬c.kind=8:=by omega
 simp only[E,n,Int.reduceBEq,Bool.or_self,Bool.false_eq_true,if_false,if_true,Option.bind_some,Q,U,a5,a6,W,X,b0,Lp.andThen_fin,a7,b9,c0,a8,a9,b1,b2,b3,b4,b5,b6,e0,e1,e2,e3,bs,bt,if_neg u8];rfl;have u8:c.kind=8:=a2.trans n;obtain⟨S,T,e4⟩:=z.spl u8;simp only[E,n,Int.reduceBEq,Bool.or_self,Bool.false_eq_true,if_false,if_true,Option.bind_some,Q,U,a5,a6,W,X,b0,Lp.andThen_fin,a7,b9,c0,a8,a9,b1,b2,b3,b4,b5,b6, ← S, ← T,e4,bs,bt,if_pos u8];rfl;have Z:f.no=(j:Int)+1:=G.no;have two:=z.two
 have c7:∀k:Nat,Tch lg la x k↔k=i∨k=j:=by
  intro h
  unfold Tch
  constructor
  rintro (g |⟨g,_⟩|⟨_,e5,e6,g2,g3,b7,b8,g4⟩)
  omega
  omega
  have:e5=i:=by omega
  subst this
  rw[w]at b7
  have:e6=k:=by have:=Option.some.inj b7;omega
  subst this
  rw[y]at b8
  cases b8
  omega
  rintro (rfl | rfl)
  exact .inl m
  exact .inr (.inr ⟨E,i,k,N,m,w,y,P⟩)
 have S:(bs c (tch e x.at_)).messages=c.before.messages∧(bs c (tch e x.at_)).notes=c.before.notes∧(bs c (tch e x.at_)).no=e.no∧(bs c (tch e x.at_)).values=e.values∧(bs c (tch e x.at_)).events=e.events+1:=by
  unfold bs
  split <;> exact⟨rfl,rfl,rfl,rfl,rfl⟩
 have T:((bt c f x.at_).messages=if c.kind=8 then [] else c.to_.messages)∧((bt c f x.at_).notes=if c.kind=8 then [] else c.to_.notes)∧(bt c f x.at_).no=f.no∧(bt c f x.at_).values=f.values∧(bt c f x.at_).events=f.events+1:=by
  unfold bt
  split <;> exact⟨rfl,rfl,rfl,rfl,rfl⟩
 obtain⟨u,v,e7,e8,e9⟩:=S;obtain⟨H,I,f0,f1,f2⟩:=T;have c8:∀b,(b∈c.before.messages∨b∈c.before.notes)→(b∈e.messages∨b∈e.notes)∨(b∈f.messages∨b∈f.notes):=fun b a=>z.sub b (a.elim (fun g=>.inl g) fun g=>.inr (.inl g));have int:∀b,(b∈c.to_.messages∨b∈c.to_.notes)→(b∈e.messages∨b∈e.notes)∨(b∈f.messages∨b∈f.notes):=fun b a=>z.sub b (.inr (.inr a))
 have O:∀b,(b∈(bt c f x.at_).messages∨b∈(bt c f x.at_).notes)→¬c.kind=8∧(b∈c.to_.messages∨b∈c.to_.notes):=fun b a=>by
  rw[H,I]at a
  by_cases u8:c.kind=8
  rw[if_pos u8,if_pos u8]at a
  simp at a
  rw[if_neg u8,if_neg u8]at a
  exact⟨u8,a⟩
 refine zgI r c2 d2 A (Nat.le_refl _) (fun k _=>⟨rfl,rfl⟩) (fun k g5 g6=>by omega) o t l c7 (by omega) (fun k J K=>?_) ⟨by rw[e7];exact B.no,by rw[e8];exact B.vals,by rw[u];exact two.am,by rw[v];exact two.an,by rw[u,v];exact two.ad⟩
  ⟨by rw[f0];exact Z,by rw[f1];exact G.vals,?_,?_,?_⟩ (by rw[zfP s,e9]) (by rw[zfP p,f2]) ?_ (fun _ _=>rfl) ?_ ?_ (fun _=>⟨i,k,N,m,w,y,by rw[d1,m],n⟩)
 rw[qI,if_neg (by omega),qI,if_neg (by omega)];rw[H];split;exact Lst.nil;exact two.bm;rw[I];split;exact Lst.nil;exact two.bn;rw[H,I];split;intro b a;simp at a;exact two.bd;refine r.own.two s p (fun g=>l g.symm) (P2_i o l _ _) (P2_j t _ _) (fun k J K=>P2_o J K _ _) (fun b a=>c8 b (by rw[u,v]at a;exact a)) (fun b a=>int b (O b a).2) (fun b a d=>two.ab b (by rw[u,v]at a;exact a) (O b d).2) (fun b a=>?_) (fun b a=>?_) (fun b a d=>?_);rw[u,v]at a;have nt:=two.ab b a;have J:b∉c.to_.messages:=fun g=>nt (.inl g);have K:b∉c.to_.notes:=fun g=>nt (.inr g)
 have base:∀c1,zp (puts (puts c1 c.before.messages e.no) c.before.notes e.no) b=some ((i:Int)+1):=fun c1=>by
  rw[qT,qT,B.no]
  rcases a with a|a
  rw[if_pos a]
  split <;> rfl
  rw[if_pos a]
 unfold bo;split;exact base _;rw[qT,if_neg K,qT,if_neg J];exact base _;obtain⟨u8,D⟩:=O b a;unfold bo;rw[if_neg u8,qT,qT,Z];rcases D with D|D;rw[if_pos D];split <;> rfl
 rw[if_pos D];rw[u,v]at a;have f3:b∉c.before.messages:=fun g=>a (.inl g);have f4:b∉c.before.notes:=fun g=>a (.inr g)
 have base:zp (puts (puts (dels (dels ow (e.messages++e.notes)) (f.messages++f.notes)) c.before.messages e.no) c.before.notes e.no) b=if (b∈e.messages∨b∈e.notes)∨(b∈f.messages∨b∈f.notes) then none else zp ow b:=by
  rw[qT,if_neg f4,qT,if_neg f3,zdT,zdT]
  by_cases L:b∈f.messages∨b∈f.notes
  rw[if_pos (List.mem_append.2 L),if_pos (.inr L)]
  rw[if_neg (fun g=>L (List.mem_append.1 g))]
  by_cases M:b∈e.messages∨b∈e.notes
  rw[if_pos (List.mem_append.2 M),if_pos (.inl M)]
  rw[if_neg (fun g=>M (List.mem_append.1 g)),if_neg (fun g=>g.elim M L)]
 unfold bo;by_cases u8:c.kind=8;rw[if_pos u8];exact base;rw[H,I,if_neg u8,if_neg u8]at d;rw[if_neg u8,qT,if_neg (fun g=>d (.inr g)),qT,if_neg (fun g=>d (.inl g))];exact base;exact .inr ⟨by rw[qI,if_neg (by omega),qI,if_pos m],fun g=>by omega⟩;exact .inr ⟨by rw[qI,if_pos a1],fun g=>by omega⟩}
end Go.Proofs.YtligccioljhapaaGreatDoor.M
