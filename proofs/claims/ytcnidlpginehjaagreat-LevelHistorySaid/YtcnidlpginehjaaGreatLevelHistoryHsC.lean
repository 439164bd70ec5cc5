import Derived.Test.YtcnidlpginehjaaGreatLevelHistoryHsB
namespace Go.Proofs.YtcnidlpginehjaaGreat.M
open Go Go.Pu
set_option linter.unusedSimpArgs false
set_option linter.unusedVariables false
variable{F:Nat}{form:zK}{ts:List zd}{lg:List zk}{la:List Int}{ow:List (Int×Int)}{un:List (Int×zo)}{be:List zE}{oth:Int}
theorem zaB{α:Type}{l:List α}{i:Nat}{a:α}(b:i<l.length):idx (l.set i a) (i:Int)=some a:=by rw[zbg,List.getElem?_set_self b]
theorem qU{α:Type}{l:List α}{i:Nat}{a:α}(b:i<l.length):setI l (i:Int) a=some (l.set i a):=by rw[setI,if_pos (by simp only[Int.toNat_natCast];omega),Int.toNat_natCast]
theorem qZ{α:Type}{l:List α}{i:Nat}{a:α}(b:l[i]?=some a):idx l (i:Int)=some a:=by rw[zbg,b]
theorem JV{α:Type}{l:List α}{i:Nat}{a:α}(b:l[i]?=some a):i<l.length:=(List.getElem?_eq_some_iff.1 b).1
theorem zgY{α:Type}{l:List α}{i:Nat}{a:α}(c:l[i]?=some a):l.set i a=l:=by{obtain⟨b,rfl⟩:=List.getElem?_eq_some_iff.1 c;exact zhf b}
theorem JP{α:Type}{l:List α}{a:α}{n:Nat}(b:l.length<n):Zc n l [a]=some (l++[a]):=by unfold Zc;rw[if_pos (by simp;omega)]
def tch(s:zd)(a:Int):zd:=⟨s.no,s.opened,a,s.status,s.priority,s.person,s.into,s.from_,s.values,s.messages,s.notes,s.events+1⟩
theorem zbB{i:Nat}{s:zd}{t k a:Int}(d:ts[i]?=some s)(j:la.length=ts.length)(e:t=(i:Int)+1)(l:ts.length≤401)(h:0≤s.events∧s.events≤10000):
  Qu ⟨form,lg,ts,⟨ow⟩,la,⟨un⟩,oth⟩ t k a=some ⟨form,lg,ts.set i (tch s a),⟨ow⟩,la.set i k,⟨qh un t⟩,oth⟩:=by{
 have b:=JV d;have f:w64 (t-1)=(i:Int):=jf e (by omega);have g:w64 (s.events+1)=s.events+1:=Jy (by omega) (by omega);have c:i<la.length:=by omega
 unfold Qu;simp only[f,qZ d,Option.bind_some,qU b,zaB b,g,List.set_set];rw[qU (by rw[List.length_set];exact b),Option.bind_some,jD _ _ c,Option.bind_some,qU c,Option.bind_some,List.set_set];rfl}
theorem zbT{i:Nat}{s:zd}{t k a:Int}(d:ts[i]?=some s)(j:la.length=ts.length)(e:t=(i:Int)+1)(l:ts.length≤401)(h:0≤s.events∧s.events≤10000):
  ZB ⟨form,ts,lg,la,be⟩ t k a=some ⟨form,ts.set i (tch s a),lg,la.set i k,be⟩:=by{
 have b:=JV d;have f:w64 (t-1)=(i:Int):=jf e (by omega);have g:w64 (s.events+1)=s.events+1:=Jy (by omega) (by omega);have c:i<la.length:=by omega
 unfold ZB;simp only[f,qZ d,Option.bind_some,qU b,zaB b,g,List.set_set,jD _ _ c,qU c];rw[qU (by rw[List.length_set];exact b),Option.bind_some,List.set_set];rfl}
theorem zcc{t:Int}{l ms:List Int}(j:l.length≤1000)(k:ms.length≤1000):
  qf ⟨form,lg,ts,⟨ow⟩,la,⟨un⟩,oth⟩ t l ms=some (srt (l++ms),⟨form,lg,ts,⟨puts ow ms t⟩,la,⟨un⟩,oth⟩):=by{
 unfold qf;have h:Zc 17592186044416 l ms=some (l++ms):=by unfold Zc;rw[if_pos (by omega)]
 rw[zdu (by omega),Option.bind_some,h,Option.bind_some]
 obtain⟨b,g,rfl⟩:=JA (R:=List Int×zp) (b:=fun e (a:zp)=>Option.bind (idx ms (e:Int)) fun f=>some (.nx (⟨a.form,a.log,a.tickets,⟨(qR a.owners.l f t)⟩,a.last,⟨a.undo.l⟩,a.other⟩:zp)))
  ms.length (fun d b=>b=⟨form,lg,ts,⟨puts ow (ms.take d) t⟩,la,⟨un⟩,oth⟩) (s:=⟨form,lg,ts,⟨ow⟩,la,⟨un⟩,oth⟩) rfl
  (fun d b c i=>by
   subst i
   rw[jD _ _ c]
   refine⟨_,rfl,?_⟩
   dsimp only
   rw[List.take_add_one,List.getElem?_eq_getElem c]
   unfold puts
   rw[List.foldl_append]
   rfl)
 rw[g,Option.bind_some,Lp.andThen_fin,List.take_length,zez,if_pos (by simp;omega)];rfl}
theorem zdS{i:Nat}{s:zd}(b:ts[i]?=some s)(m:s.messages.length+s.notes.length≤2000):
  qT ⟨form,lg,ts,⟨ow⟩,la,⟨un⟩,oth⟩ (i:Int)=some ⟨form,lg,ts.set i ⟨s.no,s.opened,s.changed,s.status,s.priority,s.person,s.into,s.from_,s.values, [], [],s.events⟩,⟨dels ow (s.messages++s.notes)⟩,la,⟨un⟩,oth⟩:=by{
 have c:=JV b;unfold qT;dsimp only;rw[qZ b,Option.bind_some,zin (by omega),Option.bind_some];generalize s.messages++s.notes=d
 obtain⟨e,k,rfl⟩:=JA (R:=zp) (b:=fun h (a:zp)=>Option.bind (idx d (h:Int)) fun j=>some (.nx (⟨a.form,a.log,a.tickets,⟨(qh a.owners.l j)⟩,a.last,⟨a.undo.l⟩,a.other⟩:zp)))
  d.length (fun g e=>e=⟨form,lg,ts,⟨dels ow (d.take g)⟩,la,⟨un⟩,oth⟩) (s:=⟨form,lg,ts,⟨ow⟩,la,⟨un⟩,oth⟩) rfl
  (fun g e f l=>by
   subst l
   rw[jD _ _ f]
   refine⟨_,rfl,?_⟩
   dsimp only
   rw[List.take_add_one,List.getElem?_eq_getElem f]
   unfold dels
   rw[List.foldl_append]
   rfl)
 rw[k,Option.bind_some,Lp.andThen_fin,List.take_length];simp only[qZ b,Option.bind_some,qU c,zaB c];rw[qU (by rw[List.length_set];exact c),Option.bind_some,List.set_set]}
def sayS(x:zk)(st:Int):Int:=if (((x.who==0)&&((st==3)||(st==5)))||((decide ((0:Int)<x.who))&&(st==1)))=true then 2 else st
theorem zjA{i:Nat}{s:zd}{x:zk}(b:ts[i]?=some s)(d:s.messages.length≤1000):
  zaj ⟨form,lg,ts,⟨ow⟩,la,⟨un⟩,oth⟩ (i:Int) x=some ⟨form,lg,ts.set i ⟨s.no,s.opened,s.changed,sayS x s.status,s.priority,s.person,s.into,s.from_,s.values,srt (s.messages++[x.message]),s.notes,s.events⟩,⟨qR ow x.message s.no⟩,la,⟨un⟩,oth⟩:=by{have c:=JV b;unfold zaj;dsimp only;rw[qZ b,Option.bind_some,zcc d (by simp),Option.bind_some];simp only[qZ b,Option.bind_some,qU c,zaB c];unfold sayS;by_cases a:(((x.who==0)&&((s.status==3)||(s.status==5)))||((decide ((0:Int)<x.who))&&(s.status==1)))=true;rw[if_pos a,if_pos a,qU (by rw[List.length_set];exact c),Option.bind_some,List.set_set];rfl;rw[if_neg a,if_neg a];rfl}
end Go.Proofs.YtcnidlpginehjaaGreat.M
namespace Go.Proofs.YtcnidlpginehjaaGreat.M
open Go Go.Pu
set_option linter.unusedSimpArgs false
set_option linter.unusedVariables false
variable{F:Nat}{form:zK}{ts:List zd}{lg:List zk}{la:List Int}{ow:List (Int×Int)}{un:List (Int×zo)}{be:List zE}{oth:Int}{x:zk}
def Tch(lg:List zk)(la:List Int)(x:zk)(i:Nat):Prop :=
 x.ticket=(i:Int)+1∨((x.kind=7∨x.kind=8)∧x.to_=(i:Int)+1)∨(x.kind=9∧∃(t k:Nat) (y:zk),x.ticket=(t:Int)+1∧la[t]?=some (k:Int)∧lg[k]?=some y∧y.to_=(i:Int)+1)
def evs(ts:List zd)(i:Nat):Int:=match ts[i]? with|some s=>s.events|none=>0
structure Done(F:Nat)(ts:List zd)(lg:List zk)(la:List Int)(x:zk)(ts':List zd)(la':List Int)(ow':List (Int×Int))(un':List (Int×zo))(be':List zE):Prop where
 inv:Inv F ts' (lg++[x]) la' ow' un' be'
 len:ts.length≤ts'.length
 tin:∀i:Nat,Tch lg la x i→i<ts'.length
 new:∀i:Nat,ts.length≤i→i<ts'.length→Tch lg la x i
 out:∀i:Nat,¬Tch lg la x i→i<ts.length→ts'[i]?=ts[i]?∧la'[i]?=la[i]?
 ev:∀(i:Nat) (s':zd),Tch lg la x i→ts'[i]?=some s'→la'[i]?=some (lg.length:Int)∧s'.events=evs ts i+1
 nine:x.kind=9→∃(t k:Nat) (y:zk),x.ticket=(t:Int)+1∧la[t]?=some (k:Int)∧lg[k]?=some y∧y.ticket=x.ticket∧(y.kind=7∨y.kind=8)
def zfd(F:Nat)(form:zK)(ts:List zd)(lg:List zk)(la:List Int)(ow:List (Int×Int))(un:List (Int×zo))(be:List zE)(oth:Int)(x:zk):Prop :=
 ∃(ts':List zd) (la':List Int) (ow':List (Int×Int)) (un':List (Int×zo)) (be':List zE) (oth':Int),
  ZP ⟨form,lg,ts,⟨ow⟩,la,⟨un⟩,oth⟩ x=some (0,⟨form,lg++[x],ts',⟨ow'⟩,la',⟨un'⟩,oth'⟩)∧ZD ⟨form,ts,lg,la,be⟩ x=some (0,⟨form,ts',lg++[x],la',be'⟩)∧
  Done F ts lg la x ts' la' ow' un' be'
theorem zbw(l:Inv F ts lg la ow un be)(n:lg.length<6000){i:Nat}{s s':zd}{ow':List (Int×Int)}(hi:ts[i]?=some s)(h:x.ticket=(i:Int)+1)(j:¬(x.kind=7∨x.kind=8))(k:x.kind≠9)(p:s'.no=s.no)(t:s'.values.length=F)(q:Lst s'.messages)(r:Lst s'.notes)(u:∀m,m∈s'.messages→m∉s'.notes)(g:s'.events=s.events+1)(o:Own (ts.set i s') ow'):
  Done F ts lg la x (ts.set i s') (la.set i (lg.length:Int)) ow' (qh un x.ticket) be:=by{
 have e:=JV hi
 have f:∀a:Nat,Tch lg la x a↔a=i:=by
  intro a
  unfold Tch
  constructor
  rintro (b | b | b)
  omega
  exact absurd b.1 j
  exact absurd b.1 k
  rintro rfl
  exact .inl h
 have v:i<la.length:=by rw[l.lenA];exact e
 refine⟨by rw[h];exact l.one n hi j p t q r u g o,by rw[List.length_set];exact Nat.le_refl _,fun a c=>?_,fun a d w=>?_,fun a c d=>?_,fun a y c d=>?_,fun b=>absurd b k⟩;rw[List.length_set,(f a).1 c];exact e;rw[List.length_set]at w;omega;have:i≠a:=fun b=>c ((f a).2 b.symm);exact⟨List.getElem?_set_ne this,List.getElem?_set_ne this⟩;have b:=(f a).1 c;subst b;rw[List.getElem?_set_self e]at d;cases d;exact⟨List.getElem?_set_self v,by unfold evs;rw[hi];exact g⟩}
theorem zcv(f:Inv F ts lg la ow un be)(b8:form.fields.length=F)(o:lg.length<6000)(p:qX ⟨form,lg,ts,⟨ow⟩,la,⟨un⟩,oth⟩ x=some 0)(q:qx ⟨form,ts,lg,la,be⟩ x=some 0){i:Nat}{s:zd}(e:ts[i]?=some s)(k:x.ticket=(i:Int)+1)(P:((x.kind=2∨x.kind=3)∧(1≤x.message∧x.message≤1000)∧zy ow x.message=none)∨(x.kind=4∧0≤x.field∧x.field<F)∨x.kind=5∨x.kind=6∨(x.kind=10∧(x.message=0→0≤x.field∧x.field<F))):
  zfd F form ts lg la ow un be oth x:=by{
 have b9:=f.lenT;have l:=JV e;have h:=jf k (by omega);have⟨a,b6⟩:=f.good i s e;have X:i<la.length:=by rw[f.lenA];exact l
 have j:Zc 1599289640401 lg [x]=some (lg++[x]):=JP (by omega);have r:=zbB (form:=form) (lg:=lg++[x]) (ow:=ow) (un:=un) (oth:=oth) (k:=(lg.length:Int)) (a:=x.at_) e f.lenA k (by omega) (by omega);have t:idx (ts.set i (tch s x.at_)) (i:Int)=some (tch s x.at_):=zaB l;have b0:(ts.set i (tch s x.at_))[i]?=some (tch s x.at_):=List.getElem?_set_self l;have b7:i<(ts.set i (tch s x.at_)).length:=by rw[List.length_set];exact l
 have m:∀(d n:zd),setI (ts.set i d) (i:Int) n=some (ts.set i n):=fun d n=>by rw[qU (by rw[List.length_set];exact l),List.set_set]
 have u:∀(n:zd),setI ts (i:Int) n=some (ts.set i n):=fun n=>qU l;have v:idx ts (i:Int)=some s:=qZ e;have Z:∀(d:zd),idx (ts.set i d) (i:Int)=some d:=fun d=>zaB l
 have w:∀(J:zd),J.events=s.events→ZB ⟨form,ts.set i J,lg++[x],la,be⟩ x.ticket (lg.length:Int) x.at_=some ⟨form,ts.set i (tch J x.at_),lg++[x],la.set i (lg.length:Int),be⟩:=fun J c0=>by
  rw[zbT (List.getElem?_set_self l) (by rw[List.length_set,f.lenA]) k (by rw[List.length_set];omega) (by omega),List.set_set]
 have a0:=a.ms.len;have a1:=a.ns.len
 have a2:∀(g:Int),(1≤g∧g≤1000)→∀(M:List Int),Lst M→g∉M→Lst (srt (M++[g])):=by
  intro g K M a3 D
  refine zhY (List.nodup_append.2 ⟨a3.nodup,by simp,fun d X n a4=>?_⟩) fun b5 y=>?_
  rw[List.mem_singleton]at a4
  subst a4
  intro c
  subst c
  exact D X
  rcases List.mem_append.1 y with y|y
  exact a3.2 b5 y
  rw[List.mem_singleton]at y
  subst y
  exact K
 rcases P with ⟨b,K,D⟩|⟨b,Q,b2⟩|b|b|⟨b,P⟩;have W:=f.own.none_ D e;have a5:x.message∉s.messages:=fun c=>W (.inl c);have a6:x.message∉s.notes:=fun c=>W (.inr c);rcases b with b|b
 refine⟨ts.set i ⟨s.no,s.opened,x.at_,sayS x s.status,s.priority,s.person,s.into,s.from_,s.values,srt (s.messages++[x.message]),s.notes,s.events+1⟩,la.set i (lg.length:Int),qR ow x.message s.no,qh un x.ticket,be,oth,?_,?_,
  zbw f o e k (by omega) (by omega) rfl a.vals (a2 _ K _ a.ms a5) a.ns (fun g H I=>?_) rfl ?_⟩
 unfold ZP;have sv:=zjA (form:=form) (lg:=lg++[x]) (ow:=ow) (la:=la.set i (lg.length:Int)) (un:=qh un x.ticket) (oth:=oth) (x:=x) b0 a0;simp only[p,b,Option.bind_some,Int.reduceBEq,bne_self_eq_false,Bool.or_self,Bool.false_eq_true,if_false,if_true,j,r,h,t,sv,List.set_set];rfl;unfold ZD;simp only[q,b,Option.bind_some,Int.reduceBEq,bne_self_eq_false,Bool.or_self,Bool.false_eq_true,if_false,if_true,j,h,v,zdY (Nat.le_trans a0 (by omega)),u,Z,m,zfA _ (zgc a.ms.1)];unfold sayS;by_cases R:(((x.who==0)&&((s.status==3)||(s.status==5)))||((decide ((0:Int)<x.who))&&(s.status==1)))=true;simp only[R,if_true,Option.bind_some,w];rfl;rw[Bool.not_eq_true]at R;simp only[R,Bool.false_eq_true,if_false,Option.bind_some,w];rfl;rcases List.mem_append.1 (zau.1 H)with c|c
 exact a.dis g c I;simp at c;subst c;exact a6 I;rw[a.no];refine f.own.add e D fun g=>?_;show (g∈srt (s.messages++[x.message])∨g∈s.notes)↔_;rw[zau,List.mem_append,List.mem_singleton];constructor;rintro ((d | d) | d);exact .inl (.inl d);exact .inr d;exact .inl (.inr d);rintro ((d | d) | d);exact .inl (.inl d);exact .inr d;exact .inl (.inr d)
 refine⟨ts.set i ⟨s.no,s.opened,x.at_,s.status,s.priority,s.person,s.into,s.from_,s.values,s.messages,srt (s.notes++[x.message]),s.events+1⟩,la.set i (lg.length:Int),qR ow x.message s.no,qh un x.ticket,be,oth,?_,?_,
  zbw f o e k (by omega) (by omega) rfl a.vals a.ms (a2 _ K _ a.ns a6) (fun g H I=>?_) rfl ?_⟩
 unfold ZP;have b3:=zcc (form:=form) (lg:=lg++[x]) (ts:=ts.set i (tch s x.at_)) (ow:=ow) (la:=la.set i (lg.length:Int)) (un:=qh un x.ticket) (oth:=oth) (t:=s.no) (ms := [x.message]) a1 (by simp);have b1:qf ⟨form,lg++[x],ts.set i (tch s x.at_),⟨ow⟩,la.set i (lg.length:Int),⟨qh un x.ticket⟩,oth⟩ (tch s x.at_).no (tch s x.at_).notes [x.message]=_:=b3;simp only[p,b,Option.bind_some,Int.reduceBEq,bne_self_eq_false,Bool.or_self,Bool.false_eq_true,if_false,if_true,j,r,h,t,b1,m];rfl;unfold ZD;simp only[q,b,Option.bind_some,Int.reduceBEq,bne_self_eq_false,Bool.or_self,Bool.false_eq_true,if_false,if_true,j,h,v,zdY (Nat.le_trans a1 (by omega)),u,Z,m,zfA _ (zgc a.ns.1),w];rfl;rcases List.mem_append.1 (zau.1 I)with c|c
 exact a.dis g H c;simp at c;subst c;exact a5 H;rw[a.no];refine f.own.add e D fun g=>?_;show (g∈s.messages∨g∈srt (s.notes++[x.message]))↔_;rw[zau,List.mem_append,List.mem_singleton];exact or_assoc.symm
 all_goals
  have E:∀G:zd,G.messages=s.messages→G.notes=s.notes→Own (ts.set i G) ow:=fun G a7 a8=>f.own.same (fun T U b=>by
    by_cases c:i=T
    ·subst c
     rw[List.getElem?_set_self l]at b
     cases b
     exact .inl ⟨s,e,a7,a8⟩
    ·rw[List.getElem?_set_ne c]at b
     exact .inl ⟨U,b,rfl,rfl⟩) (fun T U b=>by
    by_cases c:i=T
    ·subst c
     rw[e]at b
     cases b
     exact⟨G,List.getElem?_set_self l,a7,a8⟩
    ·exact⟨U,by rw[List.getElem?_set_ne c];exact b,rfl,rfl⟩)
 obtain⟨S,A,_⟩:=zfT (l:=s.values) (i:=x.field) Q (by rw[a.vals];omega);have B:setI s.values x.field x.value=some (s.values.set x.field.toNat x.value):=by rw[setI,if_pos (by rw[a.vals];omega)]
 have N:idx (tch s x.at_).values x.field=some S:=A;have O:setI (tch s x.at_).values x.field x.value=some (s.values.set x.field.toNat x.value):=B
 refine⟨ts.set i ⟨s.no,s.opened,x.at_,s.status,s.priority,s.person,s.into,s.from_,s.values.set x.field.toNat x.value,s.messages,s.notes,s.events+1⟩,la.set i (lg.length:Int),ow,qh un x.ticket,be,oth,?_,?_,
  zbw f o e k (by omega) (by omega) rfl (by rw[List.length_set];exact a.vals) a.ms a.ns a.dis rfl (E _ rfl rfl)⟩
 unfold ZP;simp only[p,b,Option.bind_some,Int.reduceBEq,bne_self_eq_false,Bool.or_self,Bool.false_eq_true,if_false,if_true,j,r,h,t,N,O,m];rfl;unfold ZD;simp only[q,b,Option.bind_some,Int.reduceBEq,bne_self_eq_false,Bool.or_self,Bool.false_eq_true,if_false,if_true,j,h,v,A,B,u,w];rfl
 refine⟨ts.set i ⟨s.no,s.opened,x.at_,x.to_,s.priority,s.person,s.into,s.from_,s.values,s.messages,s.notes,s.events+1⟩,la.set i (lg.length:Int),ow,qh un x.ticket,be,oth,?_,?_,
  zbw f o e k (by omega) (by omega) rfl a.vals a.ms a.ns a.dis rfl (E _ rfl rfl)⟩
 unfold ZP;simp only[p,b,Option.bind_some,Int.reduceBEq,bne_self_eq_false,Bool.or_self,Bool.false_eq_true,if_false,if_true,j,r,h,t,m];rfl;unfold ZD;simp only[q,b,Option.bind_some,Int.reduceBEq,bne_self_eq_false,Bool.or_self,Bool.false_eq_true,if_false,if_true,j,h,v,u,w];rfl
 refine⟨ts.set i ⟨s.no,s.opened,x.at_,s.status,s.priority,x.to_,s.into,s.from_,s.values,s.messages,s.notes,s.events+1⟩,la.set i (lg.length:Int),ow,qh un x.ticket,be,oth,?_,?_,
  zbw f o e k (by omega) (by omega) rfl a.vals a.ms a.ns a.dis rfl (E _ rfl rfl)⟩
 unfold ZP;simp only[p,b,Option.bind_some,Int.reduceBEq,bne_self_eq_false,Bool.or_self,Bool.false_eq_true,if_false,if_true,j,r,h,t,m];rfl;unfold ZD;simp only[q,b,Option.bind_some,Int.reduceBEq,bne_self_eq_false,Bool.or_self,Bool.false_eq_true,if_false,if_true,j,h,v,u,w];rfl;by_cases L:x.message=0;obtain⟨Q,b2⟩:=P L;obtain⟨S,A,_⟩:=zfT (l:=s.values) (i:=x.field) Q (by rw[a.vals];omega);have B:∀z,setI s.values x.field z=some (s.values.set x.field.toNat z):=fun z=>by rw[setI,if_pos (by rw[a.vals];omega)]
 have N:idx (tch s x.at_).values x.field=some S:=A;have O:∀z,setI (tch s x.at_).values x.field z=some (s.values.set x.field.toNat z):=B
 refine⟨ts.set i ⟨s.no,s.opened,x.at_,s.status,s.priority,s.person,s.into,s.from_,s.values.set x.field.toNat ⟨0,0,ByteArray.empty⟩,s.messages,s.notes,s.events+1⟩,la.set i (lg.length:Int),ow,qh un x.ticket,be,oth,?_,?_,
  zbw f o e k (by omega) (by omega) rfl (by rw[List.length_set];exact a.vals) a.ms a.ns a.dis rfl (E _ rfl rfl)⟩
 unfold ZP;simp only[p,b,L,Option.bind_some,Int.reduceBEq,bne_self_eq_false,Bool.or_self,Bool.false_eq_true,if_false,if_true,j,r,h,t,N,O,m,BEq.rfl];rfl;unfold ZD;simp only[q,b,L,Option.bind_some,Int.reduceBEq,bne_self_eq_false,Bool.or_self,Bool.false_eq_true,if_false,if_true,j,h,v,A,B,u,BEq.rfl,w];rfl;have a9:(x.message==0)=false:=by simpa using L
 refine⟨ts.set i (tch s x.at_),la.set i (lg.length:Int),ow,qh un x.ticket,be,oth,?_,?_,
  zbw f o e k (by omega) (by omega) rfl a.vals a.ms a.ns a.dis rfl (E _ rfl rfl)⟩
 unfold ZP;simp only[p,b,a9,Option.bind_some,Int.reduceBEq,bne_self_eq_false,Bool.or_self,Bool.false_eq_true,if_false,if_true,j,r,h,t,m];unfold ZD;have b4:=zbT (form:=form) (lg:=lg++[x]) (be:=be) (k:=(lg.length:Int)) (a:=x.at_) e f.lenA k (by omega) (show 0≤s.events∧s.events≤10000 by omega);simp only[q,b,a9,Option.bind_some,Int.reduceBEq,bne_self_eq_false,Bool.or_self,Bool.false_eq_true,if_false,if_true,j,h,v,u,b4]}
theorem ziC(o:Inv F ts lg la ow un be)(B:form.fields.length=F)(O:F≤20)(A:lg.length<6000)(t:qX ⟨form,lg,ts,⟨ow⟩,la,⟨un⟩,oth⟩ x=some 0)(D:qx ⟨form,ts,lg,la,be⟩ x=some 0)(f:x.kind=1)(P:ts.length<400)(g:x.ticket=(ts.length:Int)+1):zfd F form ts lg la ow un be oth x:=by{
 have E:=jf g (by omega);have l:=o.lenA;have u:Zc 1599289640401 lg [x]=some (lg++[x]):=JP (by omega);have v:∀b:zd,Zc 977343669134 ts [b]=some (ts++[b]):=fun b=>JP (by omega);have w:Zc 17592186044416 la [(lg.length:Int)]=some (la++[(lg.length:Int)]):=JP (by omega)
 have y:JC 8796093022208 (form.fields.length:Int) (⟨0,0,ByteArray.empty⟩:zu)=some (List.replicate F ⟨0,0,ByteArray.empty⟩):=by
  rw[JC,if_pos (by omega),Int.toNat_natCast,B]
 have G:w64 ((ts.length:Int)+1)=x.ticket:=by rw[g];exact Jy (by omega) (by omega)
 have p:∀d h:zd,(ts++[d]).set ts.length h=ts++[h]:=fun d h=>by simp
 have sl:(la++[(lg.length:Int)]).set ts.length (lg.length:Int)=la++[(lg.length:Int)]:=by rw[← l];simp
 have k:∀d:zd,(ts++[d])[ts.length]?=some d:=fun d=>by simp
 have H:∀d:zd,idx (ts++[d]) (ts.length:Int)=some d:=fun d=>qZ (k d);have I:∀d h:zd,setI (ts++[d]) (ts.length:Int) h=some (ts++[h]):=fun d h=>by rw[qU (by simp),p]
 have J:∀b:zd,b.events=0→Qu ⟨form,lg++[x],ts++[b],⟨ow⟩,la++[(lg.length:Int)],⟨un⟩,oth⟩ x.ticket (lg.length:Int) x.at_=some ⟨form,lg++[x],ts++[tch b x.at_],⟨ow⟩,la++[(lg.length:Int)],⟨qh un x.ticket⟩,oth⟩:=fun b K=>by
  rw[zbB (k b) (by simp[l]) g (by simp;omega) (by omega),p,sl]
 have L:∀b:zd,b.events=0→ZB ⟨form,ts++[b],lg++[x],la++[(lg.length:Int)],be⟩ x.ticket (lg.length:Int) x.at_=some ⟨form,ts++[tch b x.at_],lg++[x],la++[(lg.length:Int)],be⟩:=fun b K=>by
  rw[zbT (k b) (by simp[l]) g (by simp;omega) (by omega),p,sl]
 have q:∀a:Nat,Tch lg la x a↔a=ts.length:=by
  intro a
  unfold Tch
  constructor
  rintro (j | j | j)
  omega
  omega
  omega
  rintro rfl
  exact .inl g
 have n:∀(b:zd) (i:Nat),i<ts.length→(ts++[b])[i]?=ts[i]?:=fun b i z=>List.getElem?_append_left z;have r:∀(i:Nat),i<ts.length→(la++[(lg.length:Int)])[i]?=la[i]?:=fun i z=>List.getElem?_append_left (by omega);have s:(la++[(lg.length:Int)])[ts.length]?=some (lg.length:Int):=by rw[← l];simp
 refine⟨ts++[⟨x.ticket,x.at_,x.at_,1,x.to_,0,0,0,List.replicate F ⟨0,0,ByteArray.empty⟩, [], [],1⟩],la++[(lg.length:Int)],ow,qh un x.ticket,be,oth,?_,?_,⟨?_,by simp,?_,?_,?_,?_,fun j=>by omega⟩⟩;unfold ZP;simp only[t,f,Option.bind_some,Int.reduceBEq,bne_self_eq_false,Bool.or_false,Bool.true_or,Bool.false_eq_true,if_false,if_true,u,y,G,v,w,J,E,H,I];rfl;unfold ZD;simp only[D,f,Option.bind_some,Int.reduceBEq,bne_self_eq_false,Bool.false_eq_true,if_false,if_true,u,y,v,w,L];rfl
 refine o.step (fun a=>a=ts.length) A (by simp;omega) (by simp[l]) (by simp) (by have:=o.lenB;omega) (fun a e c=>by simp at c;omega) (fun a e c=>⟨n _ a e,r a e,by rw[qV,if_neg (by omega)]⟩)
  (fun a e c=>by subst c;exact s) (fun a m e c=>?_) (o.own.same (fun a m f=>?_) (fun a m f=>⟨m,by rw[n _ a (JV f)];exact f,rfl,rfl⟩)) (fun a _=>rfl) (fun a e c=>?_)
 subst e;rw[k]at c;cases c;exact⟨⟨g,by simp,Lst.nil,Lst.nil,fun Q M=>by simp at M⟩,by show (1:Int)≤1;omega,by show (1:Int)≤_;omega⟩;by_cases j:a<ts.length;rw[n _ a j]at f;exact .inl ⟨m,f,rfl,rfl⟩;have:=JV f;have N:a=ts.length:=by simp at this;omega
 subst N;rw[k]at f;cases f;exact .inr ⟨rfl,rfl⟩;subst c;exact .inr ⟨by rw[qV,if_pos g],fun t=>by omega⟩;intro a e;rw[(q a).1 e];simp;intro a e c;rw[q];simp at c;omega;intro a e c;exact⟨n _ a c,r a c⟩;intro a m e c;have j:=(q a).1 e;subst j;rw[k]at c;cases c;refine⟨s,?_⟩;unfold evs;rw[List.getElem?_eq_none (Nat.le_refl _)];rfl}
end Go.Proofs.YtcnidlpginehjaaGreat.M
namespace Go.Proofs.YtcnidlpginehjaaGreat.M
open Go Go.Pu
set_option linter.unusedSimpArgs false
set_option linter.unusedVariables false
variable{F:Nat}{form:zK}{ts:List zd}{lg:List zk}{la:List Int}{ow:List (Int×Int)}{un:List (Int×zo)}{be:List zE}{oth:Int}{x:zk}
def P2{α:Type}(l:List α)(i j:Nat)(a b:α):List α:=(l.set i a).set j b
theorem qY{α:Type}(l:List α)(i j:Nat)(a b:α):(P2 l i j a b).length=l.length:=by simp[P2]
theorem P2_i{α:Type}{l:List α}{i j:Nat}(hi:i<l.length)(c:j≠i)(a b:α):(P2 l i j a b)[i]?=some a:=by{rw[P2,List.getElem?_set_ne c,List.getElem?_set_self hi]}
theorem P2_j{α:Type}{l:List α}{i j:Nat}(c:j<l.length)(a b:α):(P2 l i j a b)[j]?=some b:=by{rw[P2,List.getElem?_set_self (by rw[List.length_set];exact c)]}
theorem P2_o{α:Type}{l:List α}{i j k:Nat}(hi:k≠i)(d:k≠j)(a b:α):(P2 l i j a b)[k]?=l[k]?:=by{rw[P2,List.getElem?_set_ne (fun c=>d c.symm),List.getElem?_set_ne (fun c=>hi c.symm)]}
theorem zcm{α:Type}{l:List α}{i j:Nat}(d:j≠i)(a b c:α):(P2 l i j a b).set i c=P2 l i j c b:=by{rw[P2,P2,List.set_comm _ _ d,List.set_set]}
theorem zbR{α:Type}{l:List α}{i j:Nat}(a b c:α):(P2 l i j a b).set j c=P2 l i j a c:=by{rw[P2,P2,List.set_set]}
theorem zgK{α:Type}{l:List α}{i j:Nat}{a b:α}(hi:l[i]?=some a)(c:l[j]?=some b):P2 l i j a b=l:=by{rw[P2,zgY hi,zgY c]}
theorem zcV{α:Type}{l:List α}{i j:Nat}{b:α}(c:j≠i)(d:l[j]?=some b)(a:α):l.set i a=P2 l i j a b:=by{rw[P2];exact (zgY (l:=l.set i a) (by rw[List.getElem?_set_ne (fun e=>c e.symm)];exact d)).symm}
theorem zjY{α:Type}{l:List α}{i:Nat}(hi:i<l.length)(n a b:α):P2 (l++[n]) i l.length a b=l.set i a++[b]:=by{rw[P2,List.set_append_left _ _ hi];simp}
theorem zgT(l:List Int)(a:Int):insL a (srt l)=srt (l++[a]):=by{rw[zfA _ (zdE l)];exact zex ((zaX _).trans (((zaX l).append_right [a]).trans (zaX _).symm)) (zdE _) (zdE _)}
theorem zhL(l:List Int):(srt l).length=l.length:=(zaX l).length_eq
theorem zeV{l:List Int}{k:Nat}(a:k<l.length):l.take (k+1)=l.take k++[l[k]]:=by{rw[List.take_add_one,List.getElem?_eq_getElem a];rfl}
variable{i j:Nat}
theorem zgj(d:j<ts.length)(e:la.length=ts.length){t k a:Int}(f:t=(j:Int)+1)(g:ts.length≤401)(s b:zd)(p h:Int)(c:0≤b.events∧b.events≤10000):
  Qu ⟨form,lg,P2 ts i j s b,⟨ow⟩,P2 la i j p h,⟨un⟩,oth⟩ t k a=some ⟨form,lg,P2 ts i j s (tch b a),⟨ow⟩,P2 la i j p k,⟨qh un t⟩,oth⟩:=by{rw[zbB (P2_j d s b) (by rw[qY,qY,e]) f (by rw[qY];exact g) c,zbR,zbR]}
theorem zfD(hi:i<ts.length)(c:j≠i)(f:la.length=ts.length){t k a:Int}(g:t=(i:Int)+1)(h:ts.length≤401)(s b:zd)(p d:Int)(e:0≤s.events∧s.events≤10000):
  ZB ⟨form,P2 ts i j s b,lg,P2 la i j p d,be⟩ t k a=some ⟨form,P2 ts i j (tch s a) b,lg,P2 la i j k d,be⟩:=by{rw[zbT (P2_i hi c s b) (by rw[qY,qY,f]) g (by rw[qY];exact h) e,zcm c,zcm c]}
theorem zfF(d:j<ts.length)(e:la.length=ts.length){t k a:Int}(f:t=(j:Int)+1)(g:ts.length≤401)(s b:zd)(p h:Int)(c:0≤b.events∧b.events≤10000):
  ZB ⟨form,P2 ts i j s b,lg,P2 la i j p h,be⟩ t k a=some ⟨form,P2 ts i j s (tch b a),lg,P2 la i j p k,be⟩:=by{rw[zbT (P2_j d s b) (by rw[qY,qY,e]) f (by rw[qY];exact g) c,zbR,zbR]}
theorem zkj(hi:i<ts.length)(e:j<ts.length)(d:j≠i)(q:la.length=ts.length)(r:ts.length≤401)(f:x.to_=(j:Int)+1)(u:x.kind=7)(s t:zd)(p g k:Int)(E:s.values.length≤1000)(F:t.values.length≤1000)(h:s.messages.length≤1000)(l:s.notes.length≤1000)(m:t.messages.length≤1000)(n:t.notes.length≤1000)(o:0≤t.events∧t.events≤10000):
  jv ⟨form,lg,P2 ts i j s t,⟨ow⟩,P2 la i j p g,⟨un⟩,oth⟩ (i:Int) x k =
   some ⟨form,lg,P2 ts i j ⟨s.no,s.opened,s.changed,6,s.priority,s.person,x.to_,s.from_,s.values, [], [],s.events⟩ ⟨t.no,t.opened,x.at_,t.status,t.priority,t.person,t.into,t.from_,t.values,srt (t.messages++s.messages),srt (t.notes++s.notes),t.events+1⟩,
    ⟨puts (puts (dels ow (s.messages++s.notes)) s.messages t.no) s.notes t.no⟩,P2 la i j p k,⟨qR (qh un x.to_) x.ticket ⟨7,x.to_,k,s,t⟩⟩,oth⟩:=by{
 have v:w64 (x.to_-1)=(j:Int):=jf f (by omega);have B:∀b a,idx (P2 ts i j b a) (i:Int)=some b:=fun b a=>qZ (P2_i hi d b a);have D:∀b a,idx (P2 ts i j b a) (j:Int)=some a:=fun b a=>qZ (P2_j e b a);have w:∀b a c,setI (P2 ts i j b a) (i:Int) c=some (P2 ts i j c a):=fun b a c=>by rw[qU (by rw[qY];exact hi),zcm d]
 have y:∀b a c,setI (P2 ts i j b a) (j:Int) c=some (P2 ts i j b c):=fun b a c=>by rw[qU (by rw[qY];exact e),zbR]
 have z:∀a la un,qT ⟨form,lg,P2 ts i j s a,⟨ow⟩,la,⟨un⟩,oth⟩ (i:Int)=some ⟨form,lg,P2 ts i j ⟨s.no,s.opened,s.changed,s.status,s.priority,s.person,s.into,s.from_,s.values, [], [],s.events⟩ a,⟨dels ow (s.messages++s.notes)⟩,la,⟨un⟩,oth⟩:=fun a la un=>by
  rw[zdS (P2_i hi d s a) (by omega),zcm d]
 have A:=zgj (form:=form) (lg:=lg) (ow:=ow) (un:=un) (oth:=oth) (k:=k) (a:=x.at_) (i:=i) e q f r s t p g o;unfold jv;simp only[v,B,D,w,y,A,z,tch,zbM (s:=s) (by omega) (by omega) (by omega),zbM (s:=t) (by omega) (by omega) (by omega),u,Int.reduceBEq,if_true,Option.bind_some,zcc,h,l,m,n]}
theorem zjK(hi:i<ts.length)(k:j<ts.length)(p:j≠i)(s t:zd)(ms:List Int)(q:ms.length≤1000)(h:Lst t.messages):
  Zx (R:=Empty) (fun c a=>Option.bind (idx ms (c:Int)) fun d=>Option.bind (idx a.states ((j:Int))) fun b=>Option.bind (Qw b.messages d) fun e=>Option.bind (setI a.states ((j:Int)) ({ (b:zd)with messages:=e })) fun f=>some (.nx (⟨a.form,f,a.log,a.last,a.before⟩:zB))) ms.length 0 (⟨form,P2 ts i j s t,lg,la,be⟩:zB) =
   some (.fin ⟨form,P2 ts i j s ⟨t.no,t.opened,t.changed,t.status,t.priority,t.person,t.into,t.from_,t.values,srt (t.messages++ms),t.notes,t.events⟩,lg,la,be⟩):=by{
 obtain⟨g,n,rfl⟩:=JA (R:=Empty) (b:=fun c a=>Option.bind (idx ms (c:Int)) fun d=>Option.bind (idx a.states ((j:Int))) fun b=>Option.bind (Qw b.messages d) fun e=>Option.bind (setI a.states ((j:Int)) ({ (b:zd)with messages:=e })) fun f=>some (.nx (⟨a.form,f,a.log,a.last,a.before⟩:zB)))
  ms.length (fun m g=>g=⟨form,P2 ts i j s ⟨t.no,t.opened,t.changed,t.status,t.priority,t.person,t.into,t.from_,t.values,srt (t.messages++ms.take m),t.notes,t.events⟩,lg,la,be⟩) (s:=⟨form,P2 ts i j s t,lg,la,be⟩)
  (by rw[List.take_zero,List.append_nil,zbP h.1])
  (fun m g l o=>by
   subst o
   have r:=h.len
   refine⟨_,?_,rfl⟩
   dsimp only
   rw[jD _ _ l,Option.bind_some,qZ (P2_j k _ _),Option.bind_some,zdY (by rw[zhL,List.length_append,List.length_take];omega),Option.bind_some,qU (by rw[qY];exact k),Option.bind_some,zbR,zgT,zeV l,List.append_assoc])
 rw[n,List.take_length]}
theorem zjS(hi:i<ts.length)(k:j<ts.length)(p:j≠i)(s t:zd)(ms:List Int)(q:ms.length≤1000)(h:Lst t.notes):
  Zx (R:=Empty) (fun c a=>Option.bind (idx ms (c:Int)) fun d=>Option.bind (idx a.states ((j:Int))) fun b=>Option.bind (Qw b.notes d) fun e=>Option.bind (setI a.states ((j:Int)) ({ (b:zd)with notes:=e })) fun f=>some (.nx (⟨a.form,f,a.log,a.last,a.before⟩:zB))) ms.length 0 (⟨form,P2 ts i j s t,lg,la,be⟩:zB) =
   some (.fin ⟨form,P2 ts i j s ⟨t.no,t.opened,t.changed,t.status,t.priority,t.person,t.into,t.from_,t.values,t.messages,srt (t.notes++ms),t.events⟩,lg,la,be⟩):=by{
 obtain⟨g,n,rfl⟩:=JA (R:=Empty) (b:=fun c a=>Option.bind (idx ms (c:Int)) fun d=>Option.bind (idx a.states ((j:Int))) fun b=>Option.bind (Qw b.notes d) fun e=>Option.bind (setI a.states ((j:Int)) ({ (b:zd)with notes:=e })) fun f=>some (.nx (⟨a.form,f,a.log,a.last,a.before⟩:zB)))
  ms.length (fun m g=>g=⟨form,P2 ts i j s ⟨t.no,t.opened,t.changed,t.status,t.priority,t.person,t.into,t.from_,t.values,t.messages,srt (t.notes++ms.take m),t.events⟩,lg,la,be⟩) (s:=⟨form,P2 ts i j s t,lg,la,be⟩)
  (by rw[List.take_zero,List.append_nil,zbP h.1])
  (fun m g l o=>by
   subst o
   have r:=h.len
   refine⟨_,?_,rfl⟩
   dsimp only
   rw[jD _ _ l,Option.bind_some,qZ (P2_j k _ _),Option.bind_some,zdY (by rw[zhL,List.length_append,List.length_take];omega),Option.bind_some,qU (by rw[qY];exact k),Option.bind_some,zbR,zgT,zeV l,List.append_assoc])
 rw[n,List.take_length]}
theorem zbL(be:List zE)(b:zE)(k:Int):JE (be++[b]) k=if b.event=k then b else JE be k:=by{unfold JE;rw[List.foldl_append];rfl}
theorem zhK{a b:List Int}(e:Lst a)(f:Lst b)(g:∀c,c∈a→c∉b):Lst (srt (a++b)):=by{refine zhY (List.nodup_append.2 ⟨e.nodup,f.nodup,fun c d j h i=>?_⟩) fun c d=>?_;subst i;exact g c d h;exact (List.mem_append.1 d).elim (e.2 c) (f.2 c)}
theorem zhP(c:x.ticket=(i:Int)+1)(b:x.to_=(j:Int)+1)(d:x.kind=7∨x.kind=8)(k:Nat):Tch lg la x k↔k=i∨k=j:=by{unfold Tch;constructor;rintro (a |⟨_,a⟩|⟨a,_⟩);omega;omega;omega;rintro (rfl | rfl);exact .inl c;exact .inr (.inl ⟨d,b⟩)}
theorem zdI{s:zd}(a:ts[i]?=some s):evs ts i=s.events:=by unfold evs;rw[a]
theorem zft(u:Inv F ts lg la ow un be){tz:List zd}{lz:List Int}(v:lg.length<6000)(G:tz.length≤400)(z:lz.length=tz.length)(o:ts.length≤tz.length)(m:∀k:Nat,k<ts.length→tz[k]?=ts[k]?∧lz[k]?=la[k]?)(n:∀k:Nat,ts.length≤k→k<tz.length→k=j)(hi:i<ts.length)(H:j<tz.length)(p:j≠i){s' d:zd}{ow':List (Int×Int)}{un':List (Int×zo)}{be':List zE}(f:∀k:Nat,Tch lg la x k↔k=i∨k=j)(A:be'.length≤lg.length+1)(B:∀k:Nat,k≠i→k≠j→zy un' ((k:Int)+1)=zy un ((k:Int)+1))(I:Good F i s')(J:Good F j d)(K:s'.events=evs ts i+1)(L:d.events=evs ts j+1)(w:Own (P2 tz i j s' d) ow')(D:∀k:Nat,k<lg.length→JE be' k=JE be k)(M:Kept (P2 tz i j s' d) (P2 lz i j (lg.length:Int) (lg.length:Int)) un' be' i lg.length x)(N:Kept (P2 tz i j s' d) (P2 lz i j (lg.length:Int) (lg.length:Int)) un' be' j lg.length x)(O:x.kind=9→∃(t k:Nat) (y:zk),x.ticket=(t:Int)+1∧la[t]?=some (k:Int)∧lg[k]?=some y∧y.ticket=x.ticket∧(y.kind=7∨y.kind=8)):
  Done F ts lg la x (P2 tz i j s' d) (P2 lz i j (lg.length:Int) (lg.length:Int)) ow' un' be':=by{
 have E:i<tz.length:=by omega
 have ev:∀k:Nat,0≤evs ts k∧evs ts k≤lg.length:=by
  intro k
  unfold evs
  cases g:ts[k]? with
  | none=>exact⟨Int.le_refl _,by show (0:Int)≤_;omega⟩
  | some s=>have:=u.good k s g;exact⟨by show 0≤s.events;omega,this.2.2⟩
 have P:=ev i;have Q:=ev j
 have q:∀(k:Nat) (c:zd),(k=i∨k=j)→(P2 tz i j s' d)[k]?=some c→Good F k c∧c.events=evs ts k+1:=by
  rintro k c (rfl | rfl) g
  rw[P2_i E p]at g
  cases g
  exact⟨I,K⟩
  rw[P2_j H]at g
  cases g
  exact⟨J,L⟩
 have r:∀k:Nat,(k=i∨k=j)→(P2 lz i j (lg.length:Int) (lg.length:Int))[k]?=some (lg.length:Int):=by
  rintro k (rfl | rfl)
  exact P2_i (by omega) p _ _
  exact P2_j (by omega) _ _
 refine⟨u.step (fun k=>k=i∨k=j) v (by rw[qY];exact G) (by rw[qY,qY,z]) (by rw[qY];exact o) A (fun k b a=>.inr (n k b (by rw[qY]at a;exact a))) (fun k b a=>?_) (fun k b a=>r k a) (fun k c b a=>?_) w D (fun k b a=>?_),
  by rw[qY];exact o,fun k b=>?_,fun k b a=>(f k).2 (.inr (n k b (by rw[qY]at a;exact a))),fun k b a=>?_,fun k c b a=>⟨r k ((f k).1 b),(q k c ((f k).1 b) a).2⟩,O⟩
 have h:k≠i:=fun e=>a (.inl e);have l:k≠j:=fun e=>a (.inr e);exact⟨by rw[P2_o h l];exact (m k b).1,by rw[P2_o h l];exact (m k b).2,B k h l⟩;obtain⟨g1,R⟩:=q k c b a;have:=ev k;exact⟨g1,by omega,by omega⟩;rcases a with rfl|rfl;exact M;exact N;rw[qY];rcases (f k).1 b with rfl|rfl <;> omega
 have h:k≠i:=fun e=>b ((f k).2 (.inl e));have l:k≠j:=fun e=>b ((f k).2 (.inr e));exact⟨by rw[P2_o h l];exact (m k a).1,by rw[P2_o h l];exact (m k a).2⟩}
end Go.Proofs.YtcnidlpginehjaaGreat.M
namespace Go.Proofs.YtcnidlpginehjaaGreat.M
open Go Go.Pu
set_option linter.unusedSimpArgs false
set_option linter.unusedVariables false
variable{F:Nat}{form:zK}{ts:List zd}{lg:List zk}{la:List Int}{ow:List (Int×Int)}{un:List (Int×zo)}{be:List zE}{oth:Int}{x:zk}{i j:Nat}
theorem zjO(l:Inv F ts lg la ow un be)(b5:form.fields.length=F)(b2:F≤20)(S:lg.length<6000)(U:qX ⟨form,lg,ts,⟨ow⟩,la,⟨un⟩,oth⟩ x=some 0)(W:qx ⟨form,ts,lg,la,be⟩ x=some 0){s t:zd}(n:ts[i]?=some s)(w:x.ticket=(i:Int)+1)(u:x.kind=7)(k:ts[j]?=some t)(r:x.to_=(j:Int)+1)(e:j≠i):zfd F form ts lg la ow un be oth x:=by{
 have X:=l.lenT;have y:=l.lenA;have g:=JV n;have o:=JV k;have b6:=l.lenB;have⟨h,b3⟩:=l.good i s n;have⟨f,b4⟩:=l.good j t k;have H:=jf w (by omega);have T:=jf r (by omega);have I:la[i]?=some (la[i]'(by omega)):=List.getElem?_eq_getElem (by omega);have A:la[j]?=some (la[j]'(by omega)):=List.getElem?_eq_getElem (by omega);generalize la[i]'(by omega)=p at I;generalize la[j]'(by omega)=q at A;have sv:=h.vals;have Z:=f.vals;have J:=h.ms.len;have K:=h.ns.len;have a0:=f.ms.len;have a1:=f.ns.len;have L:Zc 1599289640401 lg [x]=some (lg++[x]):=JP (by omega);have v:∀b,(b∈s.messages∨b∈s.notes)→¬(b∈t.messages∨b∈t.notes):=fun b M N=>e (l.own.fn k n N M)
 refine⟨P2 ts i j ⟨s.no,s.opened,x.at_,6,s.priority,s.person,x.to_,s.from_,s.values, [], [],s.events+1⟩ ⟨t.no,t.opened,x.at_,t.status,t.priority,t.person,t.into,t.from_,t.values,srt (t.messages++s.messages),srt (t.notes++s.notes),t.events+1⟩,
  P2 la i j (lg.length:Int) (lg.length:Int),puts (puts (dels ow (s.messages++s.notes)) s.messages t.no) s.notes t.no,qR (qh (qh un x.ticket) x.to_) x.ticket ⟨7,x.to_,(lg.length:Int),tch s x.at_,t⟩,be++[⟨(lg.length:Int),s,t⟩],oth,?_,?_,?_⟩
 have O:=zbB (form:=form) (lg:=lg++[x]) (ow:=ow) (un:=un) (oth:=oth) (k:=(lg.length:Int)) (a:=x.at_) n y w (by omega) (by omega);rw[zcV e k,zcV e A]at O;have a2:idx (P2 ts i j (tch s x.at_) t) (i:Int)=some (tch s x.at_):=qZ (P2_i g e _ _);have a3:=zkj (form:=form) (lg:=lg++[x]) (ow:=ow) (un:=qh un x.ticket) (oth:=oth) g o e y (by omega) r u (tch s x.at_) t (lg.length:Int) q (lg.length:Int) (by show s.values.length≤1000;omega) (by omega) J K a0 a1 (by omega);unfold ZP;simp only[U,Option.bind_some,bne_self_eq_false,Bool.false_eq_true,if_false,L];simp only[u,Int.reduceBEq,Bool.or_self,Bool.false_eq_true,if_false,if_true,Option.bind_some,O,H,a2,a3];rfl;have a4:idx ts (i:Int)=some s:=qZ n;have a5:idx ts (j:Int)=some t:=qZ k;have b1:∀a c,idx (P2 ts i j a c) (i:Int)=some a:=fun a c=>qZ (P2_i g e a c);have a6:∀a c E,setI (P2 ts i j a c) (i:Int) E=some (P2 ts i j E c):=fun a c E=>by rw[qU (by rw[qY];exact g),zcm e]
 have a7:∀c:zE,Zc 475464487686 be [c]=some (be++[c]):=fun c=>JP (by omega);have l1:=fun be=>zjK (form:=form) (lg:=lg++[x]) (la:=la) (be:=be) g o e s t s.messages J f.ms;simp only[zgK n k]at l1;have l2:=fun be=>zjS (form:=form) (lg:=lg++[x]) (la:=la) (be:=be) g o e s ⟨t.no,t.opened,t.changed,t.status,t.priority,t.person,t.into,t.from_,t.values,srt (t.messages++s.messages),t.notes,t.events⟩ s.notes K f.ns
 have a8:∀a c be,a.events=s.events→ZB ⟨form,P2 ts i j a c,lg++[x],la,be⟩ x.ticket (lg.length:Int) x.at_=some ⟨form,P2 ts i j (tch a x.at_) c,lg++[x],P2 la i j (lg.length:Int) q,be⟩:=fun a c be B=>by
  have:=zfD (form:=form) (lg:=lg++[x]) (be:=be) (k:=(lg.length:Int)) (a:=x.at_) g e y w (by omega) a c p q (by omega)
  rw[zgK I A]at this
  exact this
 have a9:∀a c be,c.events=t.events→ZB ⟨form,P2 ts i j a c,lg++[x],P2 la i j (lg.length:Int) q,be⟩ x.to_ (lg.length:Int) x.at_=some ⟨form,P2 ts i j a (tch c x.at_),lg++[x],P2 la i j (lg.length:Int) (lg.length:Int),be⟩:=fun a c be B =>
  zfF (form:=form) (lg:=lg++[x]) (be:=be) (k:=(lg.length:Int)) (a:=x.at_) o y r (by omega) a c (lg.length:Int) q (by omega)
 unfold ZD;simp only[W,Option.bind_some,bne_self_eq_false,Bool.false_eq_true,if_false,L];simp only[u,Int.reduceBEq,Bool.or_false,Bool.false_eq_true,if_false,if_true,Option.bind_some,H,T,a4,a5,zdN (s:=s) (by omega) (by omega) (by omega),zdN (s:=t) (by omega) (by omega) (by omega),a7,l1,l2,Lp.andThen_fin,b1,a6,a8,a9];rfl
 have B:∀m:Nat,m<lg.length→JE (be++[⟨(lg.length:Int),s,t⟩]) m=JE be m:=fun m u=>by
  rw[zbL,if_neg]
  show ¬((lg.length:Int)=(m:Int))
  omega
 have P:JE (be++[⟨(lg.length:Int),s,t⟩]) (lg.length:Int)=⟨(lg.length:Int),s,t⟩:=by rw[zbL,if_pos rfl]
 have G:t.no=(j:Int)+1:=f.no
 refine zft l S X y (Nat.le_refl _) (fun m _=>⟨rfl,rfl⟩) (fun m M N=>by omega) g o e (zhP w r (.inl u)) (by simp;omega) (fun m Q R=>?_) ⟨h.no,sv,Lst.nil,Lst.nil,fun b b0=>by simp at b0⟩
  ⟨G,Z,zhK f.ms h.ms fun b a c=>v b (.inl c) (.inl a),zhK f.ns h.ns fun b a c=>v b (.inr c) (.inr a),fun b a c=>?_⟩ (by rw[zdI n]) (by rw[zdI k]) ?_ B ?_ ?_ (fun d=>by omega)
 rw[jB,if_neg (by omega),qV,if_neg (by omega),qV,if_neg (by omega)];rcases List.mem_append.1 (zau.1 a)with a|a <;> rcases List.mem_append.1 (zau.1 c)with c|c
 exact f.dis b a c;exact v b (.inr c) (.inl a);exact v b (.inl a) (.inr c);exact h.dis b a c
 have D:∀b,(b∈srt (t.messages++s.messages)∨b∈srt (t.notes++s.notes))↔((b∈s.messages∨b∈s.notes)∨(b∈t.messages∨b∈t.notes)):=by
  intro b
  rw[zau,zau,List.mem_append,List.mem_append]
  constructor
  rintro ((a | a) | (a | a))
  exact .inr (.inl a)
  exact .inl (.inl a)
  exact .inr (.inr a)
  exact .inl (.inr a)
  rintro ((a | a) | (a | a))
  exact .inl (.inr a)
  exact .inr (.inr a)
  exact .inl (.inl a)
  exact .inr (.inl a)
 refine l.own.two n k (fun d=>e d.symm) (P2_i g e _ _) (P2_j o _ _) (fun m Q R=>P2_o Q R _ _) (fun b a=>by simp at a) (fun b a=>(D b).1 a) (fun b a=>by simp at a) (fun b a=>by simp at a) (fun b a=>?_) (fun b _ a=>?_);rw[Qr,Qr,zdb,G];rcases (D b).1 a with (a|a)|a;rw[if_pos a];split <;> rfl
 rw[if_pos a];split;rfl;split;rfl
 rw[if_neg (fun d=>by
  rw[List.mem_append]at d
  exact v b d a)]
 exact (l.own b _).2 ⟨j,t,k,rfl,a⟩;have z:=fun d=>a ((D b).2 d);rw[Qr,Qr,zdb,if_neg (fun d=>z (.inl (.inr d))),if_neg (fun d=>z (.inl (.inl d))),if_neg (fun d=>z (.inl (List.mem_append.1 d))),if_neg z];refine .inl ⟨⟨7,x.to_,(lg.length:Int),tch s x.at_,t⟩,j,by rw[jB,if_pos w],w,.inl u,r,by rw[qY];exact o,e,rfl,r,u.symm,by rw[P];exact⟨rfl,rfl,rfl,rfl⟩,fun _=>by rw[P];exact⟨rfl,rfl,rfl,rfl⟩,fun _=>⟨_,_,P2_i g e _ _,P2_j o _ _,?_⟩⟩;refine⟨⟨h.ms,h.ns,f.ms,f.ns,h.dis,f.dis,v⟩,fun b a=>.inr ?_,fun d=>by cases d⟩;show b∈srt (t.messages++s.messages)∨b∈srt (t.notes++s.notes);rw[zau,zau,List.mem_append,List.mem_append];rcases a with a|a|a|a;exact .inl (.inr a);exact .inr (.inr a);exact .inl (.inl a);exact .inr (.inl a);refine .inr ⟨by rw[jB,if_neg (by omega),qV,if_pos r],fun d=>by omega⟩}
end Go.Proofs.YtcnidlpginehjaaGreat.M
namespace Go.Proofs.YtcnidlpginehjaaGreat.M
open Go Go.Pu
set_option linter.unusedSimpArgs false
set_option linter.unusedVariables false
variable{F:Nat}{form:zK}{ts:List zd}{lg:List zk}{la:List Int}{ow:List (Int×Int)}{un:List (Int×zo)}{be:List zE}{oth:Int}{x:zk}{i j:Nat}
theorem zkh{α:Type}{s:List α}{k:Nat}(a:k≤s.length):jH s (some (k:Int)) none=some (s.drop k):=by{unfold jH zeB;simp only[Option.getD_some,Option.getD_none];rw[if_pos (by omega)];simp}
theorem Lst.sub{l b:List Int}(c:Lst l)(a:b.Sublist l):Lst b:=⟨c.1.sublist a,fun e d=>c.2 e (a.subset d)⟩
theorem zgP(c:Int):∀b:List Int,b.Pairwise (· < ·)→c∈b→∃f,b.findIdx? (fun x=>c==x)=some f∧f<b.length∧b.filter (fun e=>decide (e<c))=b.take f∧b.filter (fun e=>!decide (e<c))=b.drop f
 | [],_,hm=>by simp at hm
 | a::b,hl,hm=>by
  have h1:=List.pairwise_cons.1 hl
  by_cases g:c=a
  ·subst g
   refine⟨0,by rw[List.findIdx?_cons];simp,by simp,?_,?_⟩
   ·rw[List.take_zero,List.filter_eq_nil_iff]
    intro e d
    rcases List.mem_cons.1 d with rfl|d
    ·simp
    ·have:=h1.1 e d
     simp only[decide_eq_true_eq]
     omega
   ·rw[List.drop_zero,List.filter_eq_self]
    intro e d
    rcases List.mem_cons.1 d with rfl|d
    ·simp
    ·have:=h1.1 e d
     simp only[Bool.not_eq_true',decide_eq_false_iff_not]
     omega
  ·have h:c∈b:=(List.mem_cons.1 hm).resolve_left g
   obtain⟨f,j,m,k,l⟩:=zgP c b h1.2 h
   have i:a<c:=h1.1 c h
   refine⟨f+1,?_,by simp;omega,?_,?_⟩
   ·rw[List.findIdx?_cons,j]
    have:(c==a)=false:=by simpa using g
    rw[this]
    rfl
   ·rw[List.filter_cons_of_pos (by simpa using i),k]
    rfl
   ·rw[List.filter_cons_of_neg (by simpa using i),l]
    rfl
theorem zkc(hi:i<ts.length)(g:j<ts.length)(d:j≠i)(u:la.length=ts.length)(v:ts.length≤401)(h:x.to_=(j:Int)+1)(w:x.kind=8)(s f:zd)(p r k:Int)(O:s.values.length≤1000)(P:f.values.length≤1000)(e:Lst s.messages)(l:Lst s.notes)(m:f.messages=[])(o:f.notes=[])(t:0≤f.events∧f.events≤10000)(n:Nat)(y:s.messages.findIdx? (fun L=>x.message==L)=some n)(q:n<s.messages.length):
  jv ⟨form,lg,P2 ts i j s f,⟨ow⟩,P2 la i j p r,⟨un⟩,oth⟩ (i:Int) x k =
   some ⟨form,lg,P2 ts i j ⟨s.no,s.opened,s.changed,s.status,s.priority,s.person,s.into,s.from_,s.values,s.messages.take n,s.notes,s.events⟩ ⟨f.no,f.opened,x.at_,2,s.priority,f.person,f.into,s.no,f.values,s.messages.drop n, [],f.events+1⟩,
    ⟨puts (puts (puts (dels ow (s.messages++s.notes)) (s.messages.take n) s.no) s.notes s.no) (s.messages.drop n) f.no⟩,P2 la i j p k,⟨qR (qh un x.to_) x.ticket ⟨8,x.to_,k,s,f⟩⟩,oth⟩:=by{
 have z:w64 (x.to_-1)=(j:Int):=jf h (by omega);have M:∀b a,idx (P2 ts i j b a) (i:Int)=some b:=fun b a=>qZ (P2_i hi d b a);have N:∀b a,idx (P2 ts i j b a) (j:Int)=some a:=fun b a=>qZ (P2_j g b a);have A:∀b a c,setI (P2 ts i j b a) (i:Int) c=some (P2 ts i j c a):=fun b a c=>by rw[qU (by rw[qY];exact hi),zcm d]
 have B:∀b a c,setI (P2 ts i j b a) (j:Int) c=some (P2 ts i j b c):=fun b a c=>by rw[qU (by rw[qY];exact g),zbR]
 have D:=e.len;have E:=l.len
 have F:∀a la un,qT ⟨form,lg,P2 ts i j s a,⟨ow⟩,la,⟨un⟩,oth⟩ (i:Int)=some ⟨form,lg,P2 ts i j ⟨s.no,s.opened,s.changed,s.status,s.priority,s.person,s.into,s.from_,s.values, [], [],s.events⟩ a,⟨dels ow (s.messages++s.notes)⟩,la,⟨un⟩,oth⟩:=fun a la un=>by
  rw[zdS (P2_i hi d s a) (by omega),zcm d]
 have G:=zgj (form:=form) (lg:=lg) (ow:=ow) (un:=un) (oth:=oth) (k:=k) (a:=x.at_) (i:=i) g u h v s f p r t;have g1:(s.messages.take n).length≤1000:=by rw[List.length_take];omega
 have H:(s.messages.drop n).length≤1000:=by rw[List.length_drop];omega
 have I:srt (s.messages.take n)=s.messages.take n:=zbP (e.sub (List.take_sublist _ _)).1;have J:srt (s.messages.drop n)=s.messages.drop n:=zbP (e.sub (List.drop_sublist _ _)).1;have K:srt s.notes=s.notes:=zbP l.1;unfold jv
 simp only[z,M,N,A,B,G,F,tch,zbM (s:=s) (by omega) (by omega) (by omega),zbM (s:=f) (by omega) (by rw[m];simp) (by rw[o];simp),w,Int.reduceBEq,Bool.false_eq_true,if_false,Option.bind_some,zgn,y,zih (Nat.le_of_lt q),zkh (Nat.le_of_lt q),zcc,D,E,g1,H,
  List.length_nil,Nat.zero_le,List.nil_append,I,J,K,m,o]}
theorem zkf(ms:List Int)(u:ms.length≤1000)(c:Int)(f:zd)(p:f.messages=[]):
  Zx (R:=Empty) (fun j a=>Option.bind (Option.bind (idx ms (j:Int)) fun e=>Option.bind (if (decide (e<c))=true then Option.bind (Zc 17592186044416 a.1 ([e]:List Int)) fun k=>some (k,a.2) else Option.bind (Zc 17592186044416 a.2.messages ([e]:List Int)) fun l=>some (a.1,(⟨a.2.no,a.2.opened,a.2.changed,a.2.status,a.2.priority,a.2.person,a.2.into,a.2.from_,a.2.values,l,a.2.notes,a.2.events⟩:zd))) fun h=>some (h.1,h.2)) fun i=>some (.nx (i.1,i.2))) ms.length 0 (([]:(List Int)),f) =
   some (.fin (ms.filter (fun b=>decide (b<c)),⟨f.no,f.opened,f.changed,f.status,f.priority,f.person,f.into,f.from_,f.values,ms.filter (fun b=>!decide (b<c)),f.notes,f.events⟩)):=by{
 obtain⟨n,q,rfl⟩:=JA (R:=Empty) (b:=fun j (a:List Int×zd)=>Option.bind (Option.bind (idx ms (j:Int)) fun e=>Option.bind (if (decide (e<c))=true then Option.bind (Zc 17592186044416 a.1 ([e]:List Int)) fun k=>some (k,a.2) else Option.bind (Zc 17592186044416 a.2.messages ([e]:List Int)) fun l=>some (a.1,(⟨a.2.no,a.2.opened,a.2.changed,a.2.status,a.2.priority,a.2.person,a.2.into,a.2.from_,a.2.values,l,a.2.notes,a.2.events⟩:zd))) fun h=>some (h.1,h.2)) fun i=>some (.nx (i.1,i.2)))
  ms.length (fun d n=>n=((ms.take d).filter (fun b=>decide (b<c)),⟨f.no,f.opened,f.changed,f.status,f.priority,f.person,f.into,f.from_,f.values,(ms.take d).filter (fun b=>!decide (b<c)),f.notes,f.events⟩)) (s:=([],f))
  (by rw[List.take_zero,List.filter_nil,List.filter_nil, ← p])
  (fun d n m t=>by
   subst t
   refine⟨_,?_,rfl⟩
   have l1:=List.length_filter_le (fun b=>decide (b<c)) (ms.take d)
   have l2:=List.length_filter_le (fun b=>!decide (b<c)) (ms.take d)
   rw[List.length_take]at l1 l2
   have r:∀g,Zc 17592186044416 ((ms.take d).filter (fun b=>decide (b<c))) [g]=some ((ms.take d).filter (fun b=>decide (b<c))++[g]):=fun g=>JP (by omega)
   have s:∀g,Zc 17592186044416 ((ms.take d).filter (fun b=>!decide (b<c))) [g]=some ((ms.take d).filter (fun b=>!decide (b<c))++[g]):=fun g=>JP (by omega)
   rw[zeV m,List.filter_append,List.filter_append]
   by_cases o:ms[d]<c
   ·simp only[jD _ _ m,Option.bind_some,decide_eq_true o,if_true,r,List.filter_cons,List.filter_nil,Bool.not_true,Bool.false_eq_true,if_false,List.append_nil]
   ·simp only[jD _ _ m,Option.bind_some,decide_eq_false o,Bool.false_eq_true,if_false,s,List.filter_cons,List.filter_nil,Bool.not_false,if_true,List.append_nil])
 rw[q,List.take_length]}
theorem zjQ(z:Inv F ts lg la ow un be)(a7:form.fields.length=F)(c9:F≤20)(a3:lg.length<6000)(a8:qX ⟨form,lg,ts,⟨ow⟩,la,⟨un⟩,oth⟩ x=some 0)(a9:qx ⟨form,ts,lg,la,be⟩ x=some 0){s:zd}(v:ts[i]?=some s)(q:x.ticket=(i:Int)+1)(h:x.kind=8)(d2:ts.length<400)(l:x.to_=(ts.length:Int)+1)(b0:x.message∈s.messages):zfd F form ts lg la ow un be oth x:=by{
 have P:=z.lenA;have A:=JV v;have d3:=z.lenB;have⟨g,d0⟩:=z.good i s v;have Q:=jf q (by omega);have d1:=jf l (by omega);have sv:=g.vals;have b1:=g.ms.len;have d4:=g.ns.len;obtain⟨e,B,D,b2,b3⟩:=zgP x.message s.messages g.ms.1 b0;have R:Zc 1599289640401 lg [x]=some (lg++[x]):=JP (by omega);have b4:∀e:zd,Zc 977343669134 ts [e]=some (ts++[e]):=fun e=>JP (by omega);have S:Zc 17592186044416 la [(lg.length:Int)]=some (la++[(lg.length:Int)]):=JP (by omega)
 have T:JC 8796093022208 (form.fields.length:Int) (⟨0,0,ByteArray.empty⟩:zu)=some (List.replicate F ⟨0,0,ByteArray.empty⟩):=by
  rw[JC,if_pos (by omega),Int.toNat_natCast,a7]
 have b5:w64 ((ts.length:Int)+1)=x.to_:=by rw[l];exact Jy (by omega) (by omega)
 obtain⟨c,m⟩:∃c:zd,c=⟨x.to_,x.at_,0,0,0,0,0,0,List.replicate F ⟨0,0,ByteArray.empty⟩, [], [],0⟩:=⟨_,rfl⟩;have r:c.messages=[]:=by rw[m]
 have t:c.notes=[]:=by rw[m]
 have d5:c.events=0:=by rw[m]
 have d6:c.values.length=F:=by rw[m];simp
 have k:ts.length≠i:=by omega
 have u:ts.length<(ts++[c]).length:=by simp
 have n:i<(ts++[c]).length:=by simp;omega
 have o:(la++[(lg.length:Int)]).length=(ts++[c]).length:=by simp[P]
 have H:(ts++[c]).length≤401:=by simp;omega
 have U:(ts++[c])[i]?=some s:=by rw[List.getElem?_append_left A];exact v
 have I:(ts++[c])[ts.length]?=some c:=by simp
 have W:(la++[(lg.length:Int)])[i]?=some ((la++[(lg.length:Int)])[i]'(by rw[o];exact n)):=List.getElem?_eq_getElem _;generalize (la++[(lg.length:Int)])[i]'(by rw[o];exact n)=p at W;have X:(la++[(lg.length:Int)])[ts.length]?=some (lg.length:Int):=by rw[← P];simp
 refine⟨P2 (ts++[c]) i ts.length ⟨s.no,s.opened,x.at_,s.status,s.priority,s.person,s.into,s.from_,s.values,s.messages.take e,s.notes,s.events+1⟩ ⟨x.to_,x.at_,x.at_,2,s.priority,0,0,s.no,List.replicate F ⟨0,0,ByteArray.empty⟩,s.messages.drop e, [],1⟩,
  P2 (la++[(lg.length:Int)]) i ts.length (lg.length:Int) (lg.length:Int),puts (puts (puts (dels ow (s.messages++s.notes)) (s.messages.take e) s.no) s.notes s.no) (s.messages.drop e) x.to_,qR (qh (qh un x.ticket) x.to_) x.ticket ⟨8,x.to_,(lg.length:Int),tch s x.at_,c⟩,be++[⟨(lg.length:Int),s,⟨0,0,0,0,0,0,0,0, [], [], [],0⟩⟩],oth,?_,?_,?_⟩
 have Z:=zbB (form:=form) (lg:=lg++[x]) (ow:=ow) (un:=un) (oth:=oth) (k:=(lg.length:Int)) (a:=x.at_) U o q (by omega) (by omega);rw[zcV k I,zcV k X]at Z;have b6:idx (P2 (ts++[c]) i ts.length (tch s x.at_) c) (i:Int)=some (tch s x.at_):=qZ (P2_i n k _ _);have b7:=zkc (form:=form) (lg:=lg++[x]) (ow:=ow) (un:=qh un x.ticket) (oth:=oth) n u k o H l h (tch s x.at_) c (lg.length:Int) (lg.length:Int) (lg.length:Int) (by show s.values.length≤1000;omega) (by omega) g.ms g.ns r t (by omega) e B D;unfold ZP;simp only[a8,Option.bind_some,bne_self_eq_false,Bool.false_eq_true,if_false,R];simp only[h,Int.reduceBEq,Bool.or_true,Bool.false_eq_true,if_false,if_true,Option.bind_some,T,b5, ← m,b4,S,Z,Q,b6,b7];rw[m];rfl;have b8:idx ts (i:Int)=some s:=qZ v;have c8:∀a d,idx (P2 (ts++[c]) i ts.length a d) (i:Int)=some a:=fun a d=>qZ (P2_i n k a d);have b9:∀d,setI ts (i:Int) d=some (ts.set i d):=fun d=>qU A;have c0:∀a d,Zc 977343669134 (ts.set i a) [d]=some (P2 (ts++[c]) i ts.length a d):=fun a d=>by rw[zjY A];exact JP (by rw[List.length_set];omega)
 have c1:∀d:zE,Zc 475464487686 be [d]=some (be++[d]):=fun d=>JP (by omega);have l1:=fun c m=>zkf s.messages b1 x.message c m
 have c2:∀a d be,a.events=s.events→ZB ⟨form,P2 (ts++[c]) i ts.length a d,lg++[x],la++[(lg.length:Int)],be⟩ x.ticket (lg.length:Int) x.at_=some ⟨form,P2 (ts++[c]) i ts.length (tch a x.at_) d,lg++[x],P2 (la++[(lg.length:Int)]) i ts.length (lg.length:Int) (lg.length:Int),be⟩:=fun a d be J=>by
  have:=zfD (form:=form) (lg:=lg++[x]) (be:=be) (k:=(lg.length:Int)) (a:=x.at_) n k o q H a d p (lg.length:Int) (by omega)
  rw[zgK W X]at this
  exact this
 have c3:∀a d be,d.events=0→ZB ⟨form,P2 (ts++[c]) i ts.length a d,lg++[x],P2 (la++[(lg.length:Int)]) i ts.length (lg.length:Int) (lg.length:Int),be⟩ x.to_ (lg.length:Int) x.at_=some ⟨form,P2 (ts++[c]) i ts.length a (tch d x.at_),lg++[x],P2 (la++[(lg.length:Int)]) i ts.length (lg.length:Int) (lg.length:Int),be⟩:=fun a d be J =>
  zfF (form:=form) (lg:=lg++[x]) (be:=be) (k:=(lg.length:Int)) (a:=x.at_) u o l H a d (lg.length:Int) (lg.length:Int) (by omega)
 have a5:x.ticket=s.no:=by rw[q,g.no]
 unfold ZD;simp only[a9,Option.bind_some,bne_self_eq_false,Bool.false_eq_true,if_false,R];simp only[h,Int.reduceBEq,Bool.or_true,Bool.false_eq_true,if_false,if_true,Option.bind_some,Q,b8,zdN (s:=s) (by omega) (by omega) (by omega),c1,T,l1,Lp.andThen_fin,b9,S,c0,c8,c2,c3,b2,b3];rw[a5];rfl
 have J:∀j:Nat,j<lg.length→JE (be++[⟨(lg.length:Int),s,⟨0,0,0,0,0,0,0,0, [], [], [],0⟩⟩]) j=JE be j:=fun j h=>by
  rw[zbL,if_neg]
  show ¬((lg.length:Int)=(j:Int))
  omega
 have c4:JE (be++[⟨(lg.length:Int),s,⟨0,0,0,0,0,0,0,0, [], [], [],0⟩⟩]) (lg.length:Int)=⟨(lg.length:Int),s,⟨0,0,0,0,0,0,0,0, [], [], [],0⟩⟩:=by rw[zbL,if_pos rfl]
 have a6:(ts++[c]).length≤400:=by simp;omega
 have O:∀{b},b∈s.messages.take e→b∈s.messages:=fun a=>(List.take_sublist _ _).subset a;have G:∀{b},b∈s.messages.drop e→b∈s.messages:=fun a=>(List.drop_sublist _ _).subset a
 have M:∀{b},b∈s.messages→b∈s.messages.take e∨b∈s.messages.drop e:=fun {b} a=>by
  rw[← List.mem_append,List.take_append_drop]
  exact a
 have N:∀{b},b∈s.messages.take e→b∉s.messages.drop e:=fun {b} a d=>by
  have E:=g.ms.nodup
  rw[← List.take_append_drop e s.messages,List.nodup_append]at E
  exact E.2.2 b a b d rfl
 have a4:Own (ts++[c]) ow:=z.own.same (fun j L h=>by
  by_cases f:j<ts.length
  rw[List.getElem?_append_left f]at h
  exact .inl ⟨L,h,rfl,rfl⟩
  have:=JV h
  have c5:j=ts.length:=by simp at this;omega
  subst c5
  rw[I]at h
  cases h
  exact .inr ⟨r,t⟩) (fun j L h=>⟨L,by rw[List.getElem?_append_left (JV h)];exact h,rfl,rfl⟩)
 refine zft (tz:=ts++[c]) (lz:=la++[(lg.length:Int)]) z a3 a6 o (by simp) (fun j h=>⟨List.getElem?_append_left h,List.getElem?_append_left (by omega)⟩) (fun j d7 c6=>by simp at c6;omega) A u k (zhP q l (.inr h)) (by simp;omega) (fun j B D=>?_) ⟨g.no,sv,g.ms.sub (List.take_sublist _ _),g.ns,fun b a=>g.dis b (O a)⟩
  ⟨l,by simp,g.ms.sub (List.drop_sublist _ _),Lst.nil,fun b a d=>by simp at d⟩ (by rw[zdI v]) (by unfold evs;rw[List.getElem?_eq_none (Nat.le_refl _)];rfl) ?_ J ?_ ?_ (fun f=>by omega)
 rw[jB,if_neg (by omega),qV,if_neg (by omega),qV,if_neg (by omega)];refine a4.two U I (fun f=>k f.symm) (P2_i n k _ _) (P2_j u _ _) (fun j B D=>P2_o B D _ _) (fun b a=>.inl (a.imp O id)) (fun b a=>.inl (.inl (G (a.resolve_right (by simp))))) (fun b a d=>?_) (fun b a=>?_) (fun b a=>?_) (fun b a d=>?_);have w:b∈s.messages.drop e:=d.resolve_right (by simp);rcases a with a|a;exact N a w;exact g.dis b (G w) a
 have E:b∉s.messages.drop e:=fun w=>by
  rcases a with a|a
  exact N a w
  exact g.dis b (G w) a
 rw[Qr,Qr,Qr,if_neg E,g.no];rcases a with a|a;have y:b∈s.messages.take e:=a;rw[if_pos y];split <;> rfl
 have y:b∈s.notes:=a;rw[if_pos y];have y:b∈s.messages.drop e:=a.resolve_right (by simp);rw[Qr,if_pos y,l];have a0:b∉s.messages.take e:=fun f=>a (.inl f);have K:b∉s.notes:=fun f=>a (.inr f);have a1:b∉s.messages.drop e:=fun f=>d (.inl f);have a2:b∉s.messages:=fun f=>(M f).elim a0 a1
 have c7:¬((b∈s.messages∨b∈s.notes)∨(b∈c.messages∨b∈c.notes)):=by
  rw[r,t]
  simp[a2,K]
 rw[Qr,if_neg a1,Qr,if_neg K,Qr,if_neg a0,zdb,if_neg (fun f=>(List.mem_append.1 f).elim a2 K),if_neg c7];refine .inl ⟨⟨8,x.to_,(lg.length:Int),tch s x.at_,c⟩,ts.length,by rw[jB,if_pos q],q,.inr h,l,by rw[qY];exact u,k,rfl,l,h.symm,by rw[c4];exact⟨rfl,rfl,rfl,rfl⟩,(fun f=>by cases f),fun _=>⟨_,_,P2_i n k _ _,P2_j u _ _,?_⟩⟩;refine⟨⟨g.ms,g.ns,by show Lst c.messages;rw[r];exact Lst.nil,by show Lst c.notes;rw[t];exact Lst.nil,g.dis,fun b a=>by rw[show (⟨8,x.to_,(lg.length:Int),tch s x.at_,c⟩:zo).to_=c from rfl,r]at a;simp at a,fun b _ a=>by rw[show (⟨8,x.to_,(lg.length:Int),tch s x.at_,c⟩:zo).to_=c from rfl,r,t]at a;simp at a⟩,fun b a=>?_,fun f=>⟨rfl,rfl,rfl⟩⟩;rcases a with a|a|a|a;rcases M (show b∈s.messages from a)with f|f
 exact .inl (.inl f);exact .inr (.inl f);exact .inl (.inr a);rw[show (⟨8,x.to_,(lg.length:Int),tch s x.at_,c⟩:zo).to_=c from rfl,r]at a;simp at a;rw[show (⟨8,x.to_,(lg.length:Int),tch s x.at_,c⟩:zo).to_=c from rfl,t]at a;simp at a;refine .inr ⟨by rw[jB,if_neg (by omega),qV,if_pos l],fun f=>by omega⟩}
end Go.Proofs.YtcnidlpginehjaaGreat.M
namespace Go.Proofs.YtcnidlpginehjaaGreat.M
open Go Go.Pu
set_option linter.unusedSimpArgs false
set_option linter.unusedVariables false
variable{F:Nat}{form:zK}{ts:List zd}{lg:List zk}{la:List Int}{ow:List (Int×Int)}{un:List (Int×zo)}{be:List zE}{oth:Int}{x:zk}{i j:Nat}
def bs(u:zo)(s:zd):zd :=
 if u.kind=8 then ⟨s.no,s.opened,s.changed,s.status,s.priority,s.person,s.into,s.from_,s.values,u.before.messages,u.before.notes,s.events⟩
 else ⟨s.no,s.opened,s.changed,u.before.status,s.priority,s.person,u.before.into,s.from_,s.values,u.before.messages,u.before.notes,s.events⟩
def bt(u:zo)(t:zd)(a:Int):zd :=
 if u.kind=8 then ⟨t.no,t.opened,a,6,t.priority,t.person,t.into,t.from_,t.values, [], [],t.events+1⟩
 else ⟨t.no,t.opened,a,u.to_.status,t.priority,t.person,u.to_.into,t.from_,t.values,u.to_.messages,u.to_.notes,t.events+1⟩
noncomputable def bo(u:zo)(s t:zd)(ow:List (Int×Int)):List (Int×Int) :=
 if u.kind=8 then puts (puts (dels (dels ow (s.messages++s.notes)) (t.messages++t.notes)) u.before.messages s.no) u.before.notes s.no
 else puts (puts (puts (puts (dels (dels ow (s.messages++s.notes)) (t.messages++t.notes)) u.before.messages s.no) u.before.notes s.no) u.to_.messages t.no) u.to_.notes t.no
theorem zjq(hi:i<ts.length)(f:j<ts.length)(e:j≠i)(I:la.length=ts.length)(J:ts.length≤401)(c:zo)(h:c.other=(j:Int)+1)(two:Two c.before c.to_)(s t:zd)(p E k a:Int)(K:s.messages.length≤1000)(L:s.notes.length≤1000)(M:t.messages.length≤1000)(N:t.notes.length≤1000)(H:0≤t.events∧t.events≤10000):
  Jg ⟨form,lg,P2 ts i j s t,⟨ow⟩,P2 la i j p E,⟨un⟩,oth⟩ (i:Int) c k a =
   some ⟨form,lg,P2 ts i j (bs c s) (bt c t a),⟨bo c s t ow⟩,P2 la i j p k,⟨qh un c.other⟩,c.other⟩:=by{
 have l:w64 (c.other-1)=(j:Int):=jf h (by omega);have F:∀a b,idx (P2 ts i j a b) (i:Int)=some a:=fun a b=>qZ (P2_i hi e a b);have G:∀a b,idx (P2 ts i j a b) (j:Int)=some b:=fun a b=>qZ (P2_j f a b);have m:∀a b d,setI (P2 ts i j a b) (i:Int) d=some (P2 ts i j d b):=fun a b d=>by rw[qU (by rw[qY];exact hi),zcm e]
 have n:∀a b d,setI (P2 ts i j a b) (j:Int) d=some (P2 ts i j a d):=fun a b d=>by rw[qU (by rw[qY];exact f),zbR]
 have o:=zgj (form:=form) (lg:=lg) (ow:=ow) (un:=un) (oth:=oth) (k:=k) (a:=a) (i:=i) f I h J s t p E H
 have q:∀b ow la un oth,qT ⟨form,lg,P2 ts i j s b,⟨ow⟩,la,⟨un⟩,oth⟩ (i:Int)=some ⟨form,lg,P2 ts i j ⟨s.no,s.opened,s.changed,s.status,s.priority,s.person,s.into,s.from_,s.values, [], [],s.events⟩ b,⟨dels ow (s.messages++s.notes)⟩,la,⟨un⟩,oth⟩:=fun b ow la un oth=>by
  rw[zdS (P2_i hi e s b) (by omega),zcm e]
 have r:∀d ow la un oth,qT ⟨form,lg,P2 ts i j d ⟨t.no,t.opened,a,t.status,t.priority,t.person,t.into,t.from_,t.values,t.messages,t.notes,t.events+1⟩,⟨ow⟩,la,⟨un⟩,oth⟩ (j:Int)=some ⟨form,lg,P2 ts i j d ⟨t.no,t.opened,a,t.status,t.priority,t.person,t.into,t.from_,t.values, [], [],t.events+1⟩,⟨dels ow (t.messages++t.notes)⟩,la,⟨un⟩,oth⟩:=fun d ow la un oth=>by
  rw[zdS (P2_j f d _) (by show t.messages.length+t.notes.length≤2000;omega),zbR]
 have u:=zbP two.am.1;have v:=zbP two.an.1;have w:=zbP two.bm.1;have x:=zbP two.bn.1;have y:=two.am.len;have z:=two.an.len;have A:=two.bm.len;have B:=two.bn.len;unfold Jg bs bt bo;by_cases g:c.kind=8;have D:(c.kind==8)=true:=by simpa using g
 simp only[l,F,G,m,n,o,tch,q,r,g,BEq.rfl,if_true,Option.bind_some,zcc,y,z,A,B,List.length_nil,Nat.zero_le,List.nil_append,u,v,w,x];have D:(c.kind==8)=false:=by simpa using g
 simp only[l,F,G,m,n,o,tch,q,r,g,D,Bool.false_eq_true,if_false,Option.bind_some,zcc,y,z,A,B,List.length_nil,Nat.zero_le,List.nil_append,u,v,w,x]}
theorem ziA{R:Type}(be:List zE)(k:Int):
  Zx (R:=R) (fun d e=>Option.bind (Option.bind (idx be (d:Int)) fun b=>Option.bind (if (b.event==k)=true then some b else some e) fun c=>some c) fun f=>some (.nx f)) be.length 0 (⟨0,(⟨0,0,0,0,0,0,0,0,([]:(List zu)),([]:(List Int)),([]:(List Int)),0⟩:zd),(⟨0,0,0,0,0,0,0,0,([]:(List zu)),([]:(List Int)),([]:(List Int)),0⟩:zd)⟩:zE)=some (.fin (JE be k)):=by{
 obtain⟨h,j,rfl⟩:=JA (R:=R) (b:=fun d e=>Option.bind (Option.bind (idx be (d:Int)) fun b=>Option.bind (if (b.event==k)=true then some b else some e) fun c=>some c) fun f=>some (.nx f))
  be.length (fun a h=>h=JE (be.take a) k) (s:=(⟨0,(⟨0,0,0,0,0,0,0,0,([]:(List zu)),([]:(List Int)),([]:(List Int)),0⟩:zd),(⟨0,0,0,0,0,0,0,0,([]:(List zu)),([]:(List Int)),([]:(List Int)),0⟩:zd)⟩:zE)) rfl
  (fun a h i m=>by
   subst m
   refine⟨_,?_,rfl⟩
   have l:be.take (a+1)=be.take a++[be[a]]:=by rw[List.take_add_one,List.getElem?_eq_getElem i];rfl
   rw[l,zbL,jD _ _ i]
   by_cases g:be[a].event=k
   ·simp only[Option.bind_some,g,BEq.rfl,if_true]
   ·have:(be[a].event==k)=false:=by simpa using g
    simp only[Option.bind_some,this,Bool.false_eq_true,if_false,if_neg g])
 rw[j,List.take_length]}
theorem zjJ(r:Inv F ts lg la ow un be)(f8:form.fields.length=F)(f5:F≤20)(c2:lg.length<6000)(c9:qX ⟨form,lg,ts,⟨ow⟩,la,⟨un⟩,oth⟩ x=some 0)(d0:qx ⟨form,ts,lg,la,be⟩ x=some 0)(m:x.ticket=(i:Int)+1)(E:x.kind=9)(c3:zeY ts lg la un be i):zfd F form ts lg la ow un be oth x:=by{
 obtain⟨h,N,c,j,e,f,w,y,a0,d1,n,P,l,a1,a2,c4,c5,s,p,z⟩:=c3;have d2:=r.lenT;have A:=r.lenA;have o:=JV s;have t:=JV p;have f9:=r.lenB;have c6:=JV y;have⟨B,f6⟩:=r.good i e s;have⟨G,f7⟩:=r.good j f p;have Q:=jf m (by omega);have U:=jf P (by omega);have R:la[j]?=some (la[j]'(by omega)):=List.getElem?_eq_getElem (by omega);generalize la[j]'(by omega)=q at R;have d3:=B.ms.len;have d4:=B.ns.len;have d5:=G.ms.len;have d6:=G.ns.len;have a3:Zc 1599289640401 lg [x]=some (lg++[x]):=JP (by omega);refine⟨P2 ts i j (bs c (tch e x.at_)) (bt c f x.at_),P2 la i j (lg.length:Int) (lg.length:Int),bo c e f ow,qh (qh un x.ticket) c.other,be,c.other,?_,?_,?_⟩;have a4:=zbB (form:=form) (lg:=lg++[x]) (ow:=ow) (un:=un) (oth:=oth) (k:=(lg.length:Int)) (a:=x.at_) s A m (by omega) (by omega);rw[zcV l p,zcV l R]at a4;have d7:idx (P2 ts i j (tch e x.at_) f) (i:Int)=some (tch e x.at_):=qZ (P2_i o l _ _);have d8:=zjq (form:=form) (lg:=lg++[x]) (ow:=ow) (un:=qh un x.ticket) (oth:=oth) o t l A (by omega) c a1 z.two (tch e x.at_) f (lg.length:Int) q (lg.length:Int) x.at_ d3 d4 d5 d6 (by omega);rw[← m]at a0;unfold ZP;simp only[c9,Option.bind_some,bne_self_eq_false,Bool.false_eq_true,if_false,a3];simp only[E,Int.reduceBEq,Bool.or_self,Bool.false_eq_true,if_false,if_true,Option.bind_some,a4,Q,d7,a0,Option.getD_some,d8];rfl;have a5:idx ts (i:Int)=some e:=qZ s;have a6:idx ts (j:Int)=some f:=qZ p;have b9:∀a d,idx (P2 ts i j a d) (i:Int)=some a:=fun a d=>qZ (P2_i o l a d);have c0:∀a d,idx (P2 ts i j a d) (j:Int)=some d:=fun a d=>qZ (P2_j t a d);have a7:∀k,setI ts (i:Int) k=some (P2 ts i j k f):=fun k=>by rw[qU o,zcV l p]
 have a8:∀a d k,setI (P2 ts i j a d) (i:Int) k=some (P2 ts i j k d):=fun a d k=>by rw[qU (by rw[qY];exact o),zcm l]
 have a9:∀a d k,setI (P2 ts i j a d) (j:Int) k=some (P2 ts i j a k):=fun a d k=>by rw[qU (by rw[qY];exact t),zbR]
 have W:idx la (i:Int)=some (h:Int):=qZ w;have X:idx (lg++[x]) (h:Int)=some N:=qZ (by rw[List.getElem?_append_left c6];exact y);have b0:=ziA (R:=zB) be (h:Int)
 have b1:∀a d,d.events=f.events→ZB ⟨form,P2 ts i j a d,lg++[x],la,be⟩ N.to_ (lg.length:Int) x.at_=some ⟨form,P2 ts i j a (tch d x.at_),lg++[x],P2 la i j (h:Int) (lg.length:Int),be⟩:=fun a d d9=>by
  have:=zfF (form:=form) (lg:=lg++[x]) (be:=be) (k:=(lg.length:Int)) (a:=x.at_) (i:=i) t A P (by omega) a d (h:Int) q (by omega)
  rw[zgK w R]at this
  exact this
 have b2:∀a d,a.events=e.events→ZB ⟨form,P2 ts i j a d,lg++[x],P2 la i j (h:Int) (lg.length:Int),be⟩ x.ticket (lg.length:Int) x.at_=some ⟨form,P2 ts i j (tch a x.at_) d,lg++[x],P2 la i j (lg.length:Int) (lg.length:Int),be⟩:=fun a d d9 =>
  zfD (form:=form) (lg:=lg++[x]) (be:=be) (k:=(lg.length:Int)) (a:=x.at_) o l A m (by omega) a d (h:Int) (lg.length:Int) (by omega)
 obtain⟨b3,b4,b5,b6⟩:=c4;unfold ZD JD;simp only[d0,Option.bind_some,bne_self_eq_false,Bool.false_eq_true,if_false,a3];rcases n with n|n;obtain⟨e0,e1,e2,e3⟩:=c5 (a2.trans n);have u8:¬c.kind=8:=by omega
 simp only[E,n,Int.reduceBEq,Bool.or_self,Bool.false_eq_true,if_false,if_true,Option.bind_some,Q,U,a5,a6,W,X,b0,Lp.andThen_fin,a7,b9,c0,a8,a9,b1,b2,b3,b4,b5,b6,e0,e1,e2,e3,bs,bt,if_neg u8];rfl;have u8:c.kind=8:=a2.trans n;obtain⟨S,T,e4⟩:=z.spl u8;simp only[E,n,Int.reduceBEq,Bool.or_self,Bool.false_eq_true,if_false,if_true,Option.bind_some,Q,U,a5,a6,W,X,b0,Lp.andThen_fin,a7,b9,c0,a8,a9,b1,b2,b3,b4,b5,b6, ← S, ← T,e4,bs,bt,if_pos u8];rfl;have Z:f.no=(j:Int)+1:=G.no;have two:=z.two
 have c7:∀h:Nat,Tch lg la x h↔h=i∨h=j:=by
  intro k
  unfold Tch
  constructor
  rintro (g |⟨g,_⟩|⟨_,e5,e6,g2,g3,b7,b8,g4⟩)
  omega
  omega
  have:e5=i:=by omega
  subst this
  rw[w]at b7
  have:e6=h:=by have:=Option.some.inj b7;omega
  subst this
  rw[y]at b8
  cases b8
  omega
  rintro (rfl | rfl)
  exact .inl m
  exact .inr (.inr ⟨E,i,h,N,m,w,y,P⟩)
 have S:(bs c (tch e x.at_)).messages=c.before.messages∧(bs c (tch e x.at_)).notes=c.before.notes∧(bs c (tch e x.at_)).no=e.no∧(bs c (tch e x.at_)).values=e.values∧(bs c (tch e x.at_)).events=e.events+1:=by
  unfold bs
  split <;> exact⟨rfl,rfl,rfl,rfl,rfl⟩
 have T:((bt c f x.at_).messages=if c.kind=8 then [] else c.to_.messages)∧((bt c f x.at_).notes=if c.kind=8 then [] else c.to_.notes)∧(bt c f x.at_).no=f.no∧(bt c f x.at_).values=f.values∧(bt c f x.at_).events=f.events+1:=by
  unfold bt
  split <;> exact⟨rfl,rfl,rfl,rfl,rfl⟩
 obtain⟨u,v,e7,e8,e9⟩:=S;obtain⟨H,I,f0,f1,f2⟩:=T;have c8:∀b,(b∈c.before.messages∨b∈c.before.notes)→(b∈e.messages∨b∈e.notes)∨(b∈f.messages∨b∈f.notes):=fun b a=>z.sub b (a.elim (fun g=>.inl g) fun g=>.inr (.inl g));have int:∀b,(b∈c.to_.messages∨b∈c.to_.notes)→(b∈e.messages∨b∈e.notes)∨(b∈f.messages∨b∈f.notes):=fun b a=>z.sub b (.inr (.inr a))
 have O:∀b,(b∈(bt c f x.at_).messages∨b∈(bt c f x.at_).notes)→¬c.kind=8∧(b∈c.to_.messages∨b∈c.to_.notes):=fun b a=>by
  rw[H,I]at a
  by_cases u8:c.kind=8
  rw[if_pos u8,if_pos u8]at a
  simp at a
  rw[if_neg u8,if_neg u8]at a
  exact⟨u8,a⟩
 refine zft r c2 d2 A (Nat.le_refl _) (fun h _=>⟨rfl,rfl⟩) (fun h g5 g6=>by omega) o t l c7 (by omega) (fun h J K=>?_) ⟨by rw[e7];exact B.no,by rw[e8];exact B.vals,by rw[u];exact two.am,by rw[v];exact two.an,by rw[u,v];exact two.ad⟩
  ⟨by rw[f0];exact Z,by rw[f1];exact G.vals,?_,?_,?_⟩ (by rw[zdI s,e9]) (by rw[zdI p,f2]) ?_ (fun _ _=>rfl) ?_ ?_ (fun _=>⟨i,h,N,m,w,y,by rw[d1,m],n⟩)
 rw[qV,if_neg (by omega),qV,if_neg (by omega)];rw[H];split;exact Lst.nil;exact two.bm;rw[I];split;exact Lst.nil;exact two.bn;rw[H,I];split;intro b a;simp at a;exact two.bd;refine r.own.two s p (fun g=>l g.symm) (P2_i o l _ _) (P2_j t _ _) (fun h J K=>P2_o J K _ _) (fun b a=>c8 b (by rw[u,v]at a;exact a)) (fun b a=>int b (O b a).2) (fun b a d=>two.ab b (by rw[u,v]at a;exact a) (O b d).2) (fun b a=>?_) (fun b a=>?_) (fun b a d=>?_);rw[u,v]at a;have nt:=two.ab b a;have J:b∉c.to_.messages:=fun g=>nt (.inl g);have K:b∉c.to_.notes:=fun g=>nt (.inr g)
 have base:∀c1,zy (puts (puts c1 c.before.messages e.no) c.before.notes e.no) b=some ((i:Int)+1):=fun c1=>by
  rw[Qr,Qr,B.no]
  rcases a with a|a
  rw[if_pos a]
  split <;> rfl
  rw[if_pos a]
 unfold bo;split;exact base _;rw[Qr,if_neg K,Qr,if_neg J];exact base _;obtain⟨u8,D⟩:=O b a;unfold bo;rw[if_neg u8,Qr,Qr,Z];rcases D with D|D;rw[if_pos D];split <;> rfl
 rw[if_pos D];rw[u,v]at a;have f3:b∉c.before.messages:=fun g=>a (.inl g);have f4:b∉c.before.notes:=fun g=>a (.inr g)
 have base:zy (puts (puts (dels (dels ow (e.messages++e.notes)) (f.messages++f.notes)) c.before.messages e.no) c.before.notes e.no) b=if (b∈e.messages∨b∈e.notes)∨(b∈f.messages∨b∈f.notes) then none else zy ow b:=by
  rw[Qr,if_neg f4,Qr,if_neg f3,zdb,zdb]
  by_cases L:b∈f.messages∨b∈f.notes
  rw[if_pos (List.mem_append.2 L),if_pos (.inr L)]
  rw[if_neg (fun g=>L (List.mem_append.1 g))]
  by_cases M:b∈e.messages∨b∈e.notes
  rw[if_pos (List.mem_append.2 M),if_pos (.inl M)]
  rw[if_neg (fun g=>M (List.mem_append.1 g)),if_neg (fun g=>g.elim M L)]
 unfold bo;by_cases u8:c.kind=8;rw[if_pos u8];exact base;rw[H,I,if_neg u8,if_neg u8]at d;rw[if_neg u8,Qr,if_neg (fun g=>d (.inr g)),Qr,if_neg (fun g=>d (.inl g))];exact base;exact .inr ⟨by rw[qV,if_neg (by omega),qV,if_pos m],fun g=>by omega⟩;exact .inr ⟨by rw[qV,if_pos a1],fun g=>by omega⟩}
end Go.Proofs.YtcnidlpginehjaaGreat.M
namespace Go.Proofs.YtcnidlpginehjaaGreat.M
open Go Go.Pu
set_option linter.unusedSimpArgs false
set_option linter.unusedVariables false
variable{F:Nat}{form:zK}{ts:List zd}{lg:List zk}{la:List Int}{ow:List (Int×Int)}{un:List (Int×zo)}{be:List zE}{oth:Int}{x:zk}
structure Num(lg:List zk)(la:List Int)(x:zk):Prop where
 tk:∃i:Nat,x.ticket=(i:Int)+1
 to_:(x.kind=7∨x.kind=8)→∃j:Nat,x.to_=(j:Int)+1
 nine:x.kind=9→∃(t k j:Nat) (y:zk),x.ticket=(t:Int)+1∧la[t]?=some (k:Int)∧lg[k]?=some y∧y.ticket=(t:Int)+1∧(y.kind=7∨y.kind=8)∧y.to_=(j:Int)+1
theorem ziT(g:Inv F ts lg la ow un be)(d:form.fields.length=F)(l:F≤20)(oth:Int)(x:zk):
  (∃a,a≠0∧ZP ⟨form,lg,ts,⟨ow⟩,la,⟨un⟩,oth⟩ x=some (a,⟨form,lg,ts,⟨ow⟩,la,⟨un⟩,oth⟩)∧ZD ⟨form,ts,lg,la,be⟩ x=some (a,⟨form,ts,lg,la,be⟩))∨
  (zfd F form ts lg la ow un be oth x∧Num lg la x):=by{obtain⟨a,e,f,u⟩:=ziK g form d l oth x;by_cases o:a=0;subst o;refine .inr ?_;obtain⟨h,c⟩:=u rfl;rcases c with ⟨v,p,b⟩|⟨i,D,k,b,c⟩;exact⟨ziC g d l h e f v p b,⟨_,b⟩,fun a=>by omega,fun a=>by omega⟩;rcases c with c|c|c|c|⟨n,j,E,r,m,s⟩|⟨n,p,m,w⟩|⟨n,q⟩|c;exact⟨zcv g d h e f k b (.inl c),⟨_,b⟩,fun a=>by omega,fun a=>by omega⟩;exact⟨zcv g d h e f k b (.inr (.inl c)),⟨_,b⟩,fun a=>by omega,fun a=>by omega⟩;exact⟨zcv g d h e f k b (.inr (.inr (.inl c))),⟨_,b⟩,fun a=>by omega,fun a=>by omega⟩;exact⟨zcv g d h e f k b (.inr (.inr (.inr (.inl c)))),⟨_,b⟩,fun a=>by omega,fun a=>by omega⟩;exact⟨zjO g d l h e f k b n r m s,⟨_,b⟩,fun _=>⟨_,m⟩,fun a=>by omega⟩;exact⟨zjQ g d l h e f k b n p m w,⟨_,b⟩,fun _=>⟨_,m⟩,fun a=>by omega⟩;refine⟨zjJ g d l h e f b n q,⟨_,b⟩,fun a=>by omega,fun _=>?_⟩;obtain⟨G,H,I,j,D,E,y,z,_,A,B,t,_⟩:=q;exact⟨i,G,j,H,b,y,z,A,B,t⟩;exact⟨zcv g d h e f k b (.inr (.inr (.inr (.inr c)))),⟨_,b⟩,fun a=>by omega,fun a=>by omega⟩;refine .inl ⟨a,o,?_,?_⟩;unfold ZP;rw[e,Option.bind_some,if_pos (by simpa using o)];unfold ZD;rw[f,Option.bind_some,if_pos (by simpa using o)]}
def Lm(lg:List zk)(la:List Int)(lm:List (Int×zk)):Prop :=
 ∀(i k:Nat) (y:zk),la[i]?=some (k:Int)→lg[k]?=some y→y.ticket=(i:Int)+1→(y.kind=7∨y.kind=8)→zy lm ((i:Int)+1)=some y
def Ab(lg:List zk)(la:List Int)(x:zk)(no:Int):Prop:=∃i:Nat,no=(i:Int)+1∧Tch lg la x i
def evNo(ts:List zd)(no:Int):Int:=if 1≤no then evs ts (no-1).toNat else 0
theorem zhk(d:Num lg la x){k:List (Int×zk)}(u:Lm lg la k)(no:Int):∃s,jN x no k=some s∧(s=true↔Ab lg la x no):=by{
 unfold jN;obtain⟨i,l⟩:=d.tk;by_cases b:x.ticket=no;rw[if_pos (by simpa using b)];exact⟨true,rfl,fun _=>⟨i,by rw[← b,l],.inl l⟩,fun _=>rfl⟩;rw[if_neg (by simpa using b)];by_cases c:x.kind=9;rw[if_pos (by simpa using c)];obtain⟨g,h,j,t,m,e,f,v,w,n⟩:=d.nine c;rw[m,u g h t e f v w];refine⟨_,rfl,?_⟩;simp only[Option.getD_some,beq_iff_eq];constructor;intro a;exact⟨j,by rw[← a,n],.inr (.inr ⟨c,g,h,t,m,e,f,n⟩)⟩;rintro⟨B,rfl,a |⟨a,_⟩|⟨_,y,z,E,F,o,p,A⟩⟩;exact absurd a b;omega;have:y=g:=by omega
 subst this;rw[e]at o;have:z=h:=by have:=Option.some.inj o;omega
 subst this;rw[f]at p;cases p;exact A;rw[if_neg (by simpa using c)];refine⟨_,rfl,?_⟩;simp only[Bool.and_eq_true,Bool.or_eq_true,beq_iff_eq];constructor;rintro⟨a,q⟩;obtain⟨j,r⟩:=d.to_ q;exact⟨j,by rw[← a,r],.inr (.inl ⟨q,r⟩)⟩;rintro⟨B,rfl,a |⟨a,D⟩|⟨a,_⟩⟩;exact absurd a b;exact⟨D,a⟩;exact absurd a c}
variable{ts':List zd}{la':List Int}{ow':List (Int×Int)}{un':List (Int×zo)}{be':List zE}
theorem Lm.step(r:Inv F ts lg la ow un be)(d:Done F ts lg la x ts' la' ow' un' be'){e:List (Int×zk)}(p:Lm lg la e):
  Lm (lg++[x]) la' (if ((x.kind==7)||(x.kind==8))=true then qR e x.ticket x else e):=by{
 intro i j n a f l m;have k:i<ts'.length:=by rw[← d.inv.lenA];exact JV a
 by_cases b:Tch lg la x i;obtain⟨g,o⟩:∃g,ts'[i]?=some g:=⟨_,List.getElem?_eq_getElem k⟩;rw[(d.ev i g b o).1]at a;have:j=lg.length:=by have:=Option.some.inj a;omega
 subst this;have:n=x:=by simpa using f.symm
 subst this;rw[if_pos (by simpa using m),jB,if_pos l]
 have c:i<ts.length:=by
  by_cases c:i<ts.length
  exact c
  exact absurd (d.new i (by omega) k) b
 rw[(d.out i b c).2]at a;obtain⟨q,t,g1,h,_⟩:=r.und i c;rw[g1]at a;have:j=q:=by have:=Option.some.inj a;omega
 subst this;rw[List.getElem?_append_left (JV h),h]at f;cases f;have base:=p i j n g1 h l m;split;rw[jB,if_neg (fun s=>b (.inl s))];exact base;exact base}
theorem zhW{no:Int}{i:Nat}(a:no=(i:Int)+1):evNo ts no=evs ts i:=by{unfold evNo;rw[if_pos (by omega)];congr 1;omega}
theorem zji(b:Done F ts lg la x ts' la' ow' un' be'){no:Int}(e:¬Ab lg la x no):evNo ts' no=evNo ts no:=by{unfold evNo;split;rename_i h1;have a:¬Tch lg la x (no-1).toNat:=fun f=>e ⟨(no-1).toNat,by omega,f⟩;unfold evs;by_cases d:(no-1).toNat<ts.length;rw[(b.out _ a d).1];rw[List.getElem?_eq_none (l:=ts) (by omega)];by_cases c:(no-1).toNat<ts'.length;exact absurd (b.new _ (by omega) c) a;rw[List.getElem?_eq_none (l:=ts') (by omega)];rfl}
theorem ziw(c:Inv F ts lg la ow un be)(no:Int):(evNo ts no==0)=((decide (no<1))||(decide ((ts.length:Int)<no))):=by{unfold evNo;by_cases a:1≤no;rw[if_pos a,decide_eq_false (by omega),Bool.false_or];unfold evs;by_cases b:(no-1).toNat<ts.length;rw[List.getElem?_eq_getElem b];have:=(c.good _ _ (List.getElem?_eq_getElem b)).2;rw[decide_eq_false (by omega)];rw[beq_eq_false_iff_ne];show (ts[(no-1).toNat]).events≠0;omega;rw[List.getElem?_eq_none (by omega),decide_eq_true (by omega)];rfl;rw[if_neg a,decide_eq_true (by omega)];rfl}
theorem zgs(g:Inv F ts lg la ow un be)(h:F≤20)(no:Int):
  (∃a,je ⟨form,lg,ts,⟨ow⟩,la,⟨un⟩,oth⟩ no=some (a,true)∧(∃i:Nat,no=(i:Int)+1∧ts[i]?=some a)∧a.events=evNo ts no∧idx ts (w64 (no-1))=some a∧a.values.length≤20)∨
  (∃a,je ⟨form,lg,ts,⟨ow⟩,la,⟨un⟩,oth⟩ no=some (a,false)∧¬∃i:Nat,no=(i:Int)+1∧i<ts.length):=by{unfold je jl;rw[Option.bind_some];by_cases b:(!(zF no 1 (ts.length:Int)))=true;rw[if_pos b];refine .inr ⟨_,rfl,?_⟩;rintro⟨i,rfl,j⟩;simp only[zF,Bool.not_eq_true',Bool.and_eq_false_iff,decide_eq_false_iff_not]at b;omega;rw[if_neg b];obtain⟨i,a,e,k,c,l,f⟩:=tick (by simpa using b) g.lenT;have d:=(g.good i a c).1;have g1:=d.ms.len;have m:=d.ns.len;have n:=d.vals;refine .inl ⟨a,?_,⟨i,e,c⟩,?_,f,by omega⟩;dsimp only;rw[f,Option.bind_some,zbM (by omega) (by omega) (by omega)];rfl;rw[zhW e,zdI c]}
theorem zig{l:List zu}(a:l.length≤20):qw l=some l:=by{unfold qw Zc;rw[if_pos (by simp;omega)];rfl}
theorem zhG(f:zK)(l:List zk)(no:Int)(b3:zhv f):∃F,zaP f l no=some F∧Jj f l no=some F:=by{
 obtain⟨b,b4,b5,B⟩:=zju f b3;unfold zaP Jj zcN zaG;rw[b4,b5];simp only[Option.bind_some];by_cases r:b=0;rotate_left;have e:(b != 0)=true:=by simpa using r
 rw[if_pos e,if_pos e];simp only[Option.bind_some,e,if_true];exact⟨_,rfl,rfl⟩;obtain⟨y,b6⟩:=B r;subst r;simp only[bne_self_eq_false,Bool.false_eq_true,if_false,zib y b6,Option.bind_some]
 rcases zdV (R:=List zw×Int) (b:=fun a9 (j:List zw×Int×zp)=>Option.bind (α:=Lp (List zw×Int×zp) (List zw×Int)) (Option.bind (idx l (a9:Int)) fun h=>Option.bind (ZP j.2.2 h) fun n=>if (n.1 != 0)=true then some (.rt (([]:(List zw)),n.1)) else if (!(((h.ticket==no)||(h.to_==no))||(h.kind==9)))=true then some (.fin (j.1,j.2.1,n.2)) else Option.bind (je n.2 no) fun g=>Option.bind (if (g.2&&(decide (j.2.1<g.1.events)))=true then Option.bind (Zc 2199023255552 j.1 ([(⟨h.at_,h.kind,h.who,g.1.status,g.1.priority,g.1.values⟩:zw)]:List zw)) fun a3=>some (a3,g.1.events) else some (j.1,j.2.1)) fun W=>some (.fin (W.1,W.2,n.2))) fun b0=>b0.andThen (fun G=>some (.rt G)) fun I=>some (.nx (I.1,I.2.1,I.2.2)))
  (b':=fun b1 (m:List zw×List (Int×zk)×zB)=>Option.bind (α:=Lp (List zw×List (Int×zk)×zB) (List zw×Int)) (Option.bind (idx l (b1:Int)) fun d=>Option.bind (ZD m.2.2 d) fun u=>if (u.1 != 0)=true then some (.rt (([]:(List zw)),u.1)) else Option.bind (jN d no m.2.1) fun g=>Option.bind (if g=true then Option.bind (idx u.2.states (w64 (no-1))) fun H=>Option.bind (qw H.values) fun a4=>Option.bind (Zc 2199023255552 m.1 ([(⟨d.at_,d.kind,d.who,H.status,H.priority,a4⟩:zw)]:List zw)) fun a5=>some a5 else some m.1) fun a6=>Option.bind (if ((d.kind==7)||(d.kind==8))=true then some (qR m.2.1 d.ticket d) else some m.2.1) fun a7=>some (.fin (a6,a7,u.2))) fun o89=>o89.andThen (fun G=>some (.rt G)) fun J=>some (.nx (J.1,J.2.1,J.2.2)))
  l.length (fun _=>True)
  (fun _ c a0=>∃(out:List zw) (a:List (Int×zk)) (ts:List zd) (lg:List zk) (la:List Int) (ow:List (Int×Int)) (un:List (Int×zo)) (be:List zE) (oth:Int),
   c=(out,evNo ts no,⟨f,lg,ts,⟨ow⟩,la,⟨un⟩,oth⟩)∧a0=(out,a,⟨f,ts,lg,la,be⟩)∧Inv f.fields.length ts lg la ow un be∧Lm lg la a∧out.length≤lg.length)
  (s:=([],0,⟨f, [], [],⟨[]⟩, [],⟨[]⟩,0⟩)) (s':=([], [],⟨f, [], [], [], []⟩))
  ⟨[], [], [], [], [], [], [], [],0,by unfold evNo evs;simp,rfl,Inv.nil _,fun i a2 G c4=>by simp at c4,Nat.le_refl _⟩
  (fun a2 c a0 b7 L=>by
   obtain⟨out,a,ts,lg,la,ow,un,be,oth,rfl,rfl,q,K,X⟩:=L
   rw[jD _ _ b7]
   generalize l[a2]=x
   simp only[Option.bind_some]
   rcases ziT q rfl y oth x with ⟨b,r,M,N⟩|⟨⟨ts',la',ow',un',be',v,M,N,k⟩,b8⟩
   ·have e:(b != 0)=true:=by simpa using r
    rw[M,N]
    simp only[Option.bind_some,e,if_true,Lp.andThen_rt]
    exact .inl ⟨_,rfl,rfl,trivial⟩
   ·have c8:=q.lenL
    obtain⟨R,b9,a1⟩:=zhk b8 K no
    have c0:∀S:zw,Zc 2199023255552 out [S]=some (out++[S]):=fun S=>JP (by omega)
    have a8:=K.step q k
    refine .inr ?_
    rw[M,N]
    simp only[Option.bind_some,bne_self_eq_false,Bool.false_eq_true,if_false,b9]
    have z:∀o,o.length≤(lg++[x]).length→∃T O,some (Ctl.nx (R:=List zw×Int) (o,evNo ts' no,(⟨f,lg++[x],ts',⟨ow'⟩,la',⟨un'⟩,v⟩:zp)))=some (.nx T)∧
      some (Ctl.nx (R:=List zw×Int) (o,(if ((x.kind==7)||(x.kind==8))=true then qR a x.ticket x else a),(⟨f,ts',lg++[x],la',be'⟩:zB)))=some (.nx O)∧
      ∃(out:List zw) (a:List (Int×zk)) (ts:List zd) (lg:List zk) (la:List Int) (ow:List (Int×Int)) (un:List (Int×zo)) (be:List zE) (oth:Int),
       T=(out,evNo ts no,⟨f,lg,ts,⟨ow⟩,la,⟨un⟩,oth⟩)∧O=(out,a,⟨f,ts,lg,la,be⟩)∧Inv f.fields.length ts lg la ow un be∧Lm lg la a∧out.length≤lg.length:=fun o s =>
     ⟨_,_,rfl,rfl,o,_,ts',lg++[x],la',ow',un',be',v,rfl,rfl,k.inv,a8,s⟩
    have B:∀{c5:Type} (U:List (Int×zk)→Option c5),Option.bind (if ((x.kind==7)||(x.kind==8))=true then some (qR a x.ticket x) else some a) U=U (if ((x.kind==7)||(x.kind==8))=true then qR a x.ticket x else a):=fun U=>by
     split <;> rfl
    have s:out.length≤(lg++[x]).length:=by simp;omega
    by_cases D:Ab lg la x no
    ·have e:R=true:=a1.2 D
     subst e
     obtain⟨i,A,P⟩:=D
     have b2:=k.tin i P
     obtain⟨c,t,⟨Q,c6,c1⟩,E,c2,c3⟩:=(zgs (form:=f) (oth:=v) k.inv y no).resolve_right (by rintro⟨_,_,Z⟩;exact Z ⟨i,A,b2⟩)
     have:Q=i:=by omega
     subst this
     have c7:=(k.ev Q c P c1).2
     have Z:evNo ts no=evs ts Q:=zhW A
     have p:(!(((x.ticket==no)||(x.to_==no))||(x.kind==9)))=false:=by
      rcases P with b|⟨_,b⟩|⟨b,_⟩
      ·have:(x.ticket==no)=true:=by rw[beq_iff_eq,b,A]
       rw[this];rfl
      ·have:(x.to_==no)=true:=by rw[beq_iff_eq,b,A]
       rw[this];simp
      ·have:(x.kind==9)=true:=by rw[beq_iff_eq,b]
       rw[this];simp
     simp only[p,Bool.false_eq_true,if_false,t,Option.bind_some,Bool.true_and,decide_eq_true (show evNo ts no<evNo ts' no by rw[← E];omega),if_true,c0,c2,zig c3,B,Lp.andThen_fin,E]
     exact z (out++[⟨x.at_,x.kind,x.who,c.status,c.priority,c.values⟩]) (by rw[List.length_append,List.length_append];exact Nat.add_le_add X (Nat.le_refl 1))
    ·have e:R=false:=by
      cases R
      ·rfl
      ·exact absurd (a1.1 rfl) D
     subst e
     have w:=zji k D
     simp only[Bool.false_eq_true,if_false,Option.bind_some,B,Lp.andThen_fin]
     by_cases p:(!(((x.ticket==no)||(x.to_==no))||(x.kind==9)))=true
     ·simp only[p,if_true,Option.bind_some,Lp.andThen_fin]
      rw[← w]
      exact z _ s
     ·rw[Bool.not_eq_true]at p
      simp only[p,Bool.false_eq_true,if_false]
      rcases zgs (form:=f) (oth:=v) k.inv y no with ⟨c,t,_,E,_,_⟩|⟨c,t,_⟩
      ·have:decide (evNo ts no<c.events)=false:=decide_eq_false (by rw[E,w];omega)
       simp only[t,Option.bind_some,this,Bool.and_false,Bool.false_eq_true,if_false,Lp.andThen_fin]
       rw[← w]
       exact z _ s
      ·simp only[t,Option.bind_some,Bool.false_and,Bool.false_eq_true,if_false,Lp.andThen_fin]
       rw[← w]
       exact z _ s)with ⟨F,h1,h2,_⟩|⟨T,O,h1,h2,L⟩
 rw[h1,h2];exact⟨F,rfl,rfl⟩;rw[h1,h2];obtain⟨out,a,ts,lg,la,ow,un,be,oth,rfl,rfl,q,K,X⟩:=L;simp only[Option.bind_some,Lp.andThen_fin,ziw q no];split;exact⟨_,rfl,rfl⟩;exact⟨_,rfl,rfl⟩}
theorem zjk(l:List zu):zP l l=some true:=by{
 unfold zP;simp only[bne_self_eq_false,Bool.false_eq_true,if_false]
 obtain⟨f,e,_⟩:=JA (R:=Bool) (b:=fun c (_:Unit)=>Option.bind (idx l (c:Int)) fun a=>Option.bind (idx l (c:Int)) fun b=>if (!(a.kind==b.kind&&(a.int==b.int&&(ZU a.text b.text))))=true then some (.rt false) else some (.nx ())) l.length (fun _ _=>True) (s:=()) trivial
  (fun g h d _=>by rw[jD _ _ d];simp[ZU])
 rw[e];rfl}
theorem zjp(l:List zw):zaC l l=some true:=by{
 unfold zaC ZO;simp only[bne_self_eq_false,Bool.false_eq_true,if_false,if_true]
 obtain⟨g,f,_⟩:=JA (R:=Bool) (b:=fun a (_:Unit)=>Option.bind (idx l (a:Int)) fun b=>Option.bind (idx l (a:Int)) fun c=>Option.bind (Jb b c) fun d=>if (!d)=true then some (.rt false) else some (.nx ())) l.length (fun _ _=>True) (s:=()) trivial
  (fun h i e _=>by
   rw[jD _ _ e]
   simp[Jb,zjk])
 rw[f];rfl}
theorem zhn(f:zK)(l:List zk)(no:Int)(a:zhv f):Jq f l no=some true:=by{obtain⟨d,b,c⟩:=zhG f l no a;unfold Jq;rw[b,c];simp only[Option.bind_some,BEq.rfl,if_true,zjp]}
end Go.Proofs.YtcnidlpginehjaaGreat.M
