import Derived.Test.YtligccioljhapaaGreatDoorTopReportsHsC
namespace Go.Proofs.YtligccioljhapaaGreatDoor.M
open Go Go.Pu
set_option linter.unusedSimpArgs false
set_option linter.unusedVariables false
variable{F:Nat}{form:zr}{ts:List za}{lg:List zk}{la:List Int}{ow:List (Int×Int)}{un:List (Int×zl)}{be:List zL}{oth:Int}{x:zk}
theorem zmZ{i:Nat}(e:Inv F ts lg la ow un be)(L:lg.length<6000)(y:qo ⟨form,lg,ts,⟨ow⟩,la,⟨un⟩,oth⟩ x=some 0)(g:x.ticket=(i:Int)+1)(z:x.kind=9)(w:zeH ts lg la un be i):
  ∃v:ticket_Desk,zU ⟨form,lg,ts,⟨ow⟩,la,⟨un⟩,oth⟩ x=some (0,v)∧∃j:Nat,v.other=(j:Int)+1∧j<ts.length:=by{obtain⟨k,Z,a,j,b,c,R,S,l,T,U,M,d,m,W,N,O,h,f,A⟩:=w;have X:=e.lenT;have n:=e.lenA;have o:=JU h;have p:=JU f;have⟨r,P⟩:=e.good i b h;have⟨s,Q⟩:=e.good j c f;have B:=QD g (by omega);have t:la[j]?=some (la[j]'(by omega)):=List.getElem?_eq_getElem (by omega);generalize la[j]'(by omega)=q at t;have D:=r.ms.len;have E:=r.ns.len;have G:=s.ms.len;have H:=s.ns.len;have I:zE 1599289640401 lg [x]=some (lg++[x]):=jp (by omega);have u:=zbw (form:=form) (lg:=lg++[x]) (ow:=ow) (un:=un) (oth:=oth) (k:=(lg.length:Int)) (a:=x.at_) h n g (by omega) (by omega);rw[zce d f,zce d t]at u;have J:idx (P2 ts i j (tch b x.at_) c) (i:Int)=some (tch b x.at_):=ZW (P2_i o d _ _);have K:=ziW (form:=form) (lg:=lg++[x]) (ow:=ow) (un:=ZA un x.ticket) (oth:=oth) o p d n (by omega) a m A.two (tch b x.at_) c (lg.length:Int) q (lg.length:Int) x.at_ D E G H (by omega);rw[← g]at l;refine⟨⟨form,lg++[x],P2 ts i j (bs a (tch b x.at_)) (bt a c x.at_),⟨bo a (tch b x.at_) c ow⟩,P2 la i j (lg.length:Int) (lg.length:Int),⟨ZA (ZA un x.ticket) a.other⟩,a.other⟩,?_,j,m,p⟩;unfold zU;simp only[y,Option.bind_some,bne_self_eq_false,Bool.false_eq_true,if_false,I];simp only[z,Int.reduceBEq,Bool.or_self,Bool.false_eq_true,if_false,if_true,Option.bind_some,u,B,J,l,Option.getD_some,K]}
structure ziD(x:zk)(n:Nat)(oth:Int):Prop where
 tk:∃i:Nat,x.ticket=(i:Int)+1∧i<n
 to_:(x.kind=7∨x.kind=8)→∃j:Nat,x.to_=(j:Int)+1∧j<n
 nine:x.kind=9→∃j:Nat,oth=(j:Int)+1∧j<n
theorem zkD(f:Inv F ts lg la ow un be)(h:form.fields.length=F)(s:F≤20)(oth:Int)(x:zk):
  (∃b,b≠0∧zU ⟨form,lg,ts,⟨ow⟩,la,⟨un⟩,oth⟩ x=some (b,⟨form,lg,ts,⟨ow⟩,la,⟨un⟩,oth⟩))∨
  (∃(j:List za) (o:List Int) (p:List (Int×Int)) (q:List (Int×zl)) (t:List zL) (n:Int),
   zU ⟨form,lg,ts,⟨ow⟩,la,⟨un⟩,oth⟩ x=some (0,⟨form,lg++[x],j,⟨p⟩,o,⟨q⟩,n⟩)∧Inv F j (lg++[x]) o p q t∧ziD x j.length n):=by{
 obtain⟨b,d,m,L⟩:=zll f form h s oth x;by_cases z:b=0;subst z;refine .inr ?_;obtain⟨g,c⟩:=L rfl
 have l:zgg F form ts lg la ow un be oth x→(∃v:Nat,x.ticket=(v:Int)+1)→((x.kind=7∨x.kind=8)→∃i:Nat,x.to_=(i:Int)+1)→(x.kind=9→∃w:ticket_Desk,zU ⟨form,lg,ts,⟨ow⟩,la,⟨un⟩,oth⟩ x=some (0,w)∧∃i:Nat,w.other=(i:Int)+1∧i<ts.length)→
   ∃(j:List za) (o:List Int) (p:List (Int×Int)) (q:List (Int×zl)) (t:List zL) (n:Int),
    zU ⟨form,lg,ts,⟨ow⟩,la,⟨un⟩,oth⟩ x=some (0,⟨form,lg++[x],j,⟨p⟩,o,⟨q⟩,n⟩)∧Inv F j (lg++[x]) o p q t∧ziD x j.length n:=by
  rintro⟨j,o,p,q,t,n,D,_,y⟩⟨v,E⟩I M
  refine⟨j,o,p,q,t,n,D,y.inv,⟨v,E,y.tin v (.inl E)⟩,fun e=>?_,fun e=>?_⟩
  ·obtain⟨i,G⟩:=I e
   exact⟨i,G,y.tin i (.inr (.inl ⟨e,G⟩))⟩
  ·obtain⟨w,H,i,N,O⟩:=M e
   rw[D]at H
   have P:=congrArg Prod.snd (Option.some.inj H)
   have Q:n=w.other:=congrArg ticket_Desk.other P
   exact⟨i,by rw[Q,N],Nat.lt_of_lt_of_le O y.len⟩
 rcases c with ⟨R,A,a⟩|⟨v,T,r,a,c⟩;exact l (zlu f h s g d m R A a) ⟨_,a⟩ (fun b=>by omega) (fun b=>by omega);rcases c with c|c|c|c|⟨e,i,U,J,u,K⟩|⟨e,A,u,S⟩|⟨e,B⟩|c;exact l (zcV f h g d m r a (.inl c)) ⟨_,a⟩ (fun b=>by omega) (fun b=>by omega);exact l (zcV f h g d m r a (.inr (.inl c))) ⟨_,a⟩ (fun b=>by omega) (fun b=>by omega);exact l (zcV f h g d m r a (.inr (.inr (.inl c)))) ⟨_,a⟩ (fun b=>by omega) (fun b=>by omega);exact l (zcV f h g d m r a (.inr (.inr (.inr (.inl c))))) ⟨_,a⟩ (fun b=>by omega) (fun b=>by omega);exact l (zmS f h s g d m r a e J u K) ⟨_,a⟩ (fun _=>⟨_,u⟩) (fun b=>by omega);exact l (znb f h s g d m r a e A u S) ⟨_,a⟩ (fun _=>⟨_,u⟩) (fun b=>by omega);exact l (znh f h s g d m a e B) ⟨_,a⟩ (fun b=>by omega) (fun _=>zmZ f g d a e B);exact l (zcV f h g d m r a (.inr (.inr (.inr (.inr c))))) ⟨_,a⟩ (fun b=>by omega) (fun b=>by omega);refine .inl ⟨b,z,?_⟩;unfold zU;rw[d,Option.bind_some,if_pos (by simpa using z)]}
def IsDesk(F:Nat)(form:zr)(k:Nat)(D:ticket_Desk):Prop :=
 ∃(ts:List za) (lg:List zk) (la:List Int) (ow:List (Int×Int)) (un:List (Int×zl)) (be:List zL) (oth:Int),
  D=⟨form,lg,ts,⟨ow⟩,la,⟨un⟩,oth⟩∧Inv F ts lg la ow un be∧lg.length=k
theorem IsDesk.apply{k:Nat}{b:ticket_Desk}(m:IsDesk F form k b)(n:form.fields.length=F)(d:F≤20)(x:zk):
  (∃c,c≠0∧zU b x=some (c,b))∨∃a,zU b x=some (0,a)∧IsDesk F form (k+1) a∧ziD x a.tickets.length a.other:=by{obtain⟨ts,lg,la,ow,un,be,oth,rfl,f,o⟩:=m;rcases zkD f n d oth x with s|⟨g,h,i,j,l,e,p,q,r⟩;exact .inl s;exact .inr ⟨_,p,⟨g,lg++[x],h,i,j,l,e,rfl,q,by simp[o]⟩,r⟩}
theorem IsDesk.nil:IsDesk F form 0 ⟨form, [], [],⟨[]⟩, [],⟨[]⟩,0⟩:=⟨[], [], [], [], [], [],0,rfl,Inv.nil _,rfl⟩
theorem IsDesk.k{k:Nat}{c:ticket_Desk}(b:IsDesk F form k c):k≤6000:=by{obtain⟨ts,lg,la,ow,un,be,oth,rfl,a,rfl⟩:=b;exact a.lenL}
theorem IsDesk.len{k:Nat}{a:ticket_Desk}(c:IsDesk F form k a):a.tickets.length≤400:=by{obtain⟨ts,lg,la,ow,un,be,oth,rfl,b,rfl⟩:=c;exact b.lenT}
theorem IsDesk.vals{k:Nat}{b:ticket_Desk}(d:IsDesk F form k b){s:za}(e:s∈b.tickets):s.values.length=F∧s.messages.length≤1000∧s.notes.length≤1000:=by{obtain⟨ts,lg,la,ow,un,be,oth,rfl,c,rfl⟩:=d;obtain⟨g,f⟩:=List.mem_iff_getElem?.1 e;have a:=(c.good g s f).1;exact⟨a.vals,a.ms.len,a.ns.len⟩}
theorem zkS{k:Nat}{a:ticket_Desk}(c:IsDesk F form k a)(m:F≤20):Jh a=some a.tickets:=by{
 unfold Jh;have n:=c.len
 obtain⟨r,j,rfl⟩:=qb (R:=List za) (b:=fun i e=>Option.bind (idx a.tickets (i:Int)) fun f=>Option.bind (Qq f) fun g=>Option.bind (zE 977343669134 e ([g]:List za)) fun h=>some (.nx h))
  a.tickets.length (fun k d=>d=a.tickets.take k) (s:=([]:List za)) rfl
  (fun k d b l=>by
   subst l
   obtain⟨o,p,q⟩:=c.vals (List.getElem_mem b)
   refine⟨_,?_,rfl⟩
   rw[ZP _ _ b,Option.bind_some,zck (by omega) (by omega) (by omega),Option.bind_some,jp (by rw[List.length_take];omega),Option.bind_some]
   rw[List.take_add_one,List.getElem?_eq_getElem b]
   rfl)
 rw[j,List.take_length];rfl}
theorem zma(f:zr)(l:List zk)(u:zfJ f):∃i k a,Ja f l=some (i,k,a)∧(a=0→f.fields.length≤20∧l.length≤6000∧i.length≤400∧∀o∈i,o.values.length=f.fields.length):=by{
 obtain⟨a,v,_,w⟩:=ziR f u;unfold Ja zdE zbE;rw[v];simp only[Option.bind_some];by_cases b:a=0;rotate_left;have e:(a != 0)=true:=by simpa using b
 simp only[e,if_true,Option.bind_some];exact⟨_,_,_,rfl,fun j=>absurd j b⟩;obtain⟨g,y⟩:=w b;subst b;simp only[bne_self_eq_false,Bool.false_eq_true,if_false,zho g y,Option.bind_some]
 obtain⟨x,z,A⟩:=zba (R:=(Option ticket_Desk)×Int×Int) (body:=fun n (p:ticket_Desk)=>Option.bind (α:=Lp ticket_Desk ((Option ticket_Desk)×Int×Int)) (Option.bind (idx l (n:Int)) fun q=>Option.bind (zU p q) fun h=>if (h.1 != 0)=true then some (.rt (none,(n:Int),h.1)) else some (.fin h.2)) fun r=>r.andThen (fun E=>some (.rt E)) fun s=>some (.nx s))
  l.length (fun k d=>IsDesk f.fields.length f k d) (fun x=>(∃k a,x=.rt (none,k,a)∧a≠0)∨(∃d,x=.fin d∧IsDesk f.fields.length f l.length d)) (s:=⟨f, [], [],⟨[]⟩, [],⟨[]⟩,0⟩) IsDesk.nil
  (fun k d B c=>by
   rw[ZP _ _ B]
   rcases c.apply rfl g l[k]with ⟨a,b,m⟩|⟨F,m,t,_⟩
   ·have e:(a != 0)=true:=by simpa using b
    simp only[Option.bind_some,m,e,if_true,Lp.andThen_rt]
    exact⟨_,rfl,.inl ⟨_,_,rfl,b⟩⟩
   ·simp only[Option.bind_some,m,bne_self_eq_false,Bool.false_eq_true,if_false,Lp.andThen_fin]
    exact⟨_,rfl,t⟩)
  (fun d c=>.inr ⟨d,rfl,c⟩)
 rw[z];rcases A with ⟨k,a,rfl,b⟩|⟨d,rfl,c⟩;have e:(a != 0)=true:=by simpa using b
 simp only[Option.bind_some,Lp.andThen_rt,e,if_true];exact⟨_,_,_,rfl,fun j=>absurd j b⟩;simp only[Option.bind_some,Lp.andThen_fin,bne_self_eq_false,Bool.false_eq_true,if_false,zkS c g];exact⟨_,_,_,rfl,fun _=>⟨g,c.k,c.len,fun o D=>(c.vals D).1⟩⟩}
theorem zmj{k:Nat}{e:ticket_Desk}{l:List zk}{D:List Int}{out:List zH}(b1:k<l.length)(c1:e.tickets.length≤400)(s:ziD l[k] e.tickets.length e.other)(b2:D.length≤400)(c2:out.length≤2*k)(c0:k≤6000):
  ∃r j,jY e (k:Int) l D out=some (r,j)∧r.length≤400∧j.length≤2*(k+1)∧∀d∈j,d∈out∨d.event=(k:Int):=by{
 obtain⟨H,t,B⟩:=s.tk;unfold jY;rw[ZP _ _ b1];simp only[Option.bind_some];generalize l[k]=x at s t
 obtain⟨g,a5,X,Z⟩:∃g:List Int,(Option.bind (if (x.kind==7)=true then some (x.kind==7) else some (x.kind==8)) fun a6=>Option.bind (if a6=true then Option.bind (zE 17592186044416 ([x.ticket]:List Int) ([x.to_]:List Int)) fun a7=>some a7 else Option.bind (if (x.kind==9)=true then Option.bind (zE 17592186044416 ([x.ticket]:List Int) ([e.other]:List Int)) fun a0=>some a0 else some ([x.ticket]:List Int)) fun a8=>some a8) fun a9=>some a9)=some g∧
   g.length≤2∧∀c∈g,∃b:Nat,c=(b:Int)+1∧b<e.tickets.length:=by
  have R:∀I p:Int,zE 17592186044416 ([I]:List Int) ([p]:List Int)=some [I,p]:=fun I p=>rfl
  by_cases u:x.kind=7∨x.kind=8
  ·obtain⟨b,o,n⟩:=s.to_ u
   refine⟨[x.ticket,x.to_],?_,Nat.le_refl _,fun c a=>?_⟩
   ·rcases u with i|i <;> simp[i,R]
   ·rcases List.mem_cons.1 a with rfl|a
    ·exact⟨H,t,B⟩
    ·rw[List.mem_singleton]at a
     exact⟨b,by rw[a,o],n⟩
  ·have b3:(x.kind==7)=false:=by simpa using fun i=>u (.inl i)
   have b4:(x.kind==8)=false:=by simpa using fun i=>u (.inr i)
   by_cases E:x.kind=9
   ·obtain⟨b,o,n⟩:=s.nine E
    refine⟨[x.ticket,e.other],?_,Nat.le_refl _,fun c a=>?_⟩
    ·simp[E,R]
    ·rcases List.mem_cons.1 a with rfl|a
     ·exact⟨H,t,B⟩
     ·rw[List.mem_singleton]at a
      exact⟨b,by rw[a,o],n⟩
   ·have b5:(x.kind==9)=false:=by simpa using E
    refine⟨[x.ticket],?_,by simp,fun c a=>?_⟩
    ·simp[b3,b4,b5]
    ·rw[List.mem_singleton]at a
     exact⟨H,by rw[a,t],B⟩
 rw[a5,Option.bind_some,zcX,if_pos (by omega),Option.bind_some];have M:=List.mergeSort_perm g (fun x f=>decide (x≤f));have b0:(g.mergeSort fun x f=>decide (x≤f)).length≤2:=by rw[M.length_eq];exact X
 have N:∀c∈g.mergeSort (fun x f=>decide (x≤f)),∃b:Nat,c=(b:Int)+1∧b<e.tickets.length:=fun c a=>Z c (M.mem_iff.1 a);generalize (g.mergeSort fun x f=>decide (x≤f))=sl at b0 N
 obtain⟨⟨r,j⟩,F,S,b6,T⟩:=qb (R:=List Int×List zH) (b:=fun a1 (w:List Int×List zH)=>Option.bind (Option.bind (idx sl (a1:Int)) fun m=>Option.bind (jO (R:=Empty) (fun h=>if (decide ((h.length:Int)<m))=true then Option.bind (zE 17592186044416 h ([0]:List Int)) fun y=>some (.nx y) else some (.bk h)) w.1) fun a2=>a2.andThen (fun f=>f.elim) fun z=>Option.bind (idx e.tickets (w64 (m-1))) fun A=>Option.bind (idx z (w64 (m-1))) fun J=>Option.bind (if (A.status != J)=true then Option.bind (zE 4398046511104 w.2 ([(⟨(k:Int),m,J,A.status⟩:zH)]:List zH)) fun a3=>Option.bind (setI z (w64 (m-1)) A.status) fun a4=>some (a4,a3) else some (z,w.2)) fun K=>some (K.1,K.2)) fun L=>some (.nx (L.1,L.2)))
  sl.length (fun W d=>d.1.length≤400∧d.2.length≤2*k+W∧∀c∈d.2,c∈out∨c.event=(k:Int)) (s:=(D,out)) ⟨b2,by omega,fun c a=>.inl a⟩
  (by
   rintro W⟨p,b9⟩U⟨g1,b7,G⟩
   dsimp only at g1 b7 G
   obtain⟨b,o,n⟩:=N _ (List.getElem_mem U)
   rw[ZP _ _ U]
   simp only[Option.bind_some]
   rw[o]
   obtain⟨c3,F,q,rfl,O,P⟩:=JF (R:=Empty) (body:=fun (h:List Int)=>if (decide ((h.length:Int)<((b:Int)+1)))=true then Option.bind (zE 17592186044416 h ([0]:List Int)) fun y=>some (.nx y) else some (.bk h))
    (fun d=>d.length≤400) (fun d=>400-d.length) (fun x=>∃q,x=.fin q∧q.length≤400∧b<q.length) (s:=p) g1
    (by
     intro d v
     by_cases Q:((d.length:Int)<(b:Int)+1)
     ·rw[if_pos (decide_eq_true Q),jp (by omega),Option.bind_some]
      refine⟨_,rfl,?_,?_⟩
      ·rw[List.length_append,List.length_singleton];omega
      ·rw[List.length_append,List.length_singleton];omega
     ·rw[if_neg (by simpa using Q)]
      exact⟨_,rfl,d,rfl,v,by omega⟩)
   have b8:w64 ((b:Int)+1-1)=(b:Int):=QD rfl (by omega)
   rw[F,Option.bind_some,Lp.andThen_fin,b8,ZP _ _ n,Option.bind_some,ZP _ _ P,Option.bind_some]
   by_cases v:((e.tickets[b]).status != q[b])=true
   ·rw[if_pos v,jp (by omega),Option.bind_some,ZV P]
    refine⟨_,rfl,by rw[List.length_set];exact O,?_,fun c a=>?_⟩
    ·rw[List.length_append,List.length_singleton];omega
    ·rcases List.mem_append.1 a with a|a
     ·exact G c a
     ·rw[List.mem_singleton]at a
      subst a
      exact .inr rfl
   ·rw[if_neg v]
    exact⟨_,rfl,O,by show b9.length≤_;omega,G⟩)
 rw[F];dsimp only at S b6 T;exact⟨r,j,rfl,S,by omega,T⟩}
theorem zmn(f:zr)(l:List zk)(G:zfJ f):∃t a,zaK f l=some (t,a)∧(a=0→l.length≤6000∧t.length≤12000∧∀j∈t,∃k:Nat,j.event=(k:Int)∧k<l.length):=by{
 obtain⟨a,H,_,I⟩:=ziR f G;unfold zaK jy zbE;rw[H];simp only[Option.bind_some];by_cases b:a=0;rotate_left;have d:(a != 0)=true:=by simpa using b
 simp only[d,if_true,Option.bind_some];exact⟨_,_,rfl,fun w=>absurd w b⟩;obtain⟨A,J⟩:=I b;subst b;simp only[bne_self_eq_false,Bool.false_eq_true,if_false,zho A J,Option.bind_some]
 obtain⟨x,K,L⟩:=zba (R:=(Option ticket_Desk)×Int×Int×(List Int)×(List zH)) (body:=fun r (n:ticket_Desk×List Int×List zH)=>Option.bind (α:=Lp (ticket_Desk×List Int×List zH) ((Option ticket_Desk)×Int×Int×(List Int)×(List zH))) (Option.bind (idx l (r:Int)) fun E=>Option.bind (zU n.1 E) fun q=>if (q.1 != 0)=true then some (.rt (none,(r:Int),q.1,n.2.1,n.2.2)) else Option.bind (Option.bind (jY q.2 (r:Int) l n.2.1 n.2.2) fun y=>some (y.1,y.2)) fun z=>some (.fin (q.2,z.1,z.2))) fun F=>F.andThen (fun R=>some (.rt R)) fun s=>some (.nx (s.1,s.2.1,s.2.2)))
  l.length (fun k j=>IsDesk f.fields.length f k j.1∧j.2.1.length≤400∧j.2.2.length≤2*k∧∀h∈j.2.2,∃p:Nat,h.event=(p:Int)∧p<l.length)
  (fun x=>(∃k a e c,x=.rt (none,k,a,e,c)∧a≠0)∨(∃m e c,x=.fin (m,e,c)∧IsDesk f.fields.length f l.length m∧c.length≤2*l.length∧∀h∈c,∃p:Nat,h.event=(p:Int)∧p<l.length)) (s:=(⟨f, [], [],⟨[]⟩, [],⟨[]⟩,0⟩, [], [])) ⟨IsDesk.nil,by simp,by simp,fun h u=>by simp at u⟩
  (by
   rintro k⟨m,c,D⟩v⟨g,d,o,i⟩
   dsimp only at g d o i
   rw[ZP _ _ v]
   rcases g.apply rfl A l[k]with ⟨a,b,e⟩|⟨S,e,B,M⟩
   ·have d:(a != 0)=true:=by simpa using b
    simp only[Option.bind_some,e,d,if_true,Lp.andThen_rt]
    exact⟨_,rfl,.inl ⟨_,_,_,_,rfl,b⟩⟩
   ·obtain⟨T,U,N,O,P,Q⟩:=zmj v B.len M d o g.k
    simp only[Option.bind_some,e,bne_self_eq_false,Bool.false_eq_true,if_false,N,Lp.andThen_fin]
    exact⟨_,rfl,B,O,P,fun h u=>(Q h u).elim (i h) fun a=>⟨k,a,v⟩⟩)
  (by rintro⟨m,c,D⟩ ⟨g,d,o,i⟩;exact .inr ⟨m,c,D,rfl,g,o,i⟩)
 rw[K];rcases L with ⟨k,a,e,c,rfl,b⟩|⟨m,e,c,rfl,g,o,i⟩;have d:(a != 0)=true:=by simpa using b
 simp only[Option.bind_some,Lp.andThen_rt,d,if_true];exact⟨_,_,rfl,fun w=>absurd w b⟩;simp only[Option.bind_some,Lp.andThen_fin,bne_self_eq_false,Bool.false_eq_true,if_false];have:=g.k;exact⟨_,_,rfl,fun _=>⟨this,by omega,i⟩⟩}
end Go.Proofs.YtligccioljhapaaGreatDoor.M
namespace Go.Proofs.YtligccioljhapaaGreatDoor.M
open Go Go.Pu
set_option linter.unusedSimpArgs false
set_option linter.unusedVariables false
theorem zlS(z:zP):∃b,QS z=some b∧(b=0→(-1440≤z.offset∧z.offset≤1440)∧∀a∈z.changes, -1440≤a.offset∧a.offset≤1440):=by{
 unfold QS;by_cases i:(!(qG z.offset (-1440) 1440))=true;rw[if_pos i];exact⟨2,rfl,fun c=>by cases c⟩;rw[if_neg i];have t : -1440≤z.offset∧z.offset≤1440:=by simpa [qG]using i
 by_cases n:(decide ((60:Int)<(z.changes.length:Int)))=true;rw[if_pos n];exact⟨4,rfl,fun c=>by cases c⟩;rw[if_neg n]
 obtain⟨x,u,v⟩:=zba (R:=Int) (body:=fun r (m:Int×Int)=>Option.bind (idx z.changes (r:Int)) fun f=>if ((!(qG f.at_ 1 3000000))||(!(qG f.offset (-1440) 1440)))=true then some (.rt 2) else if (decide (f.at_≤m.1))=true then some (.rt 5) else if (f.offset==m.2)=true then some (.rt 1) else some (.nx (f.at_,f.offset)))
  z.changes.length (fun k _=>∀(d:Nat) (a:qS),d<k→z.changes[d]?=some a→-1440≤a.offset∧a.offset≤1440) (fun x=>(∃b,x=.rt b∧b≠0)∨(∃e,x=.fin e∧∀a∈z.changes, -1440≤a.offset∧a.offset≤1440)) (s:=(0,z.offset))
  (fun d a c=>absurd c (Nat.not_lt_zero _))
  (fun k e o j=>by
   have l:z.changes[k]?=some z.changes[k]:=List.getElem?_eq_getElem o
   rw[ZP _ _ o]
   simp only[Option.bind_some]
   by_cases g1:((!(qG z.changes[k].at_ 1 3000000))||(!(qG z.changes[k].offset (-1440) 1440)))=true
   ·rw[if_pos g1]
    exact⟨_,rfl,.inl ⟨2,rfl,by decide⟩⟩
   rw[if_neg g1]
   by_cases p:(decide (z.changes[k].at_≤e.1))=true
   ·rw[if_pos p]
    exact⟨_,rfl,.inl ⟨5,rfl,by decide⟩⟩
   rw[if_neg p]
   by_cases q:(z.changes[k].offset==e.2)=true
   ·rw[if_pos q]
    exact⟨_,rfl,.inl ⟨1,rfl,by decide⟩⟩
   rw[if_neg q]
   refine⟨_,rfl,fun d a g h=>?_⟩
   rcases Nat.lt_or_eq_of_le (Nat.le_of_lt_succ g)with s|rfl
   ·exact j d a s h
   ·rw[l]at h
    cases h
    simp only[Bool.or_eq_true,Bool.not_eq_true',not_or,Bool.not_eq_false]at g1
    simpa [qG]using g1.2)
  (fun e j=>.inr ⟨e,rfl,fun a l=>by
   obtain⟨d,g⟩:=List.mem_iff_getElem?.1 l
   exact j d a (List.getElem?_eq_some_iff.1 g).1 g⟩)
 rw[u];rcases v with ⟨b,rfl,w⟩|⟨e,rfl,y⟩;exact⟨b,rfl,fun c=>absurd c w⟩;exact⟨0,rfl,fun _=>⟨t,y⟩⟩}
theorem zln(z:zP)(g:QS z=some 0)(m:Int):∃B c D,jh z m=some (B,c,D)∧0≤c∧c≤1439:=by{
 obtain⟨H,i,t⟩:=zlS z;rw[g]at i;obtain rfl:=Option.some.inj i;obtain⟨u,v⟩:=t rfl;unfold jh;rw[g,Option.bind_some]
 have n:JO ([0,QH m]:List Int)=some (QH m):=by
  unfold JO QH
  split <;> rfl
 rw[n,Option.bind_some];by_cases b:(QH m != 0)=true;rw[if_pos b];exact⟨0,0,_,rfl,by omega,by omega⟩;rw[if_neg b]
 have E:0≤m∧m≤3000000:=by
  unfold QH at b
  split at b
  simp at b
  rename_i h
  simpa [qG]using h
 obtain⟨a,d,F⟩:∃a,Jz z m=some a∧-1440≤a∧a≤1440:=by
  unfold Jz
  obtain⟨a,d,w⟩:=qb (R:=Int) (b:=fun o p=>Option.bind (Option.bind (idx z.changes (o:Int)) fun f=>Option.bind (if (decide (f.at_≤m))=true then some f.offset else some p) fun q=>some q) fun r=>some (.nx r)) z.changes.length (fun _ e => -1440≤e∧e≤1440) (s:=z.offset) u
   (fun k e j x=>by
    rw[ZP _ _ j]
    simp only[Option.bind_some]
    split
    ·exact⟨_,rfl,v _ (List.getElem_mem j)⟩
    ·exact⟨_,rfl,x⟩)
  exact⟨a,by rw[d];rfl,w⟩
 rw[d,Option.bind_some,ZB (show -9223372036854775808≤m+a by omega) (by omega)]
 have s:zdb (m+a) 1440=some ((m+a) / 1440):=by
  have G:=zge (m+a) 1440 (by decide)
  have y:quo (m+a) 1440=some ((m+a).tdiv 1440):=by rw[quo,if_neg (by decide),ZB (by omega) (by omega)]
  have A:rem (m+a) 1440=some ((m+a).tmod 1440):=by rw[rem,if_neg (by decide)]
  unfold zdb
  simp only[y,A,Option.bind_some]
  by_cases l:(m+a).tmod 1440<0
  simp only[l,decide_true,if_true,Option.bind_some]
  rw[ZB (by omega) (by omega)]
  congr 1
  omega
  simp only[l,decide_false,Bool.false_eq_true,if_false,Option.bind_some]
  congr 1
  omega
 rw[s,Option.bind_some,ZB (show -9223372036854775808≤(m+a) / 1440*1440 by omega) (by omega),ZB (by omega) (by omega)];exact⟨_,_,_,rfl,by omega,by omega⟩}
def JT(z:zP)(m:Int):Int:=match jh z m with|some r=>r.1|none=>0
def zgf(z:zP)(m:Int):Int:=match jh z m with|some r=>r.2.1|none=>0
theorem ziM(z:zP)(b:QS z=some 0)(m:Int):(∃a,jh z m=some (JT z m,zgf z m,a))∧0≤zgf z m∧zgf z m≤1439:=by{obtain⟨g,f,a,e,c,d⟩:=zln z b m;unfold JT zgf;rw[e];exact⟨⟨a,rfl⟩,c,d⟩}
def hit(fr n d:Int)(u:desk_Day→desk_Day)(s:List desk_Day):List desk_Day :=
 if fr≤d∧d≤fr+n-1 then (match s[(d-fr).toNat]? with|some x=>s.set (d-fr).toNat (u x)|none=>s) else s
theorem zeC(fr n a:Int)(b:desk_Day→desk_Day)(s:List desk_Day):(hit fr n a b s).length=s.length:=by{unfold hit;split;split;rw[List.length_set];rfl;rfl}
theorem zez{fr n m c:Int}(d:desk_Day→desk_Day){a b:List desk_Day}(h:0≤n)(i:(a.length:Int)=n)(j:(b.length:Int)=m):hit fr (n+m) c d (a++b)=hit fr n c d a++hit (fr+n) m c d b:=by{
 unfold hit;by_cases e:fr≤c∧c≤fr+n-1;rw[if_pos e,if_pos (by omega),if_neg (by omega),List.getElem?_append_left (by omega)];split;rw[List.set_append_left _ _ (by omega)];rfl;rw[if_neg e];by_cases f:fr+n≤c∧c≤fr+n+m-1;have g:(c-fr).toNat-a.length=(c-(fr+n)).toNat:=by omega
 rw[if_pos f,if_pos (by omega),List.getElem?_append_right (by omega),g];split;rw[List.set_append_right _ _ (by omega),g];rfl;rw[if_neg f,if_neg (by omega)]}
def zkd(x:desk_Day):desk_Day := { x with opened:=w64 (x.opened+1) }
def zmr(x:desk_Day):desk_Day := { x with said:=w64 (x.said+1) }
def ziP(x:desk_Day):desk_Day := { x with replied:=w64 (x.replied+1) }
def zkt(x:desk_Day):desk_Day := { x with solved:=w64 (x.solved+1) }
def zko(x:desk_Day):desk_Day := { x with closed:=w64 (x.closed+1) }
theorem zhW{z:zP}{fr n at_:Int}{s:List desk_Day}(e:QS z=some 0)(i:0≤fr∧fr≤2084)(j:1≤n∧n≤400)(l:(s.length:Int)=n):
  zaw at_ z fr n s=some (hit fr n (JT z at_) zkd s)∧qZ at_ z fr n s=some (hit fr n (JT z at_) zmr s)∧Qe at_ z fr n s=some (hit fr n (JT z at_) ziP s)∧
   Qj at_ z fr n s=some (hit fr n (JT z at_) zkt s)∧Qd at_ z fr n s=some (hit fr n (JT z at_) zko s):=by{
 obtain⟨⟨m,f⟩,_⟩:=ziM z e at_;have g:w64 (w64 (fr+n)-1)=fr+n-1:=by rw[ZB (show -9223372036854775808≤fr+n by omega) (by omega),ZB (by omega) (by omega)]
 unfold zaw qZ Qe Qj Qd;rw[f];simp only[Option.bind_some,g];generalize JT z at_=b;unfold hit;by_cases a:fr≤b∧b≤fr+n-1;have d:zX b fr (fr+n-1)=true:=by simp[zX,a.1,a.2]
 have h:w64 (b-fr)=(((b-fr).toNat:Nat):Int):=by rw[ZB (by omega) (by omega)];omega
 have c:(b-fr).toNat<s.length:=by omega
 rw[if_pos a,if_pos a,if_pos a,if_pos a,if_pos a,List.getElem?_eq_getElem c];simp only[d,if_true,h,ZP _ _ c,Option.bind_some,ZV c];exact⟨rfl,rfl,rfl,rfl,rfl⟩
 have d:zX b fr (fr+n-1)=false:=by
  rw[← Bool.not_eq_true]
  simpa [zX]using a
 rw[if_neg a,if_neg a,if_neg a,if_neg a,if_neg a,d];exact⟨rfl,rfl,rfl,rfl,rfl⟩}
def ev1(z:zP)(fr n:Int)(s:List desk_Day)(x:zk):List desk_Day :=
 if ((x.kind==1)||(x.kind==8))=true then hit fr n (JT z x.at_) zkd s else if ((x.kind==2)&&(x.who==0))=true then hit fr n (JT z x.at_) zmr s else if (x.kind==2)=true then hit fr n (JT z x.at_) ziP s else s
def st1(z:zP)(l:List zk)(fr n:Int)(s:List desk_Day)(x:zH):List desk_Day :=
 match l[x.event.toNat]? with
 | some y=>if (x.after==5)=true then hit fr n (JT z y.at_) zkt s else if (x.after==6)=true then hit fr n (JT z y.at_) zko s else s
 | none=>s
def ini(fr:Int)(n:Nat):List desk_Day:=(List.range n).map fun (i:Nat)=>(⟨fr+(i:Int),0,0,0,0,0⟩:desk_Day)
theorem zmH(fr:Int)(n m:Nat):ini fr (n+m)=ini fr n++ini (fr+n) m:=by{unfold ini;rw[List.range_add,List.map_append,List.map_map];congr 1;apply List.map_congr_left;intro a _;simp only[Function.comp_apply,desk_Day.mk.injEq,and_true];omega}
theorem JY(fr:Int)(n:Nat):(ini fr n).length=n:=by simp[ini]
theorem zcu(z:zP)(fr n:Int)(s:List desk_Day)(x:zk):(ev1 z fr n s x).length=s.length:=by{unfold ev1;split;exact zeC _ _ _ _ _;split;exact zeC _ _ _ _ _;split;exact zeC _ _ _ _ _;rfl}
theorem zgi(z:zP)(l:List zk)(fr n:Int)(s:List desk_Day)(x:zH):(st1 z l fr n s x).length=s.length:=by{unfold st1;split;split;exact zeC _ _ _ _ _;split;exact zeC _ _ _ _ _;rfl;rfl}
theorem zbv{α:Type}(g:List desk_Day→α→List desk_Day)(hg:∀s x,(g s x).length=s.length):∀(l:List α) (s:List desk_Day),(l.foldl g s).length=s.length
 | [],_=>rfl
 | x::l,s=>by rw[List.foldl_cons,zbv g hg l,hg]
theorem zgS{α:Type}{n m:Nat}(gc ga gb:List desk_Day→α→List desk_Day)(ha:∀s x,(ga s x).length=s.length)(hb:∀s x,(gb s x).length=s.length)(h:∀a b x,a.length=n→b.length=m→gc (a++b) x=ga a x++gb b x):
  ∀(l:List α) (a b:List desk_Day),a.length=n→b.length=m→l.foldl gc (a++b)=l.foldl ga a++l.foldl gb b
 | [],_,_,_,_=>rfl
 | x::l,a,b,h1,h2=>by
  rw[List.foldl_cons,List.foldl_cons,List.foldl_cons,h a b x h1 h2]
  exact zgS gc ga gb ha hb h l _ _ (by rw[ha,h1]) (by rw[hb,h2])
def zaE(z:zP)(l:List zk)(st:List zH)(fr:Int)(n:Nat):List desk_Day:=st.foldl (st1 z l fr n) (l.foldl (ev1 z fr n) (ini fr n))
theorem zlL(z:zP)(l:List zk)(a:List zH)(fr:Int)(n m:Nat):zaE z l a fr (n+m)=zaE z l a fr n++zaE z l a (fr+n) m:=by{
 unfold zaE;have b:((n+m:Nat):Int)=(n:Int)+(m:Int):=by omega
 rw[zmH,zgS (n:=n) (m:=m) (ev1 z fr ((n+m:Nat):Int)) (ev1 z fr n) (ev1 z (fr+n) m) (zcu z fr n) (zcu z (fr+n) m) ?_ l _ _ (JY _ _) (JY _ _)];refine zgS (n:=n) (m:=m) (st1 z l fr ((n+m:Nat):Int)) (st1 z l fr n) (st1 z l (fr+n) m) (zgi z l fr n) (zgi z l (fr+n) m) ?_ a _ _ ?_ ?_;intro e f x c d;unfold st1;rw[b];split;split;exact zez _ (by omega) (by omega) (by omega);split;exact zez _ (by omega) (by omega) (by omega);rfl;rfl;rw[zbv _ (zcu z fr n),JY];rw[zbv _ (zcu z (fr+n) m),JY];intro e f x c d;unfold ev1;rw[b];split;exact zez _ (by omega) (by omega) (by omega);split;exact zez _ (by omega) (by omega) (by omega);split;exact zez _ (by omega) (by omega) (by omega);rfl}
theorem zdS(z:zP)(fr n:Int):∃e,jq z fr n=some e∧(e=0→QS z=some 0∧(0≤fr∧fr≤2084)∧1≤n∧n≤400):=by{
 unfold jq;obtain⟨c,g,_⟩:=zlS z;rw[g,Option.bind_some];by_cases a:(c != 0)=true;rw[if_pos a];exact⟨c,rfl,fun d=>by rw[d]at a;simp at a⟩;rw[if_neg a];have f:c=0:=by simpa using a
 by_cases b:((!(zX fr 0 2084))||(!(zX n 1 400)))=true;rw[if_pos b];exact⟨2,rfl,fun d=>by cases d⟩;rw[if_neg b];refine⟨0,rfl,fun _=>⟨by rw[f],?_⟩⟩;simpa [zX]using b}
theorem zly(f:zr)(l:List zk)(Z:zfJ f)(z:zP):∃(h:List zH) (e:Int),∀a d:Int,∃j,jq z a d=some j∧
  ((e≠0∧Qr f l z a d=some ([],e))∨(e=0∧j≠0∧Qr f l z a d=some ([],j))∨(e=0∧j=0∧Qr f l z a d=some (zaE z l h a d.toNat,0))):=by{
 obtain⟨h,e,a0,a1⟩:=zmn f l Z;refine⟨h,e,fun a d=>?_⟩;obtain⟨j,x,a2⟩:=zdS z a d;refine⟨j,x,?_⟩;unfold Qr;rw[a0,Option.bind_some];by_cases m:e=0;rotate_left;exact .inl ⟨m,by rw[if_pos (by simpa using m)]⟩;rw[if_neg (by simpa using m),x,Option.bind_some];by_cases o:j=0;rotate_left;exact .inr (.inl ⟨m,o,by rw[if_pos (by simpa using o)]⟩);rw[if_neg (by simpa using o)];refine .inr (.inr ⟨m,o,?_⟩);obtain⟨y,t,A⟩:=a2 o;obtain⟨b6,b5,W⟩:=a1 m;obtain⟨b,rfl⟩:∃b:Nat,d=(b:Int):=⟨d.toNat,by omega⟩;rw[ji,if_pos (by omega),Option.bind_some,Int.toNat_natCast]
 obtain⟨b7,g1,rfl⟩:=qb (R:=(List desk_Day)×Int) (b:=fun s (u:List desk_Day)=>Option.bind (idx u (s:Int)) fun X=>Option.bind (setI u (s:Int) ({ (X:desk_Day)with day:=w64 (a+(s:Int)) })) fun B=>some (.nx B)) (List.replicate b (⟨0,0,0,0,0,0⟩:desk_Day)).length
  (fun k c=>c=ini a k++List.replicate (b-k) (⟨0,0,0,0,0,0⟩:desk_Day)) (s:=List.replicate b (⟨0,0,0,0,0,0⟩:desk_Day)) (by simp[ini])
  (fun k c i e=>by
   subst e
   rw[List.length_replicate]at i
   have a3:k<(ini a k++List.replicate (b-k) (⟨0,0,0,0,0,0⟩:desk_Day)).length:=by rw[List.length_append,JY,List.length_replicate];omega
   have a4:(ini a k++List.replicate (b-k) (⟨0,0,0,0,0,0⟩:desk_Day))[k]?=some ⟨0,0,0,0,0,0⟩:=by
    rw[List.getElem?_append_right (by rw[JY];exact Nat.le_refl _),JY,List.getElem?_replicate,if_pos (by omega)]
   refine⟨_,?_,rfl⟩
   rw[ZW a4,Option.bind_some,ZV a3,Option.bind_some,ZB (by omega) (by omega)]
   congr 2
   rw[List.set_append_right _ _ (by rw[JY];exact Nat.le_refl _),JY,Nat.sub_self]
   have a5:b-k=(b-(k+1))+1:=by omega
   rw[a5,List.replicate_succ,List.set_cons_zero]
   have a6:ini a (k+1)=ini a k++[⟨a+(k:Int),0,0,0,0,0⟩]:=by
    unfold ini
    rw[List.range_succ,List.map_append]
    rfl
   rw[a6,List.append_assoc]
   rfl)
 rw[g1,Option.bind_some,Lp.andThen_fin,List.length_replicate,Nat.sub_self,List.replicate_zero,List.append_nil]
 obtain⟨b8,a7,rfl⟩:=qb (R:=(List desk_Day)×Int) (b:=fun D (p:List desk_Day)=>Option.bind (Option.bind (idx l (D:Int)) fun g=>Option.bind (Option.bind (if ((g.kind==1)||(g.kind==8))=true then Option.bind (zaw g.at_ z a (b:Int) p) fun E=>some E else Option.bind (if ((g.kind==2)&&(g.who==0))=true then Option.bind (qZ g.at_ z a (b:Int) p) fun F=>some F else Option.bind (if (g.kind==2)=true then Option.bind (Qe g.at_ z a (b:Int) p) fun G=>some G else some p) fun H=>some H) fun I=>some I) fun J=>some J) fun K=>some K) fun L=>some (.nx L)) l.length
  (fun k c=>c=(l.take k).foldl (ev1 z a b) (ini a b)) (s:=ini a b) rfl
  (fun k c i e=>by
   subst e
   refine⟨_,?_,rfl⟩
   have n:(((l.take k).foldl (ev1 z a b) (ini a b)).length:Int)=(b:Int):=by rw[zbv _ (zcu z a b),JY]
   rw[List.take_add_one,List.getElem?_eq_getElem i,Option.toList_some,List.foldl_append,List.foldl_cons,List.foldl_nil]
   generalize (l.take k).foldl (ev1 z a b) (ini a b)=c at n
   obtain⟨a8,a9,b0,_,_⟩:=zhW (at_:=l[k].at_) y t A n
   rw[ZP _ _ i]
   simp only[Option.bind_some,a8,a9,b0]
   unfold ev1
   split
   ·rfl
   split
   ·rfl
   split
   ·rfl
   ·rfl)
 rw[a7,Option.bind_some,Lp.andThen_fin,List.take_length]
 obtain⟨b9,b1,rfl⟩:=qb (R:=(List desk_Day)×Int) (b:=fun M (r:List desk_Day)=>Option.bind (Option.bind (idx h (M:Int)) fun q=>Option.bind (Option.bind (if (q.after==5)=true then Option.bind (idx l q.event) fun N=>Option.bind (Qj N.at_ z a (b:Int) r) fun O=>some O else Option.bind (if (q.after==6)=true then Option.bind (idx l q.event) fun P=>Option.bind (Qd P.at_ z a (b:Int) r) fun Q=>some Q else some r) fun R=>some R) fun S=>some S) fun T=>some T) fun U=>some (.nx U)) h.length
  (fun k c=>c=(h.take k).foldl (st1 z l a b) (l.foldl (ev1 z a b) (ini a b))) (s:=l.foldl (ev1 z a b) (ini a b)) rfl
  (fun k c i e=>by
   subst e
   refine⟨_,?_,rfl⟩
   have n:(((h.take k).foldl (st1 z l a b) (l.foldl (ev1 z a b) (ini a b))).length:Int)=(b:Int):=by rw[zbv _ (zgi z l a b),zbv _ (zcu z a b),JY]
   rw[List.take_add_one,List.getElem?_eq_getElem i,Option.toList_some,List.foldl_append,List.foldl_cons,List.foldl_nil]
   generalize (h.take k).foldl (st1 z l a b) (l.foldl (ev1 z a b) (ini a b))=c at n
   obtain⟨b4,v,w⟩:=W _ (List.getElem_mem i)
   obtain⟨_,_,_,b2,b3⟩:=zhW (at_:=l[b4].at_) y t A n
   rw[ZP _ _ i]
   unfold st1
   rw[v,Int.toNat_natCast,List.getElem?_eq_getElem w]
   simp only[Option.bind_some,v,ZP _ _ w,b2,b3]
   split
   ·rfl
   split
   ·rfl
   ·rfl)
 rw[b1,Option.bind_some,Lp.andThen_fin,List.take_length];rfl}
end Go.Proofs.YtligccioljhapaaGreatDoor.M
namespace Go.Proofs.YtligccioljhapaaGreatDoor.M
open Go Go.Pu
set_option linter.unusedSimpArgs false
set_option linter.unusedVariables false
theorem zgh(a b:Int):w64 (w64 a+b)=w64 (a+b):=by{simp only[w64,IntKind.wrap,IntKind.bits,IntKind.signed];simp;omega}
theorem zny(a b:Int):w64 (a+w64 b)=w64 (a+b):=by rw[Int.add_comm,zgh,Int.add_comm]
def hour(z:zP)(m:Int):Nat:=((JT z m).tmod 7*24+(zgf z m).tdiv 60).toNat
def bump(z:zP)(fr n:Int)(s:List Int)(x:zk):List Int :=
 if ((x.kind != 2)||(x.who != 0))=true then s else if fr≤JT z x.at_∧JT z x.at_≤fr+n-1 then (match s[hour z x.at_]? with|some v=>s.set (hour z x.at_) (w64 (v+1))|none=>s) else s
theorem zeV(z:zP)(fr n:Int)(s:List Int)(x:zk):(bump z fr n s x).length=s.length:=by{unfold bump;split;rfl;split;split;rw[List.length_set];rfl;rfl}
def zbK(z:zP)(l:List zk)(fr n:Int):List Int:=l.foldl (bump z fr n) (List.replicate 168 0)
theorem zdp(z:zP)(fr n:Int):∀(l:List zk) (s:List Int),(l.foldl (bump z fr n) s).length=s.length
 | [],_=>rfl
 | x::l,s=>by rw[List.foldl_cons,zdp z fr n l,zeV]
theorem zen(z:zP)(l:List zk)(fr n:Int):(zbK z l fr n).length=168:=by{unfold zbK;rw[zdp,List.length_replicate]}
theorem zfU(f:zr)(l:List zk)(z:zP)(fr n:Int){F:List za}{k:Int}(G:Ja f l=some (F,k,0)):∃b,jq z fr n=some b∧((b≠0∧QG f l z fr n=some ([],b))∨(b=0∧QG f l z fr n=some (zbK z l fr n,0))):=by{
 obtain⟨b,p,H⟩:=zdS z fr n;refine⟨b,p,?_⟩;unfold QG;rw[G,Option.bind_some,if_neg (by simp),p,Option.bind_some];by_cases d:b=0;rotate_left;exact .inl ⟨d,by rw[if_pos (by simpa using d)]⟩;rw[if_neg (by simpa using d)];refine .inr ⟨d,?_⟩;obtain⟨I,N,O⟩:=H d;rw[ji,if_pos (by decide),Option.bind_some]
 obtain⟨P,J,rfl⟩:=qb (R:=(List Int)×Int) (b:=fun A (g:List Int)=>Option.bind (Option.bind (idx l (A:Int)) fun j=>if ((j.kind != 2)||(j.who != 0))=true then some g else Option.bind (jh z j.at_) fun c=>Option.bind (if (zX c.1 fr (w64 ((w64 (fr+n))-1)))=true then Option.bind (idx g (w64 ((w64 ((Int.tmod c.1 7)*24))+(w64 (Int.tdiv c.2.1 60))))) fun u=>Option.bind (setI g (w64 ((w64 ((Int.tmod c.1 7)*24))+(w64 (Int.tdiv c.2.1 60)))) (w64 (u+1))) fun v=>some v else some g) fun w=>some w) fun B=>some (.nx B)) l.length
  (fun k i=>i=(l.take k).foldl (bump z fr n) (List.replicate 168 0)) (s:=List.replicate (168:Int).toNat (0:Int)) rfl
  (fun k i q t=>by
   subst t
   refine⟨_,?_,rfl⟩
   have y:((l.take k).foldl (bump z fr n) (List.replicate 168 0)).length=168:=by rw[zdp,List.length_replicate]
   rw[List.take_add_one,List.getElem?_eq_getElem q,Option.toList_some,List.foldl_append,List.foldl_cons,List.foldl_nil]
   generalize (l.take k).foldl (bump z fr n) (List.replicate 168 0)=i at y
   rw[ZP _ _ q]
   generalize l[k]=x
   obtain⟨⟨t,K⟩,D,E⟩:=ziM z I x.at_
   have L:w64 (w64 (fr+n)-1)=fr+n-1:=by rw[ZB (show -9223372036854775808≤fr+n by omega) (by omega),ZB (by omega) (by omega)]
   simp only[Option.bind_some,K,L]
   unfold bump hour
   by_cases h:((x.kind != 2)||(x.who != 0))=true
   ·rw[if_pos h,if_pos h]
    rfl
   rw[if_neg h,if_neg h]
   generalize JT z x.at_=a
   generalize zgf z x.at_=mi at D E
   by_cases e:fr≤a∧a≤fr+n-1
   ·have o:zX a fr (fr+n-1)=true:=by simp[zX,e.1,e.2]
    obtain⟨_,r,_⟩:=zge a 7 (by decide)
    obtain⟨_,s,_⟩:=zge mi 60 (by decide)
    have r:=r (by omega)
    have s:=s (by omega)
    have M:w64 (w64 (a.tmod 7*24)+w64 (mi.tdiv 60))=(((a.tmod 7*24+mi.tdiv 60).toNat:Nat):Int):=by
     rw[ZB (show -9223372036854775808≤a.tmod 7*24 by omega) (by omega),ZB (show -9223372036854775808≤mi.tdiv 60 by omega) (by omega),ZB (by omega) (by omega)]
     omega
    have m:(a.tmod 7*24+mi.tdiv 60).toNat<i.length:=by omega
    rw[if_pos e,List.getElem?_eq_getElem m]
    simp only[o,if_true,M,ZP _ _ m,Option.bind_some,ZV m]
   ·have o:zX a fr (fr+n-1)=false:=by
     rw[← Bool.not_eq_true]
     simpa [zX]using e
    rw[if_neg e,o]
    rfl)
 rw[J,Option.bind_some,Lp.andThen_fin,List.take_length];rfl}
def Adds(a b c:List Int):Prop:=a.length=168∧b.length=168∧c.length=168∧∀(i:Nat) (x y:Int),a[i]?=some x→b[i]?=some y→c[i]?=some (w64 (x+y))
theorem zlA{z:zP}{fr n m:Int}(B:0≤n)(D:0≤m){a b c:List Int}(x:zk)(A:Adds a b c):Adds (bump z fr n a x) (bump z (fr+n) m b x) (bump z fr (n+m) c x):=by{
 obtain⟨s,t,u,g⟩:=A;refine⟨by rw[zeV,s],by rw[zeV,t],by rw[zeV,u],?_⟩;unfold bump;by_cases h:((x.kind != 2)||(x.who != 0))=true;rw[if_pos h,if_pos h,if_pos h];exact g;rw[if_neg h,if_neg h,if_neg h];generalize JT z x.at_=o;generalize hour z x.at_=d;by_cases E:d<168;rotate_left;rw[List.getElem?_eq_none (by omega:a.length≤d),List.getElem?_eq_none (by omega:b.length≤d),List.getElem?_eq_none (by omega:c.length≤d)];simp only[ite_self];exact g;have la:d<a.length:=by omega
 have l:d<b.length:=by omega
 have p:d<c.length:=by omega
 have v:=g d _ _ (List.getElem?_eq_getElem la) (List.getElem?_eq_getElem l);rw[List.getElem?_eq_getElem la,List.getElem?_eq_getElem l,v];dsimp only;by_cases q:fr≤o∧o≤fr+n-1;rw[if_pos q,if_neg (by omega),if_pos (by omega)];intro j w y e f;rw[List.getElem?_set]at e ⊢;by_cases i:d=j;subst i;rw[if_pos rfl,if_pos la]at e;rw[if_pos rfl,if_pos p];obtain rfl:=Option.some.inj e;rw[List.getElem?_eq_getElem l]at f;obtain rfl:=Option.some.inj f;rw[zgh,zgh];congr 2;omega;rw[if_neg i]at e ⊢;exact g j _ _ e f;rw[if_neg q];by_cases r:fr+n≤o∧o≤fr+n+m-1;rw[if_pos r,if_pos (by omega)];intro j w y e f;rw[List.getElem?_set]at f ⊢;by_cases i:d=j;subst i;rw[if_pos rfl,if_pos l]at f;rw[if_pos rfl,if_pos p];obtain rfl:=Option.some.inj f;rw[List.getElem?_eq_getElem la]at e;obtain rfl:=Option.some.inj e;rw[zgh,zny];congr 2;omega;rw[if_neg i]at f ⊢;exact g j _ _ e f;rw[if_neg r,if_neg (by omega)];exact g}
theorem zkO(z:zP)(l:List zk)(fr:Int){n m:Int}(g:0≤n)(i:0≤m):Adds (zbK z l fr n) (zbK z l (fr+n) m) (zbK z l fr (n+m)):=by{
 unfold zbK
 have f:∀(l:List zk) (b c d:List Int),Adds b c d→Adds (l.foldl (bump z fr n) b) (l.foldl (bump z (fr+n) m) c) (l.foldl (bump z fr (n+m)) d):=by
  intro l
  induction l with
  | nil=>intro b c d h;exact h
  | cons x l ih=>intro b c d h;exact ih _ _ _ (zlA g i x h)
 refine f l _ _ _ ⟨List.length_replicate,List.length_replicate,List.length_replicate,fun j x o a e=>?_⟩;rw[List.getElem?_replicate]at a e ⊢;split at a;rw[if_pos ‹_›]at e ⊢;obtain rfl:=Option.some.inj a;obtain rfl:=Option.some.inj e;rfl;cases a}
end Go.Proofs.YtligccioljhapaaGreatDoor.M
