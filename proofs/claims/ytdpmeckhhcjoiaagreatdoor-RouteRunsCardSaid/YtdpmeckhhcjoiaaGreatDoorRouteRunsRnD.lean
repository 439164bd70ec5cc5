import Derived.Test.YtdpmeckhhcjoiaaGreatDoorRouteRunsRnC
namespace Go.Proofs.YtdpmeckhhcjoiaaGreatDoor.M
open Go Go.Pu
set_option linter.unusedSimpArgs false
set_option linter.unusedVariables false
def NextOK(Ev:Int→Prop)(t s:Int):Prop:=(s = -1∨(t<s∧Ev s))∧∀u,t<u→u≤3000000→(s = -1∨u<s)→¬Ev u
theorem NextOK.min{Ev Ev2 h:Int→Prop}{t s v:Int}(o:0≤t)(f:NextOK Ev t s)(i:t<v∧Ev2 v)(j:∀a,t<a→a≤3000000→a<v→¬Ev2 a)(e:∀a,h a↔Ev a∨Ev2 a):NextOK h t (if s<0∨v<s then v else s):=by{obtain⟨n,k⟩:=f;by_cases l:s<0∨v<s;rw[if_pos l];refine⟨.inr ⟨i.1,(e v).2 (.inr i.2)⟩,fun a c d m g=>?_⟩;rcases (e a).1 g with b|b;exact k a c d (by omega) b;exact j a c d (by omega) b;rw[if_neg l];refine⟨n.imp id fun f=>⟨f.1,(e s).2 (.inl f.2)⟩,fun a c d m g=>?_⟩;rcases (e a).1 g with b|b;exact k a c d m b;exact j a c d (by omega) b}
theorem NextOK.skip{Ev Ev2 c:Int→Prop}{t s:Int}(g:NextOK Ev t s)(i:∀a,t<a→a≤3000000→¬Ev2 a)(d:∀a,c a↔Ev a∨Ev2 a):NextOK c t s:=by{refine⟨g.1.imp id fun h=>⟨h.1,(d s).2 (.inl h.2)⟩,fun a e f j k=>?_⟩;rcases (d a).1 k with b|b;exact g.2 a e f j b;exact i a e f b}
theorem NextOK.congr{Ev b:Int→Prop}{t s:Int}(c:NextOK Ev t s)(e:∀a,Ev a↔b a):NextOK b t s :=
 ⟨c.1.imp id fun d=>⟨d.1,(e s).1 d.2⟩,fun a f g h i=>c.2 a f g h ((e a).2 i)⟩
def zgc(c:zi)(u:Int):Prop:=opn c u=true∧opn c (u-1)=false
theorem zqc{c:zi}(q:ziH c)(m:Int)(r:0≤m∧m≤3000000):∃b d,Option.bind (zax c m) (fun F=>Option.bind (if F.1=true then Option.bind (Ja c m) fun h=>some (h.1,h.2) else some (m,0)) fun j=>Option.bind (if (j.2==0)=true then Option.bind (zaK c j.1) fun z=>some (z.1,z.2) else some (j.1,j.2)) fun G=>some G)=some (b,d)∧
  (d=0→m<b∧b≤3000000∧zgc c b∧∀a,m<a→a<b→¬zgc c a)∧(d≠0→∀a,m<a→a≤3000000→¬zgc c a):=by{
 obtain⟨b,d,s,t,u⟩:∃b d,(if opn c m=true then Option.bind (Ja c m) fun h=>some (h.1,h.2) else some (m,0))=some (b,d)∧(d=0→m≤b∧b≤3000000∧opn c b=false∧∀a,m<a→a≤b→¬zgc c a)∧(d≠0→∀a,m<a→a≤3000000→¬zgc c a):=by
  by_cases e:opn c m=true
  obtain⟨b,d,w,x,y⟩:=zlz q m r
  rw[if_pos e,w]
  refine⟨b,d,rfl,fun f=>?_,fun f a s t u=>?_⟩
  obtain⟨A,B,k,l⟩:=x f
  refine⟨A,B,k,fun a n o g=>?_⟩
  have:=l (a-1) (by omega) (by omega)
  rw[g.2]at this
  cases this
  have:=y f (a-1) (by omega) (by omega)
  rw[u.2]at this
  cases this
  rw[if_neg e]
  rw[Bool.not_eq_true]at e
  exact⟨m,0,rfl,fun _=>⟨Int.le_refl _,r.2,e,fun a s t=>by omega⟩,fun e=>absurd rfl e⟩
 rw[zmY q m r,Option.bind_some];dsimp only;rw[s,Option.bind_some];dsimp only;by_cases i:d=0;obtain⟨A,B,k,l⟩:=t i;obtain⟨v,H,w,x,y⟩:=znl q b (by omega);rw[if_pos (by simpa using i),w];refine⟨v,H,rfl,fun f=>?_,fun f a n o g=>?_⟩;obtain⟨I,J,D,E⟩:=x f
 have K:b<v:=by
  rcases Int.lt_or_eq_of_le I with e|rfl
  exact e
  rw[D]at k;cases k
 refine⟨by omega,J,⟨D,E (v-1) (by omega) (by omega)⟩,fun a n o g=>?_⟩;by_cases p:a≤b;exact l a n p g;have:=E a (by omega) o;rw[g.1]at this;cases this;by_cases p:a≤b;exact l a n p g;have:=y f a (by omega) o;rw[g.1]at this;cases this;rw[if_neg (by simpa using i)];exact⟨b,d,rfl,fun e=>absurd e i,fun _=>u i⟩}
def EvB(people:List ze)(cals:List zi)(away:List Bool)(held:List zb)(n:Nat)(u:Int):Prop :=
 ∃(i:Nat) (c:zi) (k:Nat) (p:ze),i<n∧cals[i]?=some c∧people[k]?=some p∧p.calendar=(i:Int)∧away[k]?=some false∧wOf held p.no<p.capacity∧zgc c u
def EvS(steps:List zt)(waiting:List za)(n:Nat)(u:Int):Prop:=∃(i:Nat) (w:za) (s:zt),i<n∧waiting[i]?=some w∧s∈steps∧u=w.since+s.after
theorem zri(people:List ze)(e:List Bool)(u:List Int)(held:List zb)(i:Nat)(P:e.length=people.length)(J:∀(k:Nat) (a:ze),people[k]?=some a→u[k]?=some (wOf held a.no)):
  ∃n,zS (R:=Empty) (fun c t=>Option.bind (Option.bind (idx people (c:Int)) fun g=>Option.bind (if (g.calendar==(i:Int))=true then (Option.bind (idx e (c:Int)) fun o=>some (!o)) else (some false)) fun h=>Option.bind (if h=true then (Option.bind (idx u (c:Int)) fun p=>some (decide (p<g.capacity))) else (some false)) fun q=>Option.bind (if q=true then some (c:Int) else some t) fun r=>some r) fun s=>some (.nx s)) people.length 0 (-1)=some (.fin n)∧
   (n<0↔¬∃(k:Nat) (a:ze),people[k]?=some a∧a.calendar=(i:Int)∧e[k]?=some false∧wOf held a.no<a.capacity):=by{
 obtain⟨n,N,v⟩:=ZU (R:=Empty) (b:=fun c t=>Option.bind (Option.bind (idx people (c:Int)) fun g=>Option.bind (if (g.calendar==(i:Int))=true then (Option.bind (idx e (c:Int)) fun o=>some (!o)) else (some false)) fun h=>Option.bind (if h=true then (Option.bind (idx u (c:Int)) fun p=>some (decide (p<g.capacity))) else (some false)) fun q=>Option.bind (if q=true then some (c:Int) else some t) fun r=>some r) fun s=>some (.nx s))
  people.length (fun O D=>(D<0↔¬∃(k:Nat) (a:ze),k<O∧people[k]?=some a∧a.calendar=(i:Int)∧e[k]?=some false∧wOf held a.no<a.capacity)) (s := -1) ⟨fun _ ⟨k,a,d,_⟩=>absurd d (Nat.not_lt_zero k),fun _=>by decide⟩
  (by
   intro k D K v
   have j:people[k]?=some people[k]:=List.getElem?_eq_getElem K
   have m:e[k]?=some e[k]:=List.getElem?_eq_getElem (by omega)
   generalize people[k]=a at j
   generalize e[k]=b at m
   have L:=J k a j
   simp only[Zg,j,m,L,Option.bind_some]
   by_cases w:a.calendar=(i:Int)∧b=false∧wOf held a.no<a.capacity
   ·obtain⟨F,rfl,G⟩:=w
    have l:(a.calendar==(i:Int))=true:=by simpa using F
    simp only[l,if_true,Option.bind_some,Bool.not_false,decide_eq_true G]
    exact⟨_,rfl,⟨fun d=>by omega,fun d=>absurd ⟨k,a,Nat.lt_succ_self k,j,F,m,G⟩ d⟩⟩
   ·have l:∃E:Bool,Option.bind (if (a.calendar==(i:Int))=true then some (!b) else some false) (fun h=>(if h=true then some (decide (wOf held a.no<a.capacity)) else some false))=some E∧E=false:=by
     by_cases x:a.calendar=(i:Int)
     ·rw[if_pos (by simpa using x)]
      cases b with
      | true=>exact⟨_,rfl,rfl⟩
      | false=>exact⟨_,rfl,decide_eq_false fun d=>w ⟨x,rfl,d⟩⟩
     ·rw[if_neg (by simpa using x)]
      exact⟨_,rfl,rfl⟩
    obtain⟨E,l,rfl⟩:=l
    rw[← Option.bind_assoc,l]
    refine⟨D,rfl,v.trans (not_congr ⟨fun⟨y,z,d,f⟩=>⟨y,z,by omega,f⟩,fun⟨y,z,d,A,H,B,I⟩=>?_⟩)⟩
    rcases Nat.lt_or_eq_of_le (Nat.le_of_lt_succ d)with M|rfl
    ·exact⟨y,z,M,A,H,B,I⟩
    ·rw[j]at A
     cases A
     rw[m]at B
     exact absurd ⟨H,Option.some.inj B,I⟩ w)
 refine⟨n,N,v.trans (not_congr ⟨fun⟨k,a,_,f⟩=>⟨k,a,f⟩,fun⟨k,a,f⟩=>⟨k,a,(List.getElem?_eq_some_iff.1 f.1).1,f⟩⟩)⟩}
section
variable{people:List ze}{cals:List zi}{steps:List zt}{t:Int}{R:zl}
theorem zpK(N:RtOK people cals steps)(n:RInv people cals steps t R)(m:Int)(O:0≤m∧m≤3000000):∃G,zaZ R m=some G∧NextOK (EvB people cals R.assigner.away R.held cals.length) m G:=by{
 unfold zaZ;obtain⟨P,a7,c4,a8⟩:=zkq N.duty.ppl n.all;rw[n.ppl,n.cls,a7,Option.bind_some]
 obtain⟨G,c1,q⟩:=ZU (R:=Int) (b:=fun M v=>Option.bind (Option.bind (idx cals (M:Int)) fun I=>Option.bind (zS (R:=Empty) (fun w a3=>Option.bind (Option.bind (idx people (w:Int)) fun L=>Option.bind (if (L.calendar==(M:Int))=true then (Option.bind (idx R.assigner.away (w:Int)) fun W=>some (!W)) else (some false)) fun X=>Option.bind (if X=true then (Option.bind (idx P (w:Int)) fun Z=>some (decide (Z<L.capacity))) else (some false)) fun a0=>Option.bind (if a0=true then some (w:Int) else some a3) fun a1=>some a1) fun a2=>some (.nx a2)) people.length 0 (-1)) fun o83=>o83.andThen (fun c0=>c0.elim) fun a4=>if (decide (a4<0))=true then some v else Option.bind (zax I m) fun o=>Option.bind (if o.1=true then Option.bind (Ja I m) fun i=>some (i.1,i.2) else some (m,0)) fun b=>Option.bind (if (b.2==0)=true then Option.bind (zaK I b.1) fun j=>some (j.1,j.2) else some (b.1,b.2)) fun d=>Option.bind (if ((d.2==0)&&((decide (v<0))||(decide (d.1<v))))=true then some d.1 else some v) fun p=>some p) fun a5=>some (.nx a5))
  cals.length (fun e f=>NextOK (EvB people cals R.assigner.away R.held e) m f) (s := -1) ⟨.inl rfl,fun g _ _ _ ⟨u,_,_,_,n,_⟩=>Nat.not_lt_zero u n⟩
  (by
   intro e f a9 q
   have r:cals[e]?=some cals[e]:=List.getElem?_eq_getElem a9
   generalize cals[e]=c at r
   obtain⟨c2,b0,Q⟩:=zri people R.assigner.away P R.held e n.awl a8
   have b1:=N.duty.each e c r
   have H:∀g,EvB people cals R.assigner.away R.held (e+1) g↔EvB people cals R.assigner.away R.held e g∨((∃(h:Nat) (a:ze),people[h]?=some a∧a.calendar=(e:Int)∧R.assigner.away[h]?=some false∧wOf R.held a.no<a.capacity)∧zgc c g):=fun g=>by
    constructor
    ·rintro⟨u,J,h,a,y,z,k,l,A,B,D⟩
     rcases Nat.lt_or_eq_of_le (Nat.le_of_lt_succ y)with b2|rfl
     ·exact .inl ⟨u,J,h,a,b2,z,k,l,A,B,D⟩
     ·rw[r]at z
      cases z
      exact .inr ⟨⟨h,a,k,l,A,B⟩,D⟩
    ·rintro (⟨u,J,h,a,y,c3⟩ | ⟨⟨h,a,k,l,A,B⟩,D⟩)
     ·exact⟨u,J,h,a,by omega,c3⟩
     ·exact⟨e,c,h,a,Nat.lt_succ_self e,r,k,l,A,B,D⟩
   rw[Zg,r,Option.bind_some,b0,Option.bind_some,Lp.andThen_fin]
   by_cases E:c2<0
   ·rw[if_pos (by simpa using E)]
    refine⟨f,rfl,q.skip (fun g _ _ s=>(Q.1 E) s.1) H⟩
   ·have a6:=Classical.not_not.1 (fun b3=>E (Q.2 b3))
    obtain⟨S,T,b4,b5,b6⟩:=zqc b1 m O
    rw[if_neg (by simpa using E)]
    have b7:Option.bind (zax c m) (fun o=>Option.bind (if o.1=true then Option.bind (Ja c m) fun i=>some (i.1,i.2) else some (m,0)) fun b=>Option.bind (if (b.2==0)=true then Option.bind (zaK c b.1) fun j=>some (j.1,j.2) else some (b.1,b.2)) fun d=>Option.bind (if ((d.2==0)&&((decide (f<0))||(decide (d.1<f))))=true then some d.1 else some f) fun p=>some p)
      = Option.bind (Option.bind (zax c m) (fun o=>Option.bind (if o.1=true then Option.bind (Ja c m) fun i=>some (i.1,i.2) else some (m,0)) fun b=>Option.bind (if (b.2==0)=true then Option.bind (zaK c b.1) fun j=>some (j.1,j.2) else some (b.1,b.2)) fun d=>some d)) (fun d=>Option.bind (if ((d.2==0)&&((decide (f<0))||(decide (d.1<f))))=true then some d.1 else some f) fun p=>some p):=by
     simp only[Option.bind_assoc,Option.bind_some]
    rw[b7,b4,Option.bind_some]
    dsimp only
    by_cases F:T=0
    ·obtain⟨y,z,k,l⟩:=b5 F
     have:=q.min O.1 (v:=S) (Ev2:=fun g=>(∃(h:Nat) (a:ze),people[h]?=some a∧a.calendar=(e:Int)∧R.assigner.away[h]?=some false∧wOf R.held a.no<a.capacity)∧zgc c g) ⟨y,a6,k⟩ (fun g K U b8 s=>l g K b8 s.2) H
     refine⟨_,?_,this⟩
     subst F
     by_cases x:f<0∨S<f
     ·rw[if_pos x,if_pos (by simpa using x)]
      rfl
     ·rw[if_neg x,if_neg (by simpa using x)]
      rfl
    ·have b9:(T==0)=false:=by simpa using F
     rw[b9]
     exact⟨f,rfl,q.skip (fun g K U s=>b6 F g K U s.2) H⟩)
 rw[c1];exact⟨G,rfl,q⟩}
theorem znG(I:RtOK people cals steps)(h:RInv people cals steps t R)(m:Int)(J:0≤m∧m≤3000000):∃p,JO R m=some p∧((R.waiting=[]∧p = -1)∨(R.waiting≠[]∧NextOK (fun a=>EvB people cals R.assigner.away R.held cals.length a∨EvS steps R.waiting R.waiting.length a) m p)):=by{
 unfold JO;by_cases s:R.waiting=[];rw[if_pos (by rw[s];rfl)];exact⟨-1,rfl,.inl ⟨s,rfl⟩⟩;rw[if_neg (by simp;exact s)];obtain⟨a4,X,Z⟩:=zpK I h m J;rw[X,Option.bind_some,h.stp]
 obtain⟨p,a5,F⟩:=ZU (R:=Int) (b:=fun O P=>Option.bind (Option.bind (idx R.waiting (O:Int)) fun A=>Option.bind (zS (R:=Empty) (fun B l=>Option.bind (Option.bind (idx steps (B:Int)) fun n=>Option.bind (if ((decide (m<(w64 (A.since+n.after))))&&((decide (l<0))||(decide ((w64 (A.since+n.after))<l))))=true then some (w64 (A.since+n.after)) else some l) fun z=>some z) fun D=>some (.nx D)) steps.length 0 P) fun Q=>Q.andThen (fun e=>e.elim) fun S=>some S) fun T=>some (.nx T))
  R.waiting.length (fun f i=>NextOK (fun a=>EvB people cals R.assigner.away R.held cals.length a∨EvS steps R.waiting f a) m i) (s:=a4)
  (Z.congr fun a=>⟨.inl,fun h=>h.elim id fun⟨b,_,_,q,_⟩=>absurd q (Nat.not_lt_zero b)⟩)
  (by
   intro f i K F
   have u:R.waiting[f]?=some R.waiting[f]:=List.getElem?_eq_getElem K
   have U:=(h.fine _ (List.getElem_mem K)).1.since
   generalize R.waiting[f]=w at u U
   obtain⟨a6,a0,v⟩:=ZU (R:=Empty) (b:=fun B l=>Option.bind (Option.bind (idx steps (B:Int)) fun n=>Option.bind (if ((decide (m<(w64 (w.since+n.after))))&&((decide (l<0))||(decide ((w64 (w.since+n.after))<l))))=true then some (w64 (w.since+n.after)) else some l) fun z=>some z) fun D=>some (.nx D))
    steps.length (fun j i=>NextOK (fun a=>(EvB people cals R.assigner.away R.held cals.length a∨EvS steps R.waiting f a)∨∃(b:Nat) (c:zt),b<j∧steps[b]?=some c∧a=w.since+c.after) m i) (s:=i)
    (F.congr fun a=>⟨.inl,fun h=>h.elim id fun⟨b,_,q,_⟩=>absurd q (Nat.not_lt_zero b)⟩)
    (by
     intro j i L v
     have x:steps[j]?=some steps[j]:=List.getElem?_eq_getElem L
     have W:=(I.st.2 _ (List.getElem_mem L)).1
     generalize steps[j]=c at x W
     have H:∀a,((EvB people cals R.assigner.away R.held cals.length a∨EvS steps R.waiting f a)∨∃(b:Nat) (c:zt),b<j+1∧steps[b]?=some c∧a=w.since+c.after)↔((EvB people cals R.assigner.away R.held cals.length a∨EvS steps R.waiting f a)∨∃(b:Nat) (c:zt),b<j∧steps[b]?=some c∧a=w.since+c.after)∨a=w.since+c.after:=fun a=>by
      constructor
      ·rintro (k | ⟨b,e,o,d,g⟩)
       ·exact .inl (.inl k)
       ·rcases Nat.lt_or_eq_of_le (Nat.le_of_lt_succ o)with G|rfl
        ·exact .inl (.inr ⟨b,e,G,d,g⟩)
        ·rw[x]at d
         cases d
         exact .inr g
      ·rintro ((k | ⟨b,e,o,d,g⟩) | k)
       ·exact .inl k
       ·exact .inr ⟨b,e,by omega,d,g⟩
       ·exact .inr ⟨j,c,Nat.lt_succ_self j,x,k⟩
     simp only[Zg,x,Option.bind_some]
     rw[ZB (n:=w.since+c.after) (by omega) (by omega)]
     by_cases E:m<w.since+c.after
     ·have:=v.min J.1 (v:=w.since+c.after) (Ev2:=fun a=>a=w.since+c.after) ⟨E,rfl⟩ (fun a a1 a2 a7 a3=>by omega) H
      refine⟨_,?_,this⟩
      by_cases r:i<0∨w.since+c.after<i
      ·rw[if_pos r,if_pos (by simp only[Bool.and_eq_true,Bool.or_eq_true,decide_eq_true_eq];exact⟨E,r⟩)]
       rfl
      ·rw[if_neg r,if_neg (by simp only[Bool.and_eq_true,Bool.or_eq_true,decide_eq_true_eq];exact fun h=>r h.2)]
       rfl
     ·rw[decide_eq_false E]
      exact⟨i,rfl,v.skip (fun a a1 a2 a3=>by omega) H⟩)
   rw[Zg,u,Option.bind_some,a0,Option.bind_some,Lp.andThen_fin]
   refine⟨a6,rfl,v.congr fun a=>?_⟩
   constructor
   ·rintro ((k | ⟨b,e,y,o,d⟩) | ⟨b,e,o,d,g⟩)
    ·exact .inl k
    ·exact .inr ⟨b,e,y,by omega,d⟩
    ·exact .inr ⟨f,w,e,Nat.lt_succ_self f,u,List.mem_of_getElem? d,g⟩
   ·rintro (k | ⟨b,e,y,o,d,g,M⟩)
    ·exact .inl (.inl k)
    ·rcases Nat.lt_or_eq_of_le (Nat.le_of_lt_succ o)with G|rfl
     ·exact .inl (.inr ⟨b,e,y,G,d,g,M⟩)
     ·rw[u]at d
      cases d
      obtain⟨q,N⟩:=List.mem_iff_getElem?.1 g
      exact .inr ⟨q,y,(List.getElem?_eq_some_iff.1 N).1,N,M⟩)
 rw[a5];exact⟨p,rfl,.inr ⟨s,F⟩⟩}
end
end Go.Proofs.YtdpmeckhhcjoiaaGreatDoor.M
namespace Go.Proofs.YtdpmeckhhcjoiaaGreatDoor.M
open Go Go.Pu
set_option linter.unusedSimpArgs false
set_option linter.unusedVariables false
def Does(people:List ze)(cals:List zi)(steps:List zt)(m:Int)(do_:zl→Option (Int×zl))(Post:zl→zl→Prop):Prop :=
 ∀R,RInv people cals steps m R→∃e R',do_ R=some (e,R')∧((e≠0∧R'=R)∨(e=0∧RInv people cals steps m R'∧R'.now=R.now∧(∀h∈R.held,zu R'.work h.ticket=zu R.work h.ticket)∧Post R R'))
section
variable{people:List ze}{cals:List zi}{steps:List zt}{t m:Int}{R:zl}
structure Going(people:List ze)(cals:List zi)(steps:List zt)(R:zl)(m:Int)(out:List zb)(n:Int)(S:zl)(t:Int):Prop where
 at_:R.now≤t∧t≤m
 inv:RInv people cals steps t S
 next:n = -1∨t<n
 asg:S.assigner=R.assigner
 now:S.now=R.now
 work:S.work=R.work
 held:S.held=R.held++out
 given:∀x∈out,zrI people cals steps R.work x
end
end Go.Proofs.YtdpmeckhhcjoiaaGreatDoor.M
namespace Go.Proofs.YtdpmeckhhcjoiaaGreatDoor.M
open Go Go.Pu
set_option linter.unusedSimpArgs false
set_option linter.unusedVariables false
theorem zeb(x y:zb):QE (fun x y:zb=>some (zh x.ticket y.ticket)) x y=decide (x.ticket<y.ticket):=by{unfold QE;simp only[zgm,cmpI];split;rename_i h;simp[h];rename_i h;split <;> simp[h]}
theorem zqp(l:List zb)(hlen:l.length≤1000)(f:l.Pairwise fun k m=>k.ticket≠m.ticket):zie (fun a b=>some (zh a.ticket b.ticket)) l:=by{refine⟨by omega,fun a _ b _=>⟨_,rfl⟩,fun a _=>?_,fun a _ b _ n _=>?_,fun a _ b _ n _=>?_,fun a i b j=>?_⟩;rw[zeb];simp;simp only[zeb,decide_eq_true_eq];omega;simp only[zeb,decide_eq_false_iff_not];omega;simp only[zeb,decide_eq_false_iff_not];intro o p;obtain⟨d,g,rfl⟩:=List.mem_iff_getElem.1 i;obtain⟨e,h,rfl⟩:=List.mem_iff_getElem.1 j;rcases Nat.lt_trichotomy d e with c|c|c;have:=List.pairwise_iff_getElem.1 f d e g h c;omega;subst c;rfl;have:=List.pairwise_iff_getElem.1 f e d h g c;omega}
theorem zfl(l:List zb)(hlen:l.length≤1000)(f:l.Pairwise fun c d=>c.ticket≠d.ticket):∃e,zbf l=some e∧e.Perm l∧e.Pairwise fun c d=>c.ticket<d.ticket:=by{
 have j:jQ (fun a b:zb=>some (zh a.ticket b.ticket)) l=some (l.mergeSort fun a b=>!(QE (fun a b:zb=>some (zh a.ticket b.ticket)) b a)):=by
  unfold jQ
  rw[if_pos (zqp l hlen f)]
 refine⟨l.mergeSort fun a b=>!(QE (fun a b:zb=>some (zh a.ticket b.ticket)) b a),?_,List.mergeSort_perm _ _,?_⟩;unfold zbf;show Option.bind (jQ (fun a b:zb=>some (zh a.ticket b.ticket)) l) _=_;rw[j];rfl;have g:=List.mergeSort_perm l fun a b=>!(QE (fun a b:zb=>some (zh a.ticket b.ticket)) b a)
 have i:=List.pairwise_mergeSort (le:=fun a b=>!(QE (fun a b:zb=>some (zh a.ticket b.ticket)) b a)) (fun c d o k h=>by
  simp only[zeb,Bool.not_eq_true',decide_eq_false_iff_not]at *;omega) (fun c d=>by
  simp only[zeb,Bool.or_eq_true,Bool.not_eq_true',decide_eq_false_iff_not];omega) l
 generalize (l.mergeSort fun a b=>!(QE (fun a b:zb=>some (zh a.ticket b.ticket)) b a))=e at g i;have m:e.Pairwise fun c d=>c.ticket≠d.ticket:=(g.pairwise_iff (fun n=>Ne.symm n)).2 f;refine (m.and i).imp fun⟨k,h⟩=>?_;simp only[zeb,Bool.not_eq_true',decide_eq_false_iff_not]at h;omega}
theorem znJ(l:List za)(a:za→Bool):ZR l (fun b=>some (a b))=some (match l.findIdx? a with|some i=>(i:Int)|none => -1):=by{unfold ZR;rw[zch l a];cases l.findIdx? a <;> rfl}
theorem znO(l:List zb)(a:zb→Bool):qz l (fun b=>some (a b))=some (match l.findIdx? a with|some i=>(i:Int)|none => -1):=by{unfold qz;rw[zch l a];cases l.findIdx? a <;> rfl}
theorem zfK(R:zl)(n:Int):(Qy R n=some (-1)∧∀w∈R.waiting,w.ticket≠n)∨∃(i:Nat) (w:za),Qy R n=some (i:Int)∧R.waiting[i]?=some w∧w.ticket=n:=by{
 unfold Qy zaz;rw[znJ R.waiting fun w=>w.ticket==n];cases h:R.waiting.findIdx? (fun w=>w.ticket==n) with
 | none =>
  refine .inl ⟨rfl,fun w a=>?_⟩
  have:=List.findIdx?_eq_none_iff.1 h w a
  simpa using this
 | some i =>
  obtain⟨b,c,_⟩:=List.findIdx?_eq_some_iff_getElem.1 h
  exact .inr ⟨i,_,rfl,List.getElem?_eq_getElem b,by simpa using c⟩}
theorem zgZ(R:zl)(n:Int):(jt R n=some (-1)∧∀w∈R.held,w.ticket≠n)∨∃(i:Nat) (w:zb),jt R n=some (i:Int)∧R.held[i]?=some w∧w.ticket=n:=by{
 unfold jt zav;rw[znO R.held fun w=>w.ticket==n];cases h:R.held.findIdx? (fun w=>w.ticket==n) with
 | none =>
  refine .inl ⟨rfl,fun w a=>?_⟩
  have:=List.findIdx?_eq_none_iff.1 h w a
  simpa using this
 | some i =>
  obtain⟨b,c,_⟩:=List.findIdx?_eq_some_iff_getElem.1 h
  exact .inr ⟨i,_,rfl,List.getElem?_eq_getElem b,by simpa using c⟩}
theorem ziQ(a:zb)(l:List zb)(no:Int):wOf (a::l) no=(if a.person=no then a.weight else 0)+wOf l no:=by simp[wOf]
theorem zlS{l l':List zb}(e:l'.Sublist l)(c:∀b∈l,0≤b.weight)(no:Int):0≤wOf l' no∧wOf l' no≤wOf l no:=by{
 induction e with
 | slnil=>simp[wOf]
 | cons a e ih =>
  have:=ih fun b d=>c b (List.mem_cons_of_mem _ d)
  have:=c a List.mem_cons_self
  rw[ziQ]
  split <;> omega
 | cons_cons a e ih =>
  have:=ih fun b d=>c b (List.mem_cons_of_mem _ d)
  have:=c a List.mem_cons_self
  rw[ziQ,ziQ]
  split <;> omega}
theorem zrn{l:List zb}{no:Int}(c:∀b∈l,b.person≠no):wOf l no=0:=by{
 induction l with
 | nil=>rfl
 | cons a l ih =>
  rw[ziQ,if_neg (c a List.mem_cons_self),ih fun b d=>c b (List.mem_cons_of_mem _ d)]
  rfl}
section
variable{people:List ze}{cals:List zi}{steps:List zt}{t m:Int}{R:zl}
theorem RInv.sub(a:RInv people cals steps t R){held:List zb}{waiting:List za}(f:held.Sublist R.held)(g:waiting.Sublist R.waiting):RInv people cals steps t ⟨R.assigner,R.now,waiting,held,R.work⟩:=by{
 have b:=zlS f fun d c=>by have:=(a.held d c).1;omega
 refine⟨a.ppl,a.cls,a.stp,a.awl,Nat.le_trans g.length_le a.few,fun i b=>a.fine i (g.subset b),fun d c=>a.held d (f.subset c),?_,fun j e h=>?_,fun j e h k=>?_,fun i b=>a.workW i (g.subset b),fun d c=>a.workH d (f.subset c)⟩;exact ((f.map _).append (g.map _)).nodup a.tick;have:=a.cap j e h;have:=b e.no;dsimp only;omega;have:=a.off j e h k;have:=b e.no;dsimp only;omega}
def zsl(R S:zl):Prop:=S.assigner=R.assigner∧S.work=R.work
theorem zeK(i:Nat)(a:i<100000):w64 ((i:Int)+1)=((i+1:Nat):Int):=by rw[ZB (by omega) (by omega)];omega
theorem zoy(no:Int):Does people cals steps m (fun R=>qq R no) zsl:=fun R b=>by
 unfold qq
 dsimp only
 have i:=b.hlen
 have j:=b.few
 rcases zgZ R no with ⟨c,k⟩|⟨a,n,c,d,g⟩
 ·rw[c,Option.bind_some]
  rw[if_neg (by decide)]
  rcases zfK R no with ⟨e,l⟩|⟨a,o,e,d,g⟩
  ·rw[e,Option.bind_some,if_neg (by decide)]
   exact⟨7,R,rfl,.inl ⟨by decide,rfl⟩⟩
  ·have h:=(List.getElem?_eq_some_iff.1 d).1
   rw[e,Option.bind_some,if_pos (by simp)]
   have f:jb R.waiting (a:Int)=some (R.waiting.take a++R.waiting.drop (a+1)):=by
    unfold jb zW zC qr
    rw[if_pos (by simp;omega),Option.bind_some,List.nil_append,Option.bind_some,zeK a (by omega),if_pos (by omega)]
    rfl
   rw[f]
   refine⟨0,_,rfl,.inr ⟨rfl,b.sub (List.Sublist.refl _) ?_,rfl,fun _ _=>rfl,rfl,rfl⟩⟩
   rw[← List.eraseIdx_eq_take_drop_succ]
   exact List.eraseIdx_sublist _ _
 ·have h:=(List.getElem?_eq_some_iff.1 d).1
  rw[c,Option.bind_some,if_pos (by simp)]
  have f:ja R.held (a:Int)=some (R.held.take a++R.held.drop (a+1)):=by
   unfold ja Zl zC ZX
   rw[if_pos (by simp;omega),Option.bind_some,List.nil_append,Option.bind_some,zeK a (by omega),if_pos (by omega)]
   rfl
  rw[f]
  refine⟨0,_,rfl,.inr ⟨rfl,b.sub ?_ (List.Sublist.refl _),rfl,fun _ _=>rfl,rfl,rfl⟩⟩
  rw[← List.eraseIdx_eq_take_drop_succ]
  exact List.eraseIdx_sublist _ _
def zpJ(w:za)(R S:zl):Prop:=S.assigner=R.assigner∧S.work=QH R.work w.ticket w∧WkOK w
theorem zog(w:za)(v:∀F∈w.needs,F.name.size≤9223372036854775807):Does people cals steps m (fun R=>Option.bind (ZF w R m) fun a=>some (a.1,a.2.2)) (zpJ w):=fun R b=>by
 unfold ZF
 dsimp only
 have H:=b.hlen
 obtain⟨q,x,y⟩:=zqU w v
 rw[x,Option.bind_some]
 by_cases h:q=0
 rotate_left
 ·rw[if_pos (by simpa using h)]
  exact⟨q,R,rfl,.inl ⟨h,rfl⟩⟩
 rw[if_neg (by simpa using h)]
 have i:=y.1 h
 obtain⟨g,j,r⟩:∃g:Bool,(Option.bind (Qy R w.ticket) fun s=>if (decide ((0:Int)≤s))=true then (some true) else (Option.bind (jt R w.ticket) fun t=>some (decide ((0:Int)≤t))))=some g∧(g=false→(∀a∈R.waiting,a.ticket≠w.ticket)∧∀a∈R.held,a.ticket≠w.ticket):=by
  rcases zfK R w.ticket with ⟨l,k⟩|⟨G,J,l,c,z⟩
  ·rw[l,Option.bind_some,if_neg (by decide)]
   rcases zgZ R w.ticket with ⟨n,f⟩|⟨G,a,n,c,z⟩
   ·rw[n]
    exact⟨_,rfl,fun _=>⟨k,f⟩⟩
   ·rw[n]
    exact⟨_,rfl,fun b=>absurd (of_decide_eq_false b) (by omega)⟩
  ·rw[l,Option.bind_some,if_pos (by simp)]
   exact⟨_,rfl,fun b=>by cases b⟩
 rw[j,Option.bind_some]
 cases g with
 | true=>exact⟨6,R,rfl,.inl ⟨by decide,rfl⟩⟩
 | false =>
  obtain⟨k,f⟩:=r rfl
  rw[if_neg (by decide)]
  by_cases o:(200:Int)≤(R.waiting.length:Int)
  ·rw[if_pos (by simpa using o)]
   exact⟨4,R,rfl,.inl ⟨by decide,rfl⟩⟩
  rw[if_neg (by simpa using o)]
  by_cases p:m<w.since
  ·rw[if_pos (by simpa using p)]
   exact⟨2,R,rfl,.inl ⟨by decide,rfl⟩⟩
  rw[if_neg (by simpa using p)]
  have I:=i.needs.len
  have A:zJ w.needs=some w.needs:=by
   unfold zJ zC
   rw[if_pos (by simp;omega)]
   rfl
  have B:zW R.waiting=some R.waiting:=by
   unfold zW zC
   rw[if_pos (by simp;omega)]
   rfl
  have D:zC 2199023255552 R.waiting [w]=some (R.waiting++[w]):=by
   unfold zC
   rw[if_pos (by rw[List.length_singleton];omega)]
  have u:(⟨w.ticket,w.weight,w.urgency,w.since,w.former,w.needs⟩:za)=w:=rfl
  rw[A,Option.bind_some,B,Option.bind_some,u,D]
  refine⟨0,_,rfl,.inr ⟨rfl,⟨b.ppl,b.cls,b.stp,b.awl,by dsimp only;rw[List.length_append,List.length_singleton];omega,fun a c=>?_,b.held,?_,b.cap,b.off,fun a c=>?_,fun a c=>?_⟩,rfl,fun a c=>?_,rfl,rfl,i⟩⟩
  ·rcases List.mem_append.1 c with d|d
   ·exact b.fine a d
   ·rw[List.mem_singleton]at d
    subst d
    exact⟨i,by omega⟩
  ·dsimp only
   rw[List.map_append, ← List.append_assoc,List.nodup_append]
   refine⟨b.tick,by simp,fun K E g j e=>?_⟩
   simp only[List.map_cons,List.map_nil,List.mem_singleton]at j
   subst j
   rcases List.mem_append.1 E with d|d
   ·obtain⟨a,c,rfl⟩:=List.mem_map.1 d
    exact f a c e
   ·obtain⟨a,c,rfl⟩:=List.mem_map.1 d
    exact k a c e
  ·dsimp only
   rw[zbl]
   rcases List.mem_append.1 c with d|d
   ·rw[if_neg (fun e=>k a d e.symm)]
    exact b.workW a d
   ·rw[List.mem_singleton]at d
    subst d
    rw[if_pos rfl]
    exact⟨a,rfl,⟨rfl,rfl,rfl,rfl,rfl⟩,i⟩
  ·dsimp only
   rw[zbl,if_neg (fun e=>f a c e.symm)]
   exact b.workH a c
  ·dsimp only
   rw[zbl,if_neg (fun e=>f a c e.symm)]
theorem zls(h:RInv people cals steps m R)(no:Int)(b:Bool):(∃j:Int,j≠0∧QJ R no b=some (0,j))∨∃(i:Nat) (a:ze),QJ R no b=some ((i:Int),0)∧people[i]?=some a∧a.no=no∧R.assigner.away[i]?=some b:=by{unfold QJ;rw[h.ppl,zfg,Option.bind_some];by_cases e:pos people no<0;rw[if_pos (by simpa using e)];exact .inl ⟨7,by decide,rfl⟩;rw[if_neg (by simpa using e)];obtain⟨i,a,k,f,l⟩:=zlq (people:=people) (no:=no) (by omega);have n:=(List.getElem?_eq_some_iff.1 f).1;obtain⟨c,g⟩:∃c,R.assigner.away[i]?=some c:=⟨_,List.getElem?_eq_getElem (by rw[h.awl];exact n)⟩;rw[k,Zg,g,Option.bind_some];by_cases d:c=b;subst d;rw[if_neg (by simp)];exact .inr ⟨i,a,rfl,f,l,g⟩;rw[if_pos (by simpa using d)];exact .inl ⟨11,by decide,rfl⟩}
def znp(people:List ze)(no:Int)(b:Bool)(R S:zl):Prop:=S.work=R.work∧∃(k:Nat) (p:ze),people[k]?=some p∧p.no=no∧S.assigner=⟨R.assigner.people,R.assigner.cals,R.assigner.steps,R.assigner.away.set k b⟩
theorem zoI(no:Int):Does people cals steps m (fun R=>qK R no) (znp people no false):=fun R a=>by
 unfold qK
 dsimp only
 rcases zls a no true with ⟨n,e,c⟩|⟨h,o,c,j,k,f⟩
 ·rw[c,Option.bind_some,if_neg (by simpa using e)]
  exact⟨n,R,rfl,.inl ⟨e,rfl⟩⟩
 ·have g:=(List.getElem?_eq_some_iff.1 f).1
  rw[c,Option.bind_some,if_pos (by rfl)]
  dsimp only
  rw[Zg,f,Option.bind_some,Jf _ _ _ g]
  refine⟨0,_,rfl,.inr ⟨rfl,⟨a.ppl,a.cls,a.stp,by dsimp only;rw[List.length_set];exact a.awl,a.few,a.fine,a.held,a.tick,a.cap,fun i p l b=>?_,a.workW,a.workH⟩,rfl,fun _ _=>rfl,rfl,h,o,j,k,rfl⟩⟩
  dsimp only at b
  rw[List.getElem?_set]at b
  by_cases d:h=i
  ·rw[if_pos d,if_pos g]at b
   cases b
  ·rw[if_neg d]at b
   exact a.off i p l b
theorem zjw(no:Int)(l:List zb)(y:l.length≤400):
  zS (R:=Int×zl) (fun n a=>Option.bind (Option.bind (idx l (n:Int)) fun d=>Option.bind (if (d.person==no)=true then Option.bind (zC 4398046511104 a.1 ([d]:List zb)) fun o=>some (o,a.2) else Option.bind (zC 4398046511104 a.2 ([d]:List zb)) fun m=>some (a.1,m)) fun g=>some (g.1,g.2)) fun h=>some (.nx (h.1,h.2))) l.length 0 (([]:(List zb)),([]:(List zb)))=some (.fin (l.filter (fun f=>f.person==no),l.filter (fun f=>!(f.person==no)))):=by{
 obtain⟨c,u,i,j,p⟩:=ZU (R:=Int×zl) (b:=fun n a=>Option.bind (Option.bind (idx l (n:Int)) fun d=>Option.bind (if (d.person==no)=true then Option.bind (zC 4398046511104 a.1 ([d]:List zb)) fun o=>some (o,a.2) else Option.bind (zC 4398046511104 a.2 ([d]:List zb)) fun m=>some (a.1,m)) fun g=>some (g.1,g.2)) fun h=>some (.nx (h.1,h.2)))
  l.length (fun b c=>c.1=(l.take b).filter (fun f=>f.person==no)∧c.2=(l.take b).filter (fun f=>!(f.person==no))∧c.1.length≤b∧c.2.length≤b) (s:=(([]:(List zb)),([]:(List zb)))) ⟨rfl,rfl,by simp,by simp⟩
  (by
   rintro b⟨v,w⟩t⟨i,j,p,r⟩
   dsimp only at i j p r
   have q:l[b]?=some l[b]:=List.getElem?_eq_getElem t
   generalize l[b]=x at q
   have s:∀k:List zb,k.length≤b→zC 4398046511104 k [x]=some (k++[x]):=fun k e=>by
    unfold zC
    rw[if_pos (by rw[List.length_singleton];omega)]
   rw[zdl q,List.filter_append,List.filter_append, ← i, ← j]
   simp only[Zg,q,Option.bind_some]
   by_cases e:(x.person==no)=true
   ·rw[if_pos e,s v p]
    refine⟨_,rfl,?_,?_,?_,?_⟩
    ·simp[e]
    ·simp[e]
    ·simp;omega
    ·dsimp only;omega
   ·rw[if_neg e,s w r]
    refine⟨_,rfl,?_,?_,?_,?_⟩
    ·simp[e]
    ·simp[e]
    ·dsimp only;omega
    ·simp;omega)
 rw[u];rw[List.take_length]at i j;have:c=(c.1,c.2):=rfl;rw[this,i,j]}
def zgW(work:List (Int×za))(no:Int)(h:zb):za :=
 (⟨((zu work h.ticket).getD (⟨0,0,0,0,0, []⟩)).ticket,h.weight,((zu work h.ticket).getD (⟨0,0,0,0,0, []⟩)).urgency,((zu work h.ticket).getD (⟨0,0,0,0,0, []⟩)).since,no,((zu work h.ticket).getD (⟨0,0,0,0,0, []⟩)).needs⟩:za)
theorem znf(b:List (Int×za))(no:Int)(l:List zb)(l0:List za)(m:l0.length+l.length≤1000):
  zS (R:=Int×zl) (fun d e=>Option.bind (idx l (d:Int)) fun a=>Option.bind (zC 2199023255552 e ([(⟨((zu b a.ticket).getD (⟨0,0,0,0,0, []⟩)).ticket,a.weight,((zu b a.ticket).getD (⟨0,0,0,0,0, []⟩)).urgency,((zu b a.ticket).getD (⟨0,0,0,0,0, []⟩)).since,no,((zu b a.ticket).getD (⟨0,0,0,0,0, []⟩)).needs⟩:za)]:List za)) fun f=>some (.nx f)) l.length 0 l0=some (.fin (l0++l.map (zgW b no))):=by{
 obtain⟨h,k,i⟩:=ZU (R:=Int×zl) (b:=fun d e=>Option.bind (idx l (d:Int)) fun a=>Option.bind (zC 2199023255552 e ([(⟨((zu b a.ticket).getD (⟨0,0,0,0,0, []⟩)).ticket,a.weight,((zu b a.ticket).getD (⟨0,0,0,0,0, []⟩)).urgency,((zu b a.ticket).getD (⟨0,0,0,0,0, []⟩)).since,no,((zu b a.ticket).getD (⟨0,0,0,0,0, []⟩)).needs⟩:za)]:List za)) fun f=>some (.nx f))
  l.length (fun c h=>h=l0++(l.take c).map (zgW b no)) (s:=l0) (by simp)
  (by
   rintro c h j rfl
   have g:l[c]?=some l[c]:=List.getElem?_eq_getElem j
   generalize l[c]=x at g
   rw[zdl g,List.map_append, ← List.append_assoc,Zg,g,Option.bind_some]
   unfold zC
   rw[if_pos (by rw[List.length_append,List.length_map,List.length_take,List.length_singleton];omega)]
   exact⟨_,rfl,rfl⟩)
 rw[k,i,List.take_length]}
theorem zpx(I:zay people)(no:Int):Does people cals steps m (fun R=>qF R no) (znp people no true):=fun R a=>by
 unfold qF
 dsimp only
 have z:=a.hlen
 have T:=a.few
 rcases zls a no false with ⟨O,A,u⟩|⟨v,F,u,r,B,D⟩
 ·rw[u,Option.bind_some,if_pos (by simpa using A)]
  exact⟨O,R,rfl,.inl ⟨A,rfl⟩⟩
 rw[u,Option.bind_some,if_neg (by simp),zjw no R.held z,Option.bind_some,Lp.andThen_fin]
 dsimp only
 have P:(R.held.filter (fun a=>a.person==no)).length≤400:=Nat.le_trans (List.length_filter_le _ _) z
 have G:(R.held.filter (fun a=>a.person==no)++R.held.filter (fun a=>!(a.person==no))).Perm R.held:=List.filter_append_perm _ _
 have q:(R.held.filter (fun a=>!(a.person==no))).Sublist R.held:=List.filter_sublist
 have x:(R.held.filter (fun a=>a.person==no)).Sublist R.held:=List.filter_sublist
 have H:∀b∈R.held.filter (fun a=>!(a.person==no)),b.person≠no:=fun b c=>by
  have:=(List.mem_filter.1 c).2
  simpa using this
 generalize R.held.filter (fun a=>!(a.person==no))=stay at *
 generalize R.held.filter (fun a=>a.person==no)=back at *
 rw[ZB (n:=(R.waiting.length:Int)+(back.length:Int)) (by omega) (by omega)]
 by_cases E:(200:Int)<(R.waiting.length:Int)+(back.length:Int)
 ·rw[if_pos (by simpa using E)]
  exact⟨4,R,rfl,.inl ⟨by decide,rfl⟩⟩
 rw[if_neg (by simpa using E)]
 obtain⟨sb,J,s,U⟩:=zfl back (by omega) (a.heldA.sublist x)
 have Q:=s.length_eq
 have K:zW R.waiting=some R.waiting:=by
  unfold zW zC
  rw[if_pos (by simp;omega)]
  rfl
 have L:=(List.getElem?_eq_some_iff.1 D).1
 rw[J,Option.bind_some,K,Option.bind_some,znf R.work no sb R.waiting (by omega),Option.bind_some,Lp.andThen_fin,Zg,D,Option.bind_some,Jf _ _ _ L]
 have t:∀b∈sb,∃d,zu R.work b.ticket=some d∧d.ticket=b.ticket∧WkOK d∧d.since≤m∧(zgW R.work no b)=⟨d.ticket,d.weight,d.urgency,d.since,no,d.needs⟩:=fun b c=>by
  obtain⟨d,h,i,e,k,f⟩:=a.workH b (x.subset (s.mem_iff.1 c))
  refine⟨d,h,i,k,f,?_⟩
  unfold zgW
  rw[h, ← e]
  rfl
 have S:=(I.2 v F r).1
 have j:=zlS q fun b c=>by have:=(a.held b c).1;omega
 refine⟨0,_,rfl,.inr ⟨rfl,⟨a.ppl,a.cls,a.stp,by dsimp only;rw[List.length_set];exact a.awl,?_,fun w j=>?_,fun b c=>a.held b (q.subset c),?_,fun p n l=>?_,fun p n l o=>?_,fun w j=>?_,fun b c=>a.workH b (q.subset c)⟩,rfl,fun _ _=>rfl,rfl,v,F,r,B,rfl⟩⟩
 ·dsimp only
  rw[List.length_append,List.length_map]
  omega
 ·rcases List.mem_append.1 j with g|g
  ·exact a.fine w g
  ·obtain⟨b,c,rfl⟩:=List.mem_map.1 g
   obtain⟨d,h,i,e,k,f⟩:=t b c
   rw[f]
   exact⟨⟨e.tick,e.wei,e.urg,e.since,(show 0≤no∧no≤40 by omega),e.needs⟩,k⟩
 ·dsimp only
  have M:(sb.map (zgW R.work no)).map (·.ticket)=sb.map (·.ticket):=by
   rw[List.map_map]
   refine List.map_congr_left fun b c=>?_
   obtain⟨d,h,i,e,k,f⟩:=t b c
   show (zgW R.work no b).ticket=b.ticket
   rw[f]
   exact i
  rw[List.map_append,M]
  have N:(stay.map (·.ticket)++(R.waiting.map (·.ticket)++sb.map (·.ticket))).Perm (R.held.map (·.ticket)++R.waiting.map (·.ticket)):=by
   rw[← List.append_assoc]
   refine List.perm_append_comm.trans ?_
   rw[← List.append_assoc]
   refine List.Perm.append_right _ ?_
   rw[← List.map_append]
   exact ((s.append_right stay).trans G).map _
  exact N.nodup_iff.2 a.tick
 ·have:=a.cap p n l
  have:=j n.no
  dsimp only
  omega
 ·dsimp only at o ⊢
  rw[List.getElem?_set]at o
  by_cases y:v=p
  ·subst y
   rw[r]at l
   cases l
   exact zrn fun b c=>by rw[B];exact H b c
  ·rw[if_neg y]at o
   have:=a.off p n l o
   have:=j n.no
   omega
 ·rcases List.mem_append.1 j with g|g
  ·exact a.workW w g
  ·obtain⟨b,c,rfl⟩:=List.mem_map.1 g
   obtain⟨d,h,i,e,k,f⟩:=t b c
   rw[f]
   exact⟨d,by dsimp only;rw[i];exact h,⟨rfl,rfl,rfl,rfl,rfl⟩,e⟩
end
end Go.Proofs.YtdpmeckhhcjoiaaGreatDoor.M
namespace Go.Proofs.YtdpmeckhhcjoiaaGreatDoor.M
open Go Go.Pu
set_option linter.unusedSimpArgs false
set_option linter.unusedVariables false
theorem zkw{α:Type}{l:List α}{k:Nat}{x:α}(b:l[k]?=some x):l.set k x=l:=by{obtain⟨a,rfl⟩:=List.getElem?_eq_some_iff.1 b;exact List.set_getElem_self a}
theorem zcL{α:Type}(lim:Nat)(l:List α)(a:l.length≤lim):zC lim ([]:List α) l=some l:=by{unfold zC;rw[if_pos (by simpa using a),List.nil_append]}
theorem zrx(people:List ze)(cals:List zi)(steps:List zt)(S:∀p∈people,∀a∈p.skills,a.name.size≤9223372036854775807):
  (∃q,JT people cals steps=some (none,q)∧q≠0∧(jN people cals=some q∨(jN people cals=some 0∧jT steps=some q)))∨(JT people cals steps=some (some ⟨⟨people,cals,steps,List.replicate people.length false⟩,0, [], [], []⟩,0)∧RtOK people cals steps∧jN people cals=some 0∧jT steps=some 0∧jG people=some 0):=by{
 unfold JT;obtain⟨F,T,U⟩:=zsi people cals S;rw[T,Option.bind_some];by_cases h:F=0;rotate_left;rw[if_pos (by simpa using h)];exact .inl ⟨F,rfl,h,.inl rfl⟩;subst h;rw[if_neg (by simp)];obtain⟨A,W,B⟩:=zqO steps;rw[W,Option.bind_some];by_cases h:A=0;rotate_left;rw[if_pos (by simpa using h)];exact .inl ⟨A,rfl,h,.inr ⟨rfl,rfl⟩⟩;subst h;rw[if_neg (by simp)];obtain⟨n,O,w⟩:=U rfl;have b0:=n.ppl.1;refine .inr ⟨?_,⟨n,B rfl,w⟩,rfl,rfl,O⟩
 have X:Qb people=some people:=by
  unfold Qb
  rw[zcL _ _ (by omega)]
  rfl
 rw[X,Option.bind_some]
 obtain⟨b3,Z,a0⟩:=ZU (R:=Option zl×Int) (b:=fun y e=>Option.bind (idx e.assigner.people (y:Int)) fun z=>Option.bind (zJ z.skills) fun G=>Option.bind (setI e.assigner.people (y:Int) ({ (z:ze)with skills:=G })) fun H=>some (.nx (⟨(⟨H,e.assigner.cals,e.assigner.steps,e.assigner.away⟩:qZ),e.now,e.waiting,e.held,e.work⟩:zl)))
  people.length (fun _ b=>b=(⟨(⟨people,([]:(List zi)),([]:(List zt)),([]:(List Bool))⟩:qZ),0,([]:(List za)),([]:(List zb)),([]:List (Int×za))⟩:zl)) rfl
  (by
   rintro a b k rfl
   have g:people[a]?=some people[a]:=List.getElem?_eq_getElem k
   have P:=(w _ (List.getElem_mem k)).len
   generalize people[a]=p at g P
   have u:zJ p.skills=some p.skills:=by
    unfold zJ
    rw[zcL _ _ (by omega)]
    rfl
   dsimp only
   rw[Zg,g,Option.bind_some,u,Option.bind_some,Jf _ _ _ k,Option.bind_some,zkw g]
   exact⟨_,rfl,rfl⟩)
 rw[Z,Option.bind_some,Lp.andThen_fin,a0];have b1:=n.most
 obtain⟨b4,a1,a2⟩:=ZU (R:=Option zl×Int) (b:=fun I f=>Option.bind (idx cals (I:Int)) fun m=>Option.bind (qP m.zone.changes) fun J=>Option.bind (Zp m.week) fun K=>Option.bind (qI m.specials) fun v=>Option.bind (zS (fun i d=>Option.bind (idx d.specials (i:Int)) fun j=>Option.bind (Zp j.shifts) fun s=>Option.bind (setI d.specials (i:Int) ({ (j:Zb)with shifts:=s })) fun t=>some (.nx (⟨d.zone,d.week,t⟩:zi))) v.length 0 (⟨(⟨m.zone.offset,J⟩:Zy),K,v⟩:zi)) fun L=>L.andThen (fun a9=>some (.rt a9)) fun M=>Option.bind (zC 1759218604441 f.assigner.cals ([M]:List zi)) fun N=>some (.nx (⟨(⟨f.assigner.people,N,f.assigner.steps,f.assigner.away⟩:qZ),f.now,f.waiting,f.held,f.work⟩:zl)))
  cals.length (fun a b=>b=(⟨(⟨people,cals.take a,([]:(List zt)),([]:(List Bool))⟩:qZ),0,([]:(List za)),([]:(List zb)),([]:List (Int×za))⟩:zl)) (s:=(⟨(⟨people,([]:(List zi)),([]:(List zt)),([]:(List Bool))⟩:qZ),0,([]:(List za)),([]:(List zb)),([]:List (Int×za))⟩:zl)) rfl
  (by
   rintro a b k rfl
   have g:cals[a]?=some cals[a]:=List.getElem?_eq_getElem k
   have l:=(n.each a _ g).1
   generalize cals[a]=c at g l
   have l1:=l.changes
   have l2:=l.weeks
   have l3:=l.specials
   have u:qP c.zone.changes=some c.zone.changes:=by
    unfold qP
    rw[zcL _ _ (by omega)]
    rfl
   have a3:Zp c.week=some c.week:=by
    unfold Zp
    rw[zcL _ _ (by omega)]
    rfl
   have a4:qI c.specials=some c.specials:=by
    unfold qI
    rw[zcL _ _ (by omega)]
    rfl
   rw[Zg,g,Option.bind_some,u,Option.bind_some,a3,Option.bind_some,a4,Option.bind_some]
   obtain⟨b5,D,a5⟩:=ZU (R:=Option zl×Int) (b:=fun i d=>Option.bind (idx d.specials (i:Int)) fun j=>Option.bind (Zp j.shifts) fun s=>Option.bind (setI d.specials (i:Int) ({ (j:Zb)with shifts:=s })) fun t=>some (.nx (⟨d.zone,d.week,t⟩:zi)))
    c.specials.length (fun _ b=>b=c) (s:=(⟨(⟨c.zone.offset,c.zone.changes⟩:Zy),c.week,c.specials⟩:zi)) rfl
    (by
     rintro r b E rfl
     have o:b.specials[r]?=some b.specials[r]:=List.getElem?_eq_getElem E
     have Q:=(l.special r _ o).2.2.1
     generalize b.specials[r]=x at o Q
     have a6:Zp x.shifts=some x.shifts:=by
      unfold Zp
      rw[zcL _ _ (by omega)]
      rfl
     rw[Zg,o,Option.bind_some,a6,Option.bind_some,Jf _ _ _ E,Option.bind_some,zkw o]
     exact⟨_,rfl,rfl⟩)
   rw[a5]at D
   rw[D,Option.bind_some,Lp.andThen_fin]
   have R:zC 1759218604441 (cals.take a) [c]=some (cals.take a++[c]):=by
    unfold zC
    rw[if_pos (by rw[List.length_singleton,List.length_take];omega)]
   dsimp only
   rw[R,Option.bind_some]
   exact⟨_,rfl,by rw[zdl g]⟩)
 rw[a1,Option.bind_some,Lp.andThen_fin,a2,List.take_length];have b2:=(B rfl).1
 have a7:QD steps=some steps:=by
  unfold QD
  rw[zcL _ _ (by omega)]
  rfl
 have a8:JS 281474976710656 (people.length:Int) (false:Bool)=some (List.replicate people.length false):=by rw[JS,if_pos (by omega),Int.toNat_natCast]
 rw[a7,Option.bind_some,a8];rfl}
theorem zrR{people:List ze}{cals:List zi}{steps:List zt}(f:RtOK people cals steps):RInv people cals steps 0 ⟨⟨people,cals,steps,List.replicate people.length false⟩,0, [], [], []⟩ :=
 ⟨rfl,rfl,rfl,by simp,by simp,(fun b a=>by cases a),(fun b a=>by cases a),by simp,fun d e c=>by have:=(f.duty.ppl.2 d e c).2.1;simpa [wOf]using this.1,fun d e c g=>rfl,(fun b a=>by cases a),(fun b a=>by cases a)⟩
end Go.Proofs.YtdpmeckhhcjoiaaGreatDoor.M
