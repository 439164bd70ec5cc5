import Derived.Test.YtdpmeckhhcjoiaaGreatDoorRouteRunsRnD
import Derived.Test.YtdpmeckhhcjoiaaGreatDoorRouteRunsRnB
namespace Go.Proofs.YtdpmeckhhcjoiaaGreatDoor.M
open Go Go.Pu
set_option linter.unusedSimpArgs false
set_option linter.unusedVariables false
theorem zpL(w:za)(steps:List zt)(m:Int)(G:w.needs.length≤12):∃p,Jx w steps m=some p∧zae w steps m=some p:=by{
 unfold Jx zae zJ
 obtain⟨c,D,f⟩:=ZU (R:=List zm) (b:=fun k u=>Option.bind (Option.bind (idx steps (k:Int)) fun v=>Option.bind (if (decide (v.after≤(w64 (m-w.since))))=true then some (k:Int) else some u) fun z=>some z) fun A=>some (.nx A))
  steps.length (fun a c=>c = -1∨∃b:Nat,b<a∧c=(b:Int)) (s := -1) (.inl rfl)
  (by
   rintro a c i f
   have d:steps[a]?=some steps[a]:=List.getElem?_eq_getElem i
   generalize steps[a]=x at d
   simp only[Zg,d,Option.bind_some]
   by_cases e:x.after≤w64 (m-w.since)
   ·simp only[decide_eq_true e,if_true,Option.bind_some]
    exact⟨_,rfl,.inr ⟨a,Nat.lt_succ_self _,rfl⟩⟩
   ·simp only[decide_eq_false e,Bool.false_eq_true,if_false,Option.bind_some]
    refine⟨_,rfl,f.imp id ?_⟩
    rintro⟨b,H,E⟩
    exact⟨b,by omega,E⟩)
 rw[D];simp only[Option.bind_some,Lp.andThen_fin];rcases f with rfl|⟨b,F,rfl⟩
 have h:zC 5864062014805 ([]:List zm) w.needs=some w.needs:=by
  unfold zC
  rw[if_pos (by simp;omega)]
  rfl
 have j:decide ((-1:Int)<0)=true:=by decide
 simp only[j,if_true,if_pos (show (-1:Int)<0 by decide),Option.bind_some,h];exact⟨_,rfl,rfl⟩;have d:steps[b]?=some steps[b]:=List.getElem?_eq_getElem F;generalize steps[b]=x77 at d;have j:decide ((b:Int)<0)=false:=decide_eq_false (by omega);simp only[j,Bool.false_eq_true,if_false,if_neg (show ¬(b:Int)<0 by omega),Zg,d,Option.map_some,Option.bind_some];by_cases n:x77.any=true;simp only[n,if_true];exact⟨_,rfl,rfl⟩;simp only[n,if_false,Bool.false_eq_true]
 obtain⟨t,o,_⟩:=ZU (R:=List zm) (b:=fun B l=>Option.bind (Option.bind (idx w.needs (B:Int)) fun g=>Option.bind (if (decide ((1:Int)≤(w64 (g.rank-x77.lower))))=true then Option.bind (zC 5864062014805 l ([(⟨g.name,w64 (g.rank-x77.lower)⟩:zm)]:List zm)) fun q=>some q else some l) fun r=>some r) fun s=>some (.nx s))
  w.needs.length (fun a c=>c.length≤a) (s:=([]:List zm)) (by simp)
  (by
   rintro a c i f
   have d:w.needs[a]?=some w.needs[a]:=List.getElem?_eq_getElem i
   generalize w.needs[a]=y at d
   simp only[Zg,d,Option.bind_some]
   by_cases e:1≤w64 (y.rank-x77.lower)
   ·have h:zC 5864062014805 c [(⟨y.name,w64 (y.rank-x77.lower)⟩:zm)]=some (c++[⟨y.name,w64 (y.rank-x77.lower)⟩]):=by
     unfold zC
     rw[if_pos (by simp;omega)]
    simp only[decide_eq_true e,if_true,h,Option.bind_some]
    exact⟨_,rfl,by simp;omega⟩
   ·simp only[decide_eq_false e,Bool.false_eq_true,if_false,Option.bind_some]
    exact⟨_,rfl,by omega⟩)
 simp only[Zg]at o;rw[o];exact⟨t,rfl,rfl⟩}
theorem zjz{people:List ze}{held:List zb}(i:AllOK people held)(no:Int):jh held no=some (wOf held no,lOf held no):=by{
 unfold jh
 obtain⟨t,l,m⟩:=ZU (R:=Int×Int) (b:=(fun k c=>Option.bind (Option.bind (idx held (k:Int)) fun d=>Option.bind (if (d.person==no)=true then some (w64 (c.1+d.weight),(if c.2<d.since then d.since else c.2)) else some (c.1,c.2)) fun g=>some (g.1,g.2)) fun h=>some (.nx (h.1,h.2))))
  held.length (fun a o=>o=(wOf (held.take a) no,lOf (held.take a) no)) (s:=(0, -1)) (by simp[wOf,lOf])
  (by
   rintro a _ j rfl
   have e:held[a]?=some held[a]:=List.getElem?_eq_getElem j
   have n:=(i.2 _ (List.getElem_mem j)).1
   generalize held[a]=x at e n
   have p:=i.bndT no a
   simp only[Zg,e,Option.bind_some]
   rw[zdl e,ziB,zky]
   by_cases b:x.person=no
   ·have f:(x.person==no)=true:=by simpa using b
    rw[if_pos f,if_pos b,if_pos b,ZB (by omega) (by omega)]
    exact⟨_,rfl,rfl⟩
   ·have f:(x.person==no)=false:=by simpa using b
    rw[f,if_neg b,if_neg b,Int.add_zero]
    exact⟨_,rfl,rfl⟩)
 rw[l,m,List.take_length];rfl}
theorem zol{S e R R':Type}{b:Nat→S→Option (Ctl S R)}{b':Nat→e→Option (Ctl e R')}(n:Nat)(d:Nat→S→e→Prop){s:S}{s':e}(j:d 0 s s')(g:∀a s s',a<n→d a s s'→∃t c,b a s=some (.nx t)∧b' a s'=some (.nx c)∧d (a+1) t c):
  ∃t c,zS b n 0 s=some (.fin t)∧zS b' n 0 s'=some (.fin c)∧d n t c:=by{
 have h:∀m a s s',a+m=n→d a s s'→∃t c,zS b m a s=some (.fin t)∧zS b' m a s'=some (.fin c)∧d n t c:=by
  intro m
  induction m with
  | zero =>
   intro a s s' k f
   obtain rfl:a=n:=by omega
   exact⟨s,s',rfl,rfl,f⟩
  | succ m ih =>
   intro a s s' k f
   obtain⟨t,c,l,o,i⟩:=g a s s' (by omega) f
   rw[zS,zS,l,o]
   exact ih (a+1) t c (by omega) i
 exact h n 0 s s' (by omega) j}
theorem znN{l l':List zb}(a:l.Perm l')(no:Int):wOf l no=wOf l' no:=by{
 unfold wOf;induction a with
 | nil=>rfl
 | cons x _ ih=>simp only[List.map_cons,List.sum_cons,ih]
 | swap x y l=>simp only[List.map_cons,List.sum_cons];omega
 | trans _ _ h1 h2=>exact h1.trans h2}
theorem zrp{l l':List zb}(a:l.Perm l')(no:Int):lOf l no=lOf l' no:=by{unfold lOf;refine a.foldl_eq' (fun b _ c _ d=>?_) _;split <;> split <;> (try rfl) <;> (try split) <;> (try split) <;> (try split) <;> (try split) <;> omega}
theorem zpu{people:List ze}{dt:Nat→Bool}{l l':List zb}(a:l.Perm l')(w:za)(needs:List zm):qG people dt l w needs=qG people dt l' w needs:=by{funext k;unfold qG;simp only[znN a]}
theorem zry{people:List ze}{l l':List zb}(c:l.Perm l'):ltF people l=ltF people l':=by{funext a b;unfold ltF;simp only[znN c,zrp c]}
theorem AllOK.perm{people:List ze}{l l':List zb}(b:AllOK people l)(a:l.Perm l'):AllOK people l':=⟨by rw[← a.length_eq];exact b.1,fun d c=>b.2 d (a.mem_iff.2 c)⟩
section
variable{people:List ze}{cals:List zi}{aw:List (Int×Bool)}{dt:Nat→Bool}{m:Int}
theorem zpH{all:List zb}(B:AllOK people all)(I:∀(k:Nat) (a:ze),people[k]?=some a→jx ⟨people,cals,aw⟩ a m=some (dt k))(w:za)(needs:List zm):
  zS (R:=Empty) (fun g c=>Option.bind (Option.bind (idx people (g:Int)) fun d=>Option.bind (jh all d.no) fun n=>Option.bind (Option.bind (zbF d needs) fun o=>if (!o)=true then (some true) else (Option.bind (jx (⟨people,cals,aw⟩:zR) d m) fun p=>if (!p)=true then (some true) else (some (decide ((w64 (d.capacity-n.1))<w.weight))))) fun q=>if q=true then some c else Option.bind ((if c<0 then some true else (idx people c).map fun _=>false)) fun r=>Option.bind (if r=true then (some true) else (Option.bind (idx people c) fun s=>Option.bind (Jg  d s w all) fun u=>some u)) fun v=>Option.bind (if v=true then some (g:Int) else some c) fun x=>some x) fun y=>some (.nx y)) people.length 0 (-1)=some (.fin (JG (qG people dt all w needs) (fmF people w) (ltF people all) people.length)):=by{
 obtain⟨t,Q,R⟩:=ZU (R:=Empty) (b:=(fun g c=>Option.bind (Option.bind (idx people (g:Int)) fun d=>Option.bind (jh all d.no) fun n=>Option.bind (Option.bind (zbF d needs) fun o=>if (!o)=true then (some true) else (Option.bind (jx (⟨people,cals,aw⟩:zR) d m) fun p=>if (!p)=true then (some true) else (some (decide ((w64 (d.capacity-n.1))<w.weight))))) fun q=>if q=true then some c else Option.bind ((if c<0 then some true else (idx people c).map fun _=>false)) fun r=>Option.bind (if r=true then (some true) else (Option.bind (idx people c) fun s=>Option.bind (Jg  d s w all) fun u=>some u)) fun v=>Option.bind (if v=true then some (g:Int) else some c) fun x=>some x) fun y=>some (.nx y)))
  people.length (fun k G=>G=JG (qG people dt all w needs) (fmF people w) (ltF people all) k) (s := -1) rfl
  (by
   rintro k G J rfl
   have f:people[k]?=some people[k]:=List.getElem?_eq_getElem J
   generalize people[k]=a at f
   have D:zbF a needs=some (ablB a needs):=zns a needs
   have E:=I k a f
   generalize K:dt k=b2 at E
   generalize L:ablB a needs=b1 at D
   have S:qG people dt all w needs k=(b1&&(b2&&!(decide (w64 (a.capacity-wOf all a.no)<w.weight)))):=by
    unfold qG
    simp only[f,L,K]
   have T:fmF people w k=(a.no==w.former):=by unfold fmF;simp only[f]
   have A:(if (!b1)=true then (some true) else (Option.bind (some b2) fun H=>if (!H)=true then (some true) else (some (decide ((w64 (a.capacity-wOf all a.no))<w.weight)))))=some (!(qG people dt all w needs k)):=by
    rw[S]
    cases b1 <;> cases b2 <;> cases decide (w64 (a.capacity-wOf all a.no)<w.weight) <;> rfl
   simp only[Zg people k,f,Option.bind_some,zjz B,D,E,if_true]
   simp only[if_true,Option.bind_some]at A
   have M:JG (qG people dt all w needs) (fmF people w) (ltF people all) (k+1)=zee (qG people dt all w needs) (fmF people w) (ltF people all) (JG (qG people dt all w needs) (fmF people w) (ltF people all) k) k:=rfl
   rw[A,M,Option.bind_some]
   have N:=zlK (people:=people) (dt:=dt) (all:=all) (w:=w) (needs:=needs) k
   generalize JG (qG people dt all w needs) (fmF people w) (ltF people all) k=b at *
   unfold zee
   by_cases z:qG people dt all w needs k=true
   ·rw[z]
    simp only[Bool.not_true,Bool.false_eq_true,if_false,if_true]
    rcases N with rfl|⟨l,W,⟨e,h⟩,rfl⟩
    ·exact⟨_,rfl,rfl⟩
    ·have U:=(List.getElem?_eq_some_iff.1 h).1
     rw[if_neg (show ¬(l:Int)<0 by omega),if_neg (show ¬(l:Int)<0 by omega)]
     simp only[Zg,h,Option.map_some,Option.bind_some,Bool.false_eq_true,if_false,Int.toNat_natCast]
     unfold Jg
     have O:fmF people w l=(e.no==w.former):=by unfold fmF;simp only[h]
     rw[O,T]
     by_cases i:(e.no==w.former)=true
     ·rw[if_pos i,if_pos i]
      exact⟨_,rfl,rfl⟩
     ·rw[if_neg i,if_neg i]
      by_cases j:(a.no==w.former)=true
      ·rw[if_pos j,if_pos j]
       exact⟨_,rfl,rfl⟩
      ·rw[if_neg j,if_neg j]
       have P:ltF people all k l=decide (zbX [cmpI (w64 (wOf all a.no*e.capacity)) (w64 (wOf all e.no*a.capacity)),cmpI (lOf all a.no) (lOf all e.no)]<0):=by
        unfold ltF
        simp only[f,h]
       simp only[zjz B,Option.bind_some,znY,zgm,P]
       by_cases F:zbX [cmpI (w64 (wOf all a.no*e.capacity)) (w64 (wOf all e.no*a.capacity)),cmpI (lOf all a.no) (lOf all e.no)]<0
       ·rw[decide_eq_true F]
        exact⟨_,rfl,rfl⟩
       ·rw[decide_eq_false F]
        exact⟨_,rfl,rfl⟩
   ·rw[Bool.not_eq_true]at z
    rw[z]
    exact⟨_,rfl,rfl⟩)
 rw[Q,R]}
structure Both(people:List ze)(dt:Nat→Bool)(held heldR:List zb)(waiting:List za)(k:Nat)(s:List Bool×List zb×Zz)(s':List zb×List zb×List (Int×Bool)):Prop where
 all:s'.1=heldR++s.2.1
 desk:zfL people dt (held++s.2.1) s.2.2
 ok:AllOK people (held++s.2.1)
 len:s.1.length=waiting.length
 gone:∀j,j<waiting.length→s.1[j]?=some ((zu s'.2.2 (j:Int)).getD false)
 few:s.2.1.length≤k
 given:s'.2.1=s.2.1
theorem zqV{held heldR:List zb}{waiting:List za}(steps:List zt)(a3:0≤m∧m≤3000000)(a4:zay people)(a5:zdX waiting)(e3:AllOK people held)(e4:held.length≤400)(d3:heldR.Perm held)(d4:∀(k:Nat) (e:ze),people[k]?=some e→jx ⟨people,cals,aw⟩ e m=some (dt k)){d:Zz}(e5:zfL people dt held d):
  ∃t a6,zS (R:=List zb×List za) (fun d5 a=>Option.bind (Option.bind (idx (ji waiting) (d5:Int)) fun G=>Option.bind (idx waiting G) fun n=>Option.bind (Jx n steps m) fun b1=>Option.bind (Jd a.2.2 n b1) fun i=>if (decide (i<0))=true then some (a.1,a.2.1,a.2.2) else Option.bind (idx a.1 G) fun f5=>Option.bind (setI a.1 G true) fun b2=>Option.bind (idx a.2.2.weights i) fun b3=>Option.bind (setI a.2.2.weights i (w64 (b3+n.weight))) fun b4=>Option.bind (idx a.2.2.latest i) fun R=>Option.bind (setI a.2.2.latest i (if R<m then m else R)) fun b5=>Option.bind (idx people i) fun b6=>Option.bind (zC 4398046511104 a.2.1 ([(⟨n.ticket,b6.no,n.weight,m⟩:zb)]:List zb)) fun b7=>some (b2,b7,(⟨a.2.2.people,a.2.2.duty,b4,b5⟩:Zz))) fun J=>some (.nx (J.1,J.2.1,J.2.2))) (ji waiting).length 0 (List.replicate waiting.length false,([]:(List zb)),d)=some (.fin t)∧
   zS (R:=List zb×List za×List zb) (fun d6 f=>Option.bind (Option.bind (idx (ji waiting) (d6:Int)) fun X=>Option.bind (idx waiting X) fun h=>Option.bind (zae h steps m) fun b8=>Option.bind (zS (R:=Empty) (fun S o=>Option.bind (Option.bind (idx people (S:Int)) fun p=>Option.bind (jh f.1 p.no) fun b9=>Option.bind (Option.bind (zbF p b8) fun c0=>if (!c0)=true then (some true) else (Option.bind (jx (⟨people,cals,aw⟩:zR) p m) fun c1=>if (!c1)=true then (some true) else (some (decide ((w64 (p.capacity-b9.1))<h.weight))))) fun c2=>if c2=true then some o else Option.bind ((if o<0 then some true else (idx people o).map fun _=>false)) fun c3=>Option.bind (if c3=true then (some true) else (Option.bind (idx people o) fun c4=>Option.bind (Jg  p c4 h f.1) fun c5=>some c5)) fun c6=>Option.bind (if c6=true then some (S:Int) else some o) fun c7=>some c7) fun c8=>some (.nx c8)) people.length 0 (-1)) fun c9=>c9.andThen (fun f3=>f3.elim) fun H=>Option.bind ((if H<0 then some true else (idx people H).map fun _=>false)) fun d0=>Option.bind (if (!d0)=true then Option.bind (idx people H) fun T=>Option.bind (zC 4398046511104 f.1 ([(⟨h.ticket,T.no,h.weight,m⟩:zb)]:List zb)) fun d1=>Option.bind (zC 4398046511104 f.2.1 ([(⟨h.ticket,T.no,h.weight,m⟩:zb)]:List zb)) fun d2=>some (d1,d2,(QH f.2.2 X true)) else some (f.1,f.2.1,f.2.2)) fun I=>some (I.1,I.2.1,I.2.2)) fun K=>some (.nx (K.1,K.2.1,K.2.2))) (ji waiting).length 0 (heldR,([]:(List zb)),([]:List (Int×Bool)))=some (.fin a6)∧
   Both people dt held heldR waiting (ji waiting).length t a6:=by{
 refine zol _ (fun k f4 e6=>Both people dt held heldR waiting k f4 e6) ⟨by simp,by simpa using e5,by simpa using e3,by simp,fun j r=>by simp[zu,r],by simp,rfl⟩ ?_;rintro k⟨e7,out,a7⟩⟨z,c,f9⟩M e8;obtain⟨A,g,s,B,D,e9,a8⟩:=e8;dsimp only at A g s B D e9 a8 ⊢;subst a8;have v:z.Perm (held++c):=by rw[A];exact d3.append_right _
 have d7:AllOK people z:=s.perm v.symm;have N:(ji waiting)[k]?=some (ji waiting)[k]:=List.getElem?_eq_getElem M;generalize (ji waiting)[k]=x at N;obtain⟨j,w,rfl,r,Z⟩:=zgY N;have y:=a5.2 j w r Z;have O:=zko w steps m y.2.1.2.2.2.2 (by have:=y.2.1.2.2.1;omega)
 have a9:zae w steps m=some (zaQ w steps m):=by
  obtain⟨g1,f0,f1⟩:=zpL w steps m y.2.1.2.2.2.2
  rw[f1, ← f0,O]
 generalize zaQ w steps m=nd at O a9;have d8:=zkN a4 g w nd;have L:=zpH (cals:=cals) (aw:=aw) (m:=m) d7 d4 w nd;rw[zpu v,zry v]at L;have a0:=zlK (people:=people) (dt:=dt) (all:=held++c) (w:=w) (needs:=nd) people.length;simp only[Zg,N,Z,O,a9,Option.bind_some,d8];simp only[Zg]at L;rw[L];simp only[Option.bind_some,Lp.andThen_fin];generalize JG (qG people dt (held++c) w nd) (fmF people w) (ltF people (held++c)) people.length=b at a0;rcases a0 with rfl|⟨l,b0,⟨e,q⟩,rfl⟩;have P:decide ((-1:Int)<0)=true:=by decide
 simp only[P,if_true,if_pos (show (-1:Int)<0 by decide),Option.bind_some,Bool.not_true,Bool.false_eq_true,if_false];exact⟨_,_,rfl,rfl,A,g,s,B,D,by dsimp only;omega,rfl⟩;have P:decide ((l:Int)<0)=false:=decide_eq_false (by omega);have a1:j<e7.length:=by rw[B];exact r
 have d9:l<a7.weights.length:=by rw[g.wlen];exact b0
 have e0:l<a7.latest.length:=by rw[g.llen];exact b0
 have g0:=s.bnd e.no;have e1:(1≤w.weight∧w.weight≤20):=y.2.1.1;have e2:w64 (wOf (held++c) e.no+w.weight)=wOf (held++c) e.no+w.weight:=ZB (by omega) (by omega);have f7:k<waiting.length:=by rw[zgh]at M;exact M
 have f6:=a5.1;have f8:z.length=held.length+c.length:=by rw[v.length_eq,List.length_append]
 simp only[P,Bool.false_eq_true,if_false,if_neg (show ¬(l:Int)<0 by omega),Zg,q,Option.map_some,Option.bind_some,Bool.not_false,if_true,D j r,Jf _ _ _ a1,g.wei l e q,g.lat l e q,e2,Jf _ _ _ d9,Jf _ _ _ e0]
 have U:∀(F:List zb) (u:zb),F.length≤1000→zC 4398046511104 F [u]=some (F++[u]):=fun F u e4=>by
  unfold zC
  rw[if_pos (by rw[List.length_singleton];omega)]
 simp only[U z _ (by omega),U c _ (by omega),Option.bind_some];have W:held++(c++[(⟨w.ticket,e.no,w.weight,m⟩:zb)])=(held++c)++[⟨w.ticket,e.no,w.weight,m⟩]:=(List.append_assoc _ _ _).symm;refine⟨_,_,rfl,rfl,?_,?_,?_,?_,?_,?_,rfl⟩;dsimp only;rw[A,List.append_assoc];dsimp only;rw[W];exact zmq a4 g q w.weight m _ rfl rfl rfl;dsimp only;rw[W];refine⟨by rw[List.length_append,List.length_append,List.length_singleton];omega,fun u a3=>?_⟩;rcases List.mem_append.1 a3 with E|E;exact s.2 u E;rw[List.mem_singleton]at E;subst E;exact⟨e1,znS q⟩;simpa using B;intro Q f2;dsimp only;rw[zbl,List.getElem?_set];by_cases a2:j=Q;subst a2;rw[if_pos rfl,if_pos a1,if_pos rfl];rfl;rw[if_neg a2,if_neg (show ¬((j:Int)=(Q:Int)) by omega),D Q f2];dsimp only;rw[List.length_append,List.length_singleton];omega}
theorem zrb{waiting:List za}(A:waiting.length≤200){c:List Bool}(B:c.length=waiting.length){m:List (Int×Bool)}(u:∀j,j<waiting.length→c[j]?=some ((zu m (j:Int)).getD false)):
  zS (R:=List zb×List za×List zb) (fun e f=>Option.bind (Option.bind (idx waiting (e:Int)) fun h=>Option.bind (if (!((zu m (e:Int)).getD false))=true then Option.bind (zC 2199023255552 f ([h]:List za)) fun i=>some i else some f) fun k=>some k) fun l=>some (.nx l)) waiting.length 0 ([]:(List za))=some (.fin (zcP c waiting)):=by{
 obtain⟨t,v,x,_⟩:=ZU (R:=List zb×List za×List zb) (b:=(fun e f=>Option.bind (Option.bind (idx waiting (e:Int)) fun h=>Option.bind (if (!((zu m (e:Int)).getD false))=true then Option.bind (zC 2199023255552 f ([h]:List za)) fun i=>some i else some f) fun k=>some k) fun l=>some (.nx l)))
  waiting.length (fun a q=>q=((waiting.zip c).take a).filterMap (fun d=>if d.2=true then none else some d.1)∧q.length≤a) (s := []) ⟨rfl,by simp⟩
  (by
   rintro a q r⟨rfl,y⟩
   have n:waiting[a]?=some waiting[a]:=List.getElem?_eq_getElem r
   have o:c[a]?=some c[a]:=List.getElem?_eq_getElem (by omega)
   have p:(waiting.zip c)[a]?=some (waiting[a],c[a]):=by rw[List.getElem?_zip_eq_some];exact⟨n,o⟩
   have g:=u a r
   rw[o]at g
   have g:=Option.some.inj g
   generalize waiting[a]=w at n p
   generalize c[a]=b at o p g
   have z:((waiting.zip c).take (a+1)).filterMap (fun d=>if d.2=true then none else some d.1)=((waiting.zip c).take a).filterMap (fun d=>if d.2=true then none else some d.1)++(if b=true then none else some w:Option za).toList:=by
    rw[List.take_add_one,p,List.filterMap_append]
    cases b <;> simp
   rw[z]
   generalize ((waiting.zip c).take a).filterMap (fun d=>if d.2=true then none else some d.1)=l0 at y
   have s:zC 2199023255552 l0 [w]=some (l0++[w]):=by
    unfold zC
    rw[if_pos (by rw[List.length_singleton];omega)]
   simp only[Zg,n,Option.bind_some, ← g,s]
   cases b with
   | true=>exact⟨_,rfl,(List.append_nil _).symm,by omega⟩
   | false=>exact⟨_,rfl,rfl,by rw[List.length_append,List.length_singleton];omega⟩)
 rw[v,x];unfold zcP;have:(waiting.zip c).take waiting.length=waiting.zip c:=List.take_of_length_le (by rw[List.length_zip];omega);rw[this]}
end
end Go.Proofs.YtdpmeckhhcjoiaaGreatDoor.M
namespace Go.Proofs.YtdpmeckhhcjoiaaGreatDoor.M
open Go Go.Pu
set_option linter.unusedSimpArgs false
set_option linter.unusedVariables false
theorem zjO{c:zi}(b:ziH c)(m:Int)(a:0≤m∧m≤3000000):QL c m=some (opn c m):=by{
 obtain⟨g,f,d⟩:=zpT b.1 m a.1 a.2;rw[f];have e:=zfx b m a;cases g with
 | true=>rw[e.2 (d.1 rfl)]
 | false =>
  cases ho:opn c m with
  | false=>rfl
  | true =>
   have:=d.2 (e.1 ho)
   cases this}
def zkJ(people:List ze)(away:List Bool)(aw:List (Int×Bool)):Prop:=∀(k:Nat) (p:ze),people[k]?=some p→away[k]?=some ((zu aw p.no).getD false)
theorem zsN{people:List ze}{cals:List zi}{c:List Bool}{aw:List (Int×Bool)}{m:Int}(d:zgN people cals)(e:zkJ people c aw)(f:0≤m∧m≤3000000){k:Nat}{a:ze}(b:people[k]?=some a):jx ⟨people,cals,aw⟩ a m=some (zdo people cals c m k):=by{
 obtain⟨l,g,_,h⟩:=zkb d b;have i:=e k a b;unfold jx zdo onB;simp only[b,i,g];generalize (zu aw a.no).getD false=j;cases j with
 | true=>simp
 | false=>simp[zjO h m f]}
structure Sim(people:List ze)(R:zl)(S:zB)(D:zR):Prop where
 dp:D.people=R.assigner.people
 dc:D.clocks=R.assigner.cals
 aw:zkJ people R.assigner.away D.away
 yes:∀(k:Int) (v:Bool),zu D.away k=some v→v=true
 stp:S.steps=R.assigner.steps
 wait:S.waiting=R.waiting
 held:S.held.Perm R.held
 sort:S.held.Pairwise fun a b=>a.ticket<b.ticket
 work:∀k,zu S.works k=zu R.work k
section
variable{people:List ze}{cals:List zi}{steps:List zt}{t m:Int}{R:zl}{S:zB}{D:zR}
theorem zqC{l:List zb}(g:l.length≤1000)(h:l.Pairwise fun b c=>b.ticket≠c.ticket):∃a,jQ (fun e f=>zbk e f) l=some a∧a.Perm l∧a.Pairwise fun b c=>b.ticket<c.ticket:=by{obtain⟨a,d,i,j⟩:=zfl l g h;unfold zbf at d;obtain⟨n,k,m⟩:=Option.bind_eq_some_iff.1 d;cases m;exact⟨a,k,i,j⟩}
theorem zom(d:RtOK people cals steps)(a:RInv people cals steps m R)(e:0≤m∧m≤3000000)(b:Sim people R S D):
  ∃out left c,je R R.held R.waiting m=some (out,left)∧Asg people (zdo people cals R.assigner.away m) steps m R.held R.waiting out left∧qQ S D m=some (out,c)∧c.steps=S.steps∧c.now=m∧c.waiting=left∧c.held.Perm (R.held++out)∧(c.held.Pairwise fun g Q=>g.ticket<Q.ticket)∧c.works=S.works:=by{
 have v:=a.ppl;subst v;have w:=a.cls;subst w;have x:=a.stp;subst x;obtain⟨out,left,r,g⟩:=zkI (R:=R) (held:=R.held) (waiting:=R.waiting) (m:=m) d.duty a.awl e a.wok a.all a.hlen a.heldA a.cross;obtain⟨a1,y,z⟩:=zqf (R:=R) (held:=R.held) d.duty a.awl a.all m e;obtain⟨⟨f,T,W⟩,⟨j,k,X⟩,B,E,F⟩:=zqV (cals:=R.assigner.cals) (aw:=D.away) (heldR:=S.held) R.assigner.steps e d.duty.ppl a.wok a.all a.hlen b.held (fun a2 a3 A=>zsN d.duty b.aw e A) z;obtain⟨l,G,n,i,o,H,p⟩:=F;dsimp only at l G n i o H p;subst p;have U:=a.few;have t:JS 281474976710656 (R.waiting.length:Int) (false:Bool)=some (List.replicate R.waiting.length false):=by rw[JS,if_pos (by omega),Int.toNat_natCast]
 have q:je R R.held R.waiting m=some (k,zcP f R.waiting):=by
  unfold je
  rw[y,Option.bind_some,t,Option.bind_some,zhg _ a.wok,Option.bind_some,B,Option.bind_some,Lp.andThen_fin]
  dsimp only
  rw[znU a.wok i,Option.bind_some,Lp.andThen_fin]
 rw[r]at q
 obtain⟨rfl,rfl⟩:out=k∧left=zcP f R.waiting:=by
  have:=Option.some.inj q
  exact⟨congrArg Prod.fst this,congrArg Prod.snd this⟩
 have h:j.Perm (R.held++out):=by rw[l];exact b.held.append_right _
 obtain⟨s,I,J,K⟩:=zqC (l:=j) (by rw[h.length_eq];exact n.1) ((h.pairwise_iff (fun a=>Ne.symm a)).2 g.apart)
 have u:Zl S.held=some S.held:=by
  have:=a.hlen
  have Z:=b.held.length_eq
  unfold Zl zC
  rw[if_pos (by simp;omega)]
  rfl
 have L:zaI D S.held S.waiting S.steps m=some (s,zcP f R.waiting,out):=by
  obtain⟨M,N,a0⟩:=D
  have O:M=_:=b.dp
  have P:N=_:=b.dc
  subst O
  subst P
  rw[b.wait,b.stp]
  unfold zaI
  rw[u,Option.bind_some,zmK _ a.wok,Option.bind_some]
  dsimp only
  rw[E,Option.bind_some,Lp.andThen_fin]
  dsimp only
  rw[zrb a.few i o,Option.bind_some,Lp.andThen_fin,I]
  rfl
 refine⟨out,_,⟨0,S.steps,m,s,zcP f R.waiting,S.works⟩,r,g,?_,rfl,rfl,rfl,J.trans h,K,rfl⟩;unfold qQ;rw[L];rfl}
end
end Go.Proofs.YtdpmeckhhcjoiaaGreatDoor.M
namespace Go.Proofs.YtdpmeckhhcjoiaaGreatDoor.M
open Go Go.Pu
set_option linter.unusedSimpArgs false
set_option linter.unusedVariables false
theorem zsm(a b:List zb)(no:Int):wOf (a++b) no=wOf a no+wOf b no:=by simp[wOf]
section
variable{people:List ze}{cals:List zi}{steps:List zt}{t m:Int}{R:zl}{S:zB}{D:zR}
theorem zsG{cals:List zi}{c:List Bool}{j:Nat}{d:ze}(e:people[j]?=some d)(a:zdo people cals c m j=true):onB cals m d=true∧c[j]?=some false:=by{
 unfold zdo at a;rw[e]at a;cases ha:c[j]? with
 | none=>rw[ha]at a;cases a
 | some b =>
  rw[ha]at a
  simp only[Bool.and_eq_true,Bool.not_eq_true']at a
  exact⟨a.1,by rw[a.2]⟩}
theorem zqi(d:RInv people cals steps m R){out:List zb}{left:List za}(a:Asg people (zdo people cals R.assigner.away m) steps m R.held R.waiting out left)(hi:Idle people cals steps m R):out=[]:=by{
 cases out with
 | nil=>rfl
 | cons x out =>
  exfalso
  obtain⟨w,f,r,s,t,e,b,c,g,h,i⟩:=a.given x (List.mem_cons_self ..)
  obtain⟨j,k⟩:=zsG c h
  have u:=hi w f e b c k j i
  have l:=a.cap d.cap e b c
  rw[zsm]at l
  have v:=(zlS (l:=x::out) (l' := [x]) (List.singleton_sublist.2 (List.mem_cons_self ..)) (fun p n=>by
   obtain⟨q,o,y,z,_⟩:=a.given p n
   have:=(d.fine q o).1.wei
   omega) b.no).2
  have A:wOf [x] b.no=x.weight:=by simp[wOf,g]
  omega}
theorem zmz(l:RtOK people cals steps)(d:RInv people cals steps t R)(n:0≤m∧m≤3000000)(h:t≤m)(b:Sim people R S D):
  ∃out a c,QR R m=some (out,a)∧qQ S D m=some (out,c)∧RInv people cals steps m a∧Idle people cals steps m a∧Sim people a c D∧a.assigner=R.assigner∧a.now=R.now∧a.work=R.work∧a.held=R.held++out∧c.now=m∧(Idle people cals steps m R→out=[]∧a=R):=by{
 obtain⟨o,r,p,s,H,I,J,K,_,u⟩:=zru l d n h;have q:=d.mono h;obtain⟨out,left,c,F,e,v,w,x,y,z,A,B⟩:=zom l q n b;have i:=e.few;have G:=d.few;have hlen:=d.hlen
 have j:QR R m=some (out,⟨R.assigner,R.now,left,R.held++out,R.work⟩):=by
  unfold QR
  by_cases f:R.waiting=[]
  rw[if_pos (by rw[f];rfl)]
  have k:out=[]:=by
   rw[f]at i
   exact List.eq_nil_of_length_eq_zero (Nat.le_zero.1 i)
  rw[e.none_ k,k,List.append_nil]
  rw[if_neg (by simp;exact f),F,Option.bind_some]
  dsimp only
  rw[zkU _ _ (by omega),Option.bind_some]
 rw[p]at j
 obtain⟨rfl,rfl⟩:o=out∧r=⟨R.assigner,R.now,left,R.held++out,R.work⟩:=by
  have:=Option.some.inj j
  exact⟨congrArg Prod.fst this,congrArg Prod.snd this⟩
 refine⟨o,_,c,p,v,s,u,⟨b.dp,b.dc,b.aw,b.yes,w.trans b.stp,y,z,A,by rw[B];exact b.work⟩,rfl,rfl,rfl,rfl,x,fun E=>?_⟩;have g:=zqi q e E;refine⟨g,?_⟩;rw[e.none_ g,g,List.append_nil]}
theorem zkZ{steps:List zt}{d:Int}(e:∀b∈steps,b.after≠d):∀a,zeH steps d a=zeH steps (d-1) a
 | 0=>rfl
 | a+1=>by
  rw[zeH,zeH,zkZ e a]
  cases hs:steps[a]? with
  | none=>rfl
  | some b =>
   have:=e b (List.mem_of_getElem? hs)
   dsimp only
   by_cases c:b.after≤d
   ·rw[if_pos c,if_pos (by omega)]
   ·rw[if_neg c,if_neg (by omega)]
theorem zpz{w:za}(c:∀a∈steps,m≠w.since+a.after):zaQ w steps m=zaQ w steps (m-1):=by{unfold zaQ;rw[zkZ (fun a b d=>c a b (by omega)),show m-w.since-1=m-1-w.since by omega]}
theorem zqD(i:RtOK people cals steps)(u:RInv people cals steps t R)(hi:Idle people cals steps (m-1) R)(q:¬EvB people cals R.assigner.away R.held cals.length m)(r:¬EvS steps R.waiting R.waiting.length m):Idle people cals steps m R:=by{
 intro w e f a b j d g;obtain⟨v,h⟩:=List.mem_iff_getElem?.1 e;rw[zpz (fun x n y=>r ⟨v,w,x,(List.getElem?_eq_some_iff.1 h).1,h,n,y⟩)]at g;by_cases c:onB cals (m-1) a=true;exact hi w e f a b j c g;obtain⟨l,s,k,B⟩:=zkb i.duty b
 have o:zgc l m:=by
  unfold onB at d c
  rw[s]at d c
  exact⟨d,by simpa using c⟩
 have z:=i.duty.has f a b;have A:¬wOf R.held a.no<a.capacity:=fun p=>q ⟨a.calendar.toNat,l,f,a,(List.getElem?_eq_some_iff.1 k).1,k,b,by omega,j,p,o⟩;have:=(u.fine w e).1.wei;omega}
theorem zpA(y:RtOK people cals steps)(f:D.people=people)(z:D.clocks=cals)(F:1≤t∧t≤3000000):
  ∃p,jS D (w64 (t-1)) t=some p∧((p==t)=false→∀(k:Nat) (a:ze) (c:zi),people[k]?=some a→cals[a.calendar.toNat]?=some c→opn c t=opn c (t-1)):=by{
 have l:w64 (t-1)=t-1:=ZB (by omega) (by omega);have A:w64 (t-1+1)=t:=by rw[ZB (by omega) (by omega)];omega
 have B:w64 (t+1)=t+1:=ZB (by omega) (by omega);unfold jS;rw[l,A,zbU];rw[if_pos (by simp)]
 have x:=zkQ (R:=Int) (b:=fun u (_:Unit)=>Option.bind (idx D.people (u:Int)) fun v=>Option.bind (idx D.clocks v.calendar) fun j=>Option.bind (QL j t) fun w=>Option.bind (QL j (w64 (t-1))) fun r=>if (!(w==r))=true then some (.rt t) else some (.nx ())) D.people.length (fun k=>∀(a:ze) (c:zi),people[k]?=some a→cals[a.calendar.toNat]?=some c→opn c t=opn c (t-1)) (fun q=>q=t) (fun k m=>by
  rw[f]at m
  have g:people[k]?=some people[k]:=List.getElem?_eq_getElem m
  generalize people[k]=a at g
  obtain⟨c,E,n,o⟩:=zkb y.duty g
  rw[f,z,Zg,g,Option.bind_some,E,Option.bind_some,zjO o t (by omega),Option.bind_some,l,zjO o (t-1) (by omega),Option.bind_some]
  by_cases b:opn c t=opn c (t-1)
  left
  refine⟨fun G H d e=>?_,by rw[b];simp⟩
  cases d
  rw[n]at e
  cases e
  exact b
  right
  exact⟨fun h=>b (h a c rfl n),t,rfl,by rw[if_pos (by simpa using b)]⟩)
 rcases x with ⟨s,i⟩|⟨_,q,rfl,i⟩;rw[i,Option.bind_some];simp only[Lp.andThen_fin,Option.bind_some,B];rw[zbU,if_neg (by simp;omega)];simp only[Option.bind_some,Lp.andThen_fin];exact⟨-1,rfl,fun _ k a c d e=>s k (by rw[f];exact (List.getElem?_eq_some_iff.1 d).1) a c d e⟩;rw[i,Option.bind_some];simp only[Lp.andThen_rt,Option.bind_some];exact⟨_,rfl,fun h=>by simp at h⟩}
end
end Go.Proofs.YtdpmeckhhcjoiaaGreatDoor.M
namespace Go.Proofs.YtdpmeckhhcjoiaaGreatDoor.M
open Go Go.Pu
set_option linter.unusedSimpArgs false
set_option linter.unusedVariables false
noncomputable def zkf(m:Int):List zb×Int×zl→Option (Ctl (List zb×Int×zl) (List zb×Int×zl)):=(fun s49=>if ((decide ((0:Int)≤s49.2.1))&&(decide (s49.2.1≤m)))=true then Option.bind (QR s49.2.2 s49.2.1) fun x78=>Option.bind (zC 4398046511104 s49.1 x78.1) fun x98=>Option.bind (JO x78.2 s49.2.1) fun x104=>some (.nx (x98,x104,x78.2)) else some (.bk (s49.1,s49.2.1,s49.2.2)))
noncomputable def refF(D:zR)(m:Int):List zb×Int×zB→Option (Ctl (List zb×Int×zB) (List zb×zB)):=(fun s46=>if ((decide (s46.2.1≤m))&&(decide ((0:Int)<(s46.2.2.waiting.length:Int))))=true then Option.bind (Option.bind (Zc s46.2.2.waiting (fun y91=>QU y91 s46.2.2 s46.2.1)) fun x92=>Option.bind (if x92=true then (some true) else (Option.bind (jS D (w64 (s46.2.1-1)) s46.2.1) fun x119=>some (x119==s46.2.1))) fun s107=>Option.bind (if s107=true then Option.bind (qQ s46.2.2 D s46.2.1) fun x143=>Option.bind (zC 4398046511104 s46.1 x143.1) fun x157=>some (x157,x143.2) else some (s46.1,s46.2.2)) fun s126=>some (s126.1,s126.2)) fun s75=>some (.nx (s75.1,w64 (s46.2.1+1),s75.2)) else some (.bk (s46.1,s46.2.1,s46.2.2)))
theorem zro(l:List za)(a:za→Bool):Zc l (fun f=>some (a f))=some (l.any a):=by{
 unfold Zc;rw[znJ,Option.bind_some];cases h:l.findIdx? a with
 | none =>
  have:=List.findIdx?_eq_none_iff.1 h
  have b:l.any a=false:=by
   rw[List.any_eq_false]
   intro g c
   simpa using this g c
  rw[b]
  rfl
 | some i =>
  obtain⟨d,e,_⟩:=List.findIdx?_eq_some_iff_getElem.1 h
  have b:l.any a=true:=List.any_eq_true.2 ⟨_,List.getElem_mem d,e⟩
  rw[b]
  exact congrArg some (decide_eq_true (by dsimp only;omega))}
theorem zrC(l:List zt)(a:zt→Bool):qp l (fun f=>some (a f))=some (l.any a):=by{
 unfold qp QZ;rw[zch,Option.bind_some];cases h:l.findIdx? a with
 | none =>
  have:=List.findIdx?_eq_none_iff.1 h
  have b:l.any a=false:=by
   rw[List.any_eq_false]
   intro g c
   simpa using this g c
  rw[b]
  rfl
 | some i =>
  obtain⟨d,e,_⟩:=List.findIdx?_eq_some_iff_getElem.1 h
  have b:l.any a=true:=List.any_eq_true.2 ⟨_,List.getElem_mem d,e⟩
  rw[b]
  simp only[Lp.andThen_rt,Option.bind_some]
  exact congrArg some (decide_eq_true (by omega))}
section
variable{people:List ze}{cals:List zi}{steps:List zt}{t m:Int}{R:zl}{S:zB}{D:zR}
def Ev(people:List ze)(cals:List zi)(steps:List zt)(R:zl)(u:Int):Prop:=EvB people cals R.assigner.away R.held cals.length u∨EvS steps R.waiting R.waiting.length u
theorem zrd(g:RtOK people cals steps)(a:RInv people cals steps t R)(c:Sim people R S D){u:Int}(n:1≤u∧u≤3000000):∃h j,(Zc S.waiting (fun l=>QU l S u))=some h∧(if h=true then (some true) else (Option.bind (jS D (w64 (u-1)) u) fun k=>some (k==u)))=some j∧(j=false→¬Ev people cals steps R u):=by{
 have m:S.steps=steps:=c.stp.trans a.stp
 have o:∀w:za,QU w S u=some (S.steps.any fun b=>w64 (w.since+b.after)==u):=fun w=>by
  unfold QU
  show Option.bind (qp S.steps (fun v=>some (w64 (w.since+v.after)==u))) _=_
  rw[zrC]
  rfl
 simp only[o,zro];obtain⟨I,x,p⟩:=zpA (D:=D) (t:=u) g (c.dp.trans a.ppl) (c.dc.trans a.cls) n;rw[c.wait,m];cases hb:(R.waiting.any fun w=>steps.any fun b=>w64 (w.since+b.after)==u) with
 | true =>
  exact⟨true,true,rfl,rfl,fun a=>by cases a⟩
 | false =>
  refine⟨false,_,rfl,by rw[if_neg (by decide),x,Option.bind_some],fun q r=>?_⟩
  rcases r with ⟨y,z,A,B,s,d,e,f,E,F,i⟩|⟨y,w,b,s,d,e,f⟩
  have:=p q A B z e (by rw[f];simpa using d)
  rw[i.1,i.2]at this
  cases this
  rw[List.any_eq_false]at hb
  refine hb w (List.mem_of_getElem? d) ?_
  rw[List.any_eq_true]
  refine⟨b,e,?_⟩
  have G:=(a.fine w (List.mem_of_getElem? d)).1.since
  have H:=(g.st.2 b e).1
  rw[ZB (by omega) (by omega),f]
  simp}
theorem zso(A:RtOK people cals steps)(c4:m≤3000000):∀(B:Nat) (t:Int) (g out:List zb) (n:Int) (R:zl) (S:zB),(m-t).toNat≤B→0≤t→t≤m→RInv people cals steps t R→Idle people cals steps t R→Sim people R S D→R.held=g++out→
  ((R.waiting=[]∧n = -1)∨(R.waiting≠[]∧NextOK (Ev people cals steps R) t n))→
  ∃c l a f h,Jr (zkf m) (out,n,R)=some (.fin (c,l,a))∧Jr (refF D m) (out,t+1,S)=some (.fin (c,f,h))∧RInv people cals steps m a∧Sim people a h D∧a.assigner=R.assigner∧a.now=R.now∧a.work=R.work∧a.held=g++c:=by{
 intro B;induction B with
 | zero =>
  intro t g out n R S a3 N H i F d e b
  obtain rfl:t=m:=by omega
  have z:¬(0≤n∧n≤t):=by
   rcases b with ⟨_,rfl⟩|⟨_,j,_⟩
   omega
   rcases j with rfl|⟨j,_⟩ <;> omega
  refine⟨out,n,R,t+1,S,?_,?_,i,d,rfl,rfl,rfl,e⟩
  rw[zbU]
  unfold zkf
  rw[if_neg (by simpa using z)]
  rfl
  rw[zbU]
  unfold refF
  rw[if_neg (by simp;omega)]
  rfl
 | succ B ih =>
  intro t g out n R S a3 N H i F d e b
  have hlen:=i.hlen
  have c2:out.length≤400:=by rw[e,List.length_append]at hlen;omega
  rcases b with ⟨p,rfl⟩|⟨p,b⟩
  ·refine⟨out, -1,R,t+1,S,?_,?_,i.mono H,d,rfl,rfl,rfl,e⟩
   ·rw[zbU]
    unfold zkf
    rw[if_neg (by simp)]
    rfl
   ·rw[zbU]
    unfold refF
    rw[if_neg (by rw[d.wait,p];simp)]
    rfl
  by_cases T:t=m
  ·subst T
   refine ih t g out n R S (by omega) N H i F d e (.inr ⟨p,b⟩)
  have K:w64 (t+1+1)=t+1+1:=ZB (by omega) (by omega)
  have c0:0<R.waiting.length:=List.length_pos_iff.2 p
  obtain⟨c5,x,U,a4,W⟩:=zrd (u:=t+1) A i d (by omega)
  obtain⟨o,q,I,a5,a6,s,J,O,a7,a8,a9,P,c3,X⟩:=zmz (m:=t+1) A i (by omega) (by omega) d
  have c1:o.length≤400∧out.length+o.length≤400:=by
   have:=s.hlen
   rw[P,e,List.length_append,List.length_append]at this
   omega
  have L:zC 4398046511104 out o=some (out++o):=by
   unfold zC
   rw[if_pos (by omega)]
  have G:∀E,refF D m (out,t+1,S)=some E→Jr (refF D m) (out,t+1,S)=(match E with|.nx s'=>Jr (refF D m) s'|.bk s'=>some (.fin s')|.rt r=>some (.rt r)):=fun E b0=>by
   rw[zbU,b0]
   cases E <;> rfl
  have k:refF D m (out,t+1,S)=some (.nx (if x=true then (out++o,t+1+1,I) else (out,t+1+1,S))):=by
   unfold refF
   rw[if_pos (by rw[d.wait];simp;omega)]
   dsimp only
   rw[U,Option.bind_some,a4,Option.bind_some]
   cases x with
   | true=>simp only[if_true,a6,Option.bind_some,L,K]
   | false=>simp only[Bool.false_eq_true,if_false,Option.bind_some,K]
  by_cases Z:n=t+1
  · -- an event
   subst Z
   have a0:x=true:=by
    cases x with
    | true=>rfl
    | false =>
     rcases b.1 with j|⟨_,j⟩
     ·omega
     ·exact absurd j (W rfl)
   subst a0
   rw[if_pos rfl]at k
   obtain⟨Q,b1,b2⟩:=znG A s (t+1) (by omega)
   obtain⟨c,l,a,f,h,u,v,w,b3,b4,b5,b6,b7⟩:=ih (t+1) g (out++o) Q q I (by omega) (by omega) (by omega) s J O (by rw[P,e,List.append_assoc]) b2
   refine⟨c,l,a,f,h,?_,?_,w,b3,b4.trans a7,b5.trans a8,b6.trans a9,b7⟩
   ·rw[zbU]
    have:zkf m (out,t+1,R)=some (.nx (out++o,Q,q)):=by
     unfold zkf
     rw[if_pos (by simp;omega)]
     dsimp only
     rw[a5,Option.bind_some]
     dsimp only
     rw[L,Option.bind_some,b1,Option.bind_some]
    rw[this]
    exact u
   ·rw[G _ k]
    exact v
  · -- nothing happens
   have M:¬Ev people cals steps R (t+1):=b.2 (t+1) (by omega) (by omega) (by
    rcases b.1 with j|⟨j,_⟩
    ·exact .inl j
    ·exact .inr (by omega))
   have a1:Idle people cals steps (t+1) R:=zqD A i (by rw[show t+1-1=t by omega];exact F) (fun y=>M (.inl y)) (fun y=>M (.inr y))
   obtain⟨a2,rfl⟩:=X a1
   subst a2
   rw[List.append_nil]at k
   have z:NextOK (Ev people cals steps q) (t+1) n:=⟨b.1.imp id fun y=>⟨by omega,y.2⟩,fun f c6 b8 b9=>b.2 f (by omega) b8 b9⟩
   cases x with
   | true =>
    rw[if_pos rfl]at k
    obtain⟨c,l,a,f,h,u,v,w⟩:=ih (t+1) g out n q I (by omega) (by omega) (by omega) s J O e (.inr ⟨p,z⟩)
    exact⟨c,l,a,f,h,u,by rw[G _ k];exact v,w⟩
   | false =>
    rw[if_neg (by decide)]at k
    obtain⟨c,l,a,f,h,u,v,w⟩:=ih (t+1) g out n q S (by omega) (by omega) (by omega) s J d e (.inr ⟨p,z⟩)
    exact⟨c,l,a,f,h,u,by rw[G _ k];exact v,w⟩}
end
end Go.Proofs.YtdpmeckhhcjoiaaGreatDoor.M
namespace Go.Proofs.YtdpmeckhhcjoiaaGreatDoor.M
open Go Go.Pu
set_option linter.unusedSimpArgs false
set_option linter.unusedVariables false
theorem zjX:∀{l l':List zb},l.Perm l'→(l.Pairwise fun d e=>d.ticket<e.ticket)→(l'.Pairwise fun d e=>d.ticket<e.ticket)→l=l'
 | [],l',h,_,_=>(List.Perm.nil_eq h)
 | x::l, [],h,_,_=>by have:=h.length_eq;simp at this
 | x::l,a::l',h,h1,h2=>by
  rw[List.pairwise_cons]at h1 h2
  have g:x=a:=by
   have b:x∈a::l':=h.mem_iff.1 (List.mem_cons_self ..)
   have c:a∈x::l:=h.mem_iff.2 (List.mem_cons_self ..)
   rcases List.mem_cons.1 b with f|b
   ·exact f
   rcases List.mem_cons.1 c with f|c
   ·exact f.symm
   have i:=h2.1 x b
   have j:=h1.1 a c
   omega
  subst g
  rw[zjX (List.Perm.cons_inv h) h1.2 h2.2]
theorem zgv:∀{l:List zb} {i:Nat} {x:zb},(l.Pairwise fun e f=>e.ticket≠f.ticket)→l[i]?=some x→l.eraseIdx i=l.filter fun a=>!(a.ticket==x.ticket)
 | [],i,x,_,a=>by simp at a
 | y::l,0,x,hp,a=>by
  have b:y=x:=by simpa using a
  subst b
  rw[List.pairwise_cons]at hp
  rw[List.eraseIdx_zero,List.tail_cons,List.filter_cons,if_neg (by simp),List.filter_eq_self.2]
  intro g d
  have:=hp.1 g d
  simpa using fun b=>this b.symm
 | y::l,i+1,x,hp,a=>by
  rw[List.pairwise_cons]at hp
  have c:l[i]?=some x:=by simpa using a
  have:=hp.1 x (List.mem_of_getElem? c)
  rw[List.eraseIdx_cons_succ,List.filter_cons,if_pos (by simpa using this),zgv hp.2 c]
theorem ziS{κ α:Type}[DecidableEq κ](k:κ):∀l:List (κ×α),zu (allT l) k=(zu l k).map fun _=>true
 | []=>rfl
 | p::l=>by
  show zu ((p.1,true)::allT l) k=_
  simp only[zu]
  split
  ·rfl
  ·exact ziS k l
theorem zhy{α:Type}(l:List (Int×α))(k b:Int):zu (zam l k) b=if k=b then none else zu l b:=by{
 induction l with
 | nil=>simp[zam,zu]
 | cons p l ih =>
  unfold zam at ih ⊢
  rw[List.filter_cons]
  by_cases c:p.1=k
  rw[if_neg (by simpa using c),ih]
  simp only[zu]
  by_cases a:k=b
  rw[if_pos a,if_pos a]
  rw[if_neg a,if_neg a,if_neg (fun d=>a (c.symm.trans d))]
  rw[if_pos (by simpa using c)]
  simp only[zu]
  by_cases a:p.1=b
  rw[if_pos a,if_pos a,if_neg (fun d=>c (a.trans d.symm))]
  rw[if_neg a,if_neg a,ih]}
theorem zge(l:List zb)(n:Int):(JU l n=some (-1)∧∀w∈l,w.ticket≠n)∨∃(i:Nat) (w:zb),JU l n=some (i:Int)∧l[i]?=some w∧w.ticket=n:=by{
 unfold JU zbJ;rw[znO l fun w=>w.ticket==n];cases h:l.findIdx? (fun w=>w.ticket==n) with
 | none =>
  refine .inl ⟨rfl,fun w a=>?_⟩
  have:=List.findIdx?_eq_none_iff.1 h w a
  simpa using this
 | some i =>
  obtain⟨b,c,_⟩:=List.findIdx?_eq_some_iff_getElem.1 h
  exact .inr ⟨i,_,rfl,List.getElem?_eq_getElem b,by simpa using c⟩}
theorem zjW(people:List ze)(no:Int):Jc people no=some (pos people no):=by{unfold Jc zba;rw[zmu];rfl}
section
variable{people:List ze}{cals:List zi}{steps:List zt}{t m:Int}{R:zl}{S:zB}{D:zR}
def Acts(people:List ze)(cals:List zi)(steps:List zt)(m:Int)(do_:zl→Option (Int×zl))(ref:zB→zR→Option (Int×zB×List (Int×Bool))):Prop :=
 ∀R S D,RInv people cals steps m R→Sim people R S D→∃e R2 S2 aw2,do_ R=some (e,R2)∧ref S D=some (e,S2,aw2)∧((e≠0∧R2=R)∨(e=0∧RInv people cals steps m R2∧R2.now=R.now∧Sim people R2 S2 ⟨D.people,D.clocks,aw2⟩))
theorem Does.at_{c:zl→Option (Int×zl)}{e:zl→zl→Prop}(f:Does people cals steps m c e)(j:RInv people cals steps m R){a:zl}(g:c R=some (0,a)):RInv people cals steps m a∧a.now=R.now:=by{obtain⟨l,k,d,h⟩:=f R j;rw[g]at d;cases d;rcases h with ⟨b,_⟩|⟨_,b,i,_⟩;exact absurd rfl b;exact⟨b,i⟩}
theorem zqM:Acts people cals steps m (fun R=>some (JY,R)) (fun S D=>some (0,S,D.away)):=fun R S D b a =>
 ⟨0,R,S,D.away,rfl,rfl,.inr ⟨rfl,b,rfl,a⟩⟩
theorem zlk(a:Sim people R S D)(n:Int):QT S D n=Qy R n:=by{unfold QT Qy;rw[a.wait];rfl}
theorem Sim.apart(a:RInv people cals steps t R)(b:Sim people R S D):S.held.Pairwise fun c d=>c.ticket≠d.ticket:=(b.held.pairwise_iff (fun a=>Ne.symm a)).2 a.heldA
theorem zox(no:Int):Acts people cals steps m (fun R=>qq R no) (fun S D=>Option.bind (jY S D no) fun i=>some (i.1,i.2,D.away)):=fun R S D e a=>by
 have E:=e.hlen
 have F:=e.few
 have B:=a.held.length_eq
 dsimp only
 have s:=zoy (people:=people) (cals:=cals) (steps:=steps) (m:=m) no
 unfold jY
 rw[zlk a]
 rcases zgZ R no with ⟨k,y⟩|⟨b,i,k,f,l⟩
 ·rcases zfK R no with ⟨c,z⟩|⟨b,w,c,f,l⟩
  ·have d:qq R no=some (7,R):=by
    unfold qq
    rw[k,Option.bind_some,if_neg (by decide),c,Option.bind_some,if_neg (by decide)]
    rfl
   rw[c,Option.bind_some,if_neg (by decide)]
   rcases zge S.held no with ⟨h,t⟩|⟨g,u,h,n,o⟩
   ·rw[h,Option.bind_some,if_pos (by decide)]
    exact⟨7,R,S,D.away,d,rfl,.inl ⟨by decide,rfl⟩⟩
   ·exact absurd o (y u (a.held.mem_iff.1 (List.mem_of_getElem? n)))
  ·have A:=(List.getElem?_eq_some_iff.1 f).1
   have j:qr R.waiting (b:Int) (w64 ((b:Int)+1))=some (R.waiting.take b++R.waiting.drop (b+1)):=by
    unfold qr
    rw[zeK b (by omega),if_pos (by omega)]
    rfl
   have d:qq R no=some (0,⟨R.assigner,R.now,R.waiting.take b++R.waiting.drop (b+1),R.held,R.work⟩):=by
    unfold qq
    rw[k,Option.bind_some,if_neg (by decide),c,Option.bind_some,if_pos (by simp)]
    have p:jb R.waiting (b:Int)=some (R.waiting.take b++R.waiting.drop (b+1)):=by
     unfold jb zW zC
     rw[if_pos (by simp;omega),Option.bind_some,List.nil_append,Option.bind_some,j]
     rfl
    rw[p]
    rfl
   obtain⟨q,r⟩:=s.at_ e d
   rw[c,Option.bind_some,if_pos (by simp),a.wait,j]
   exact⟨0,_,_,D.away,d,rfl,.inr ⟨rfl,q,r,⟨a.dp,a.dc,a.aw,a.yes,a.stp,rfl,a.held,a.sort,a.work⟩⟩⟩
 ·have A:=(List.getElem?_eq_some_iff.1 f).1
  have d:qq R no=some (0,⟨R.assigner,R.now,R.waiting,R.held.take b++R.held.drop (b+1),R.work⟩):=by
   unfold qq
   rw[k,Option.bind_some,if_pos (by simp)]
   have p:ja R.held (b:Int)=some (R.held.take b++R.held.drop (b+1)):=by
    unfold ja Zl zC ZX
    rw[if_pos (by simp;omega),Option.bind_some,List.nil_append,Option.bind_some,zeK b (by omega),if_pos (by omega)]
    rfl
   rw[p]
   rfl
  obtain⟨q,r⟩:=s.at_ e d
  rcases zfK R no with ⟨c,z⟩|⟨G,w,c,v,x⟩
  rotate_left
  ·exact absurd (l.trans x.symm) (e.cross i (List.mem_of_getElem? f) w (List.mem_of_getElem? v))
  rw[c,Option.bind_some,if_neg (by decide)]
  rcases zge S.held no with ⟨h,t⟩|⟨g,u,h,n,o⟩
  ·exact absurd l (t i (a.held.mem_iff.2 (List.mem_of_getElem? f)))
  have H:=(List.getElem?_eq_some_iff.1 n).1
  have j:ZX S.held (g:Int) (w64 ((g:Int)+1))=some (S.held.take g++S.held.drop (g+1)):=by
   unfold ZX
   rw[zeK g (by omega),if_pos (by omega)]
   rfl
  rw[h,Option.bind_some,if_neg (by simp),j]
  refine⟨0,_,_,D.away,d,rfl,.inr ⟨rfl,q,r,⟨a.dp,a.dc,a.aw,a.yes,a.stp,a.wait,?_,?_,a.work⟩⟩⟩
  ·dsimp only
   rw[← List.eraseIdx_eq_take_drop_succ, ← List.eraseIdx_eq_take_drop_succ,zgv (a.apart e) n,zgv e.heldA f,o,l]
   exact a.held.filter _
  ·dsimp only
   rw[← List.eraseIdx_eq_take_drop_succ]
   exact a.sort.sublist (List.eraseIdx_sublist _ _)
theorem zoE(w:za)(v:∀t∈w.needs,t.name.size≤9223372036854775807):Acts people cals steps m (fun R=>Option.bind (ZF w R m) fun a=>some (a.1,a.2.2)) (fun S D=>Option.bind (qt S D w m) fun a=>some (a.1,a.2,D.away)):=fun R S D f b=>by
 have a9:=f.hlen
 have b0:=f.few
 dsimp only
 have T:=zog (people:=people) (cals:=cals) (steps:=steps) (m:=m) w v
 obtain⟨u,h,i,U⟩:=zsf [w] (fun a2 z=>by rw[List.mem_singleton]at z;subst z;exact v)
 have l:∀(d:Int) (c:zl),(Option.bind (ZF w R m) fun a=>some (a.1,a.2.2))=some (d,c)→(Option.bind (qt S D w m) fun a=>some (a.1,a.2,D.away))=some (d,S,D.away)→d≠0→c=R→∃d c A x,(Option.bind (ZF w R m) fun a=>some (a.1,a.2.2))=some (d,c)∧(Option.bind (qt S D w m) fun a=>some (a.1,a.2,D.away))=some (d,A,x)∧((d≠0∧c=R)∨(d=0∧RInv people cals steps m c∧c.now=R.now∧Sim people c A ⟨D.people,D.clocks,x⟩)):=fun d c a3 g a4 a5=>⟨d,c,S,D.away,a3,g,.inl ⟨a4,a5⟩⟩
 by_cases j:u=0
 rotate_left
 ·refine l u R ?_ ?_ j rfl
  ·unfold ZF
   rw[h,Option.bind_some,if_pos (by simpa using j)]
   rfl
  ·unfold qt
   rw[i,Option.bind_some,if_pos (by simpa using j)]
   rfl
 have e:¬((u != 0)=true):=by simpa using j
 obtain⟨g,o,a8,n⟩:∃g:Bool,(Option.bind (Qy R w.ticket) fun L=>if (decide ((0:Int)≤L))=true then (some true) else (Option.bind (jt R w.ticket) fun M=>some (decide ((0:Int)≤M))))=some g∧(g=false→(∀a∈R.waiting,a.ticket≠w.ticket)∧∀a∈R.held,a.ticket≠w.ticket)∧(Option.bind (QT S D w.ticket) fun N=>if (decide ((0:Int)≤N))=true then (some true) else (Option.bind (JU S.held w.ticket) fun O=>some (decide ((0:Int)≤O))))=some g:=by
  rw[zlk b]
  rcases zfK R w.ticket with ⟨q,W⟩|⟨a6,a2,q,B,E⟩
  ·rw[q,Option.bind_some,if_neg (by decide),Option.bind_some,if_neg (by decide)]
   rcases zgZ R w.ticket with ⟨r,F⟩|⟨a6,a,r,B,E⟩
   ·rw[r]
    rcases zge S.held w.ticket with ⟨k,G⟩|⟨a7,K,k,H,y⟩
    ·rw[k]
     exact⟨_,rfl,fun _=>⟨W,F⟩,rfl⟩
    ·exact absurd y (F K (b.held.mem_iff.1 (List.mem_of_getElem? H)))
   ·rw[r]
    rcases zge S.held w.ticket with ⟨k,G⟩|⟨a7,K,k,H,y⟩
    ·exact absurd E (G a (b.held.mem_iff.2 (List.mem_of_getElem? B)))
    ·rw[k]
     refine⟨true,congrArg some (decide_eq_true (by omega)),(fun f=>by cases f),congrArg some (decide_eq_true (by omega))⟩
  ·rw[q,Option.bind_some,if_pos (by simp),Option.bind_some,if_pos (by simp)]
   exact⟨_,rfl,(fun f=>by cases f),rfl⟩
 cases g with
 | true =>
  refine l 6 R ?_ ?_ (by decide) rfl
  ·unfold ZF
   rw[h,Option.bind_some,if_neg e,o]
   rfl
  ·unfold qt
   rw[i,Option.bind_some,if_neg e,n]
   rfl
 | false =>
  by_cases s:(200:Int)≤(R.waiting.length:Int)
  ·refine l 4 R ?_ ?_ (by decide) rfl
   ·unfold ZF
    rw[h,Option.bind_some,if_neg e,o,Option.bind_some,if_neg (by decide),if_pos (by simpa using s)]
    rfl
   ·unfold qt
    rw[i,Option.bind_some,if_neg e,n,Option.bind_some,if_neg (by decide),if_pos (by rw[b.wait];simp;omega)]
    rfl
  by_cases p:m<w.since
  ·refine l 2 R ?_ ?_ (by decide) rfl
   ·unfold ZF
    rw[h,Option.bind_some,if_neg e,o,Option.bind_some,if_neg (by decide),if_neg (by simpa using s),if_pos (by simpa using p)]
    rfl
   ·unfold qt
    rw[i,Option.bind_some,if_neg e,n,Option.bind_some,if_neg (by decide),if_neg (by rw[b.wait];simp;omega),if_pos (by simpa using p)]
    rfl
  have P:=U j
  have b1:=(P.2 0 w (by simp) rfl).2.1.2.2.2.2
  have X:zJ w.needs=some w.needs:=by
   unfold zJ zC
   rw[if_pos (by simp;omega)]
   rfl
  have Z:zW R.waiting=some R.waiting:=by
   unfold zW zC
   rw[if_pos (by simp;omega)]
   rfl
  have I:zC 2199023255552 R.waiting [w]=some (R.waiting++[w]):=by
   unfold zC
   rw[if_pos (by rw[List.length_singleton];omega)]
  have Q:(⟨w.ticket,w.weight,w.urgency,w.since,w.former,w.needs⟩:za)=w:=rfl
  have J:(Option.bind (ZF w R m) fun a=>some (a.1,a.2.2))=some (0,⟨R.assigner,R.now,R.waiting++[w],R.held,QH R.work w.ticket w⟩):=by
   unfold ZF
   rw[h,Option.bind_some,if_neg e,o,Option.bind_some,if_neg (by decide),if_neg (by simpa using s),if_neg (by simpa using p)]
   rw[X,Option.bind_some,Z,Option.bind_some,Q,I]
   rfl
  obtain⟨a0,a1⟩:=T.at_ f J
  refine⟨0,_,⟨0,S.steps,S.now,S.held,S.waiting++[w],QH S.works w.ticket w⟩,D.away,J,?_,.inr ⟨rfl,a0,a1,⟨b.dp,b.dc,b.aw,b.yes,b.stp,by rw[b.wait],b.held,b.sort,fun t=>?_⟩⟩⟩
  ·unfold qt
   rw[i,Option.bind_some,if_neg e,n,Option.bind_some,if_neg (by decide),if_neg (by rw[b.wait];simp;omega),if_neg (by simpa using p),b.wait,I]
   rfl
  ·dsimp only
   rw[zbl,zbl,b.work t]
theorem zoR(k:RInv people cals steps m R)(j:Sim people R S D)(no:Int):(pos people no<0∧∀a,QJ R no a=some (0,7))∨∃(i:Nat) (b:ze),pos people no=(i:Int)∧people[i]?=some b∧b.no=no∧R.assigner.away[i]?=some ((zu D.away no).getD false)∧∀a,QJ R no a=some (if (zu D.away no).getD false=a then ((i:Int),0) else (0,11)):=by{unfold QJ;rw[k.ppl,zfg];simp only[Option.bind_some];by_cases d:pos people no<0;exact .inl ⟨d,fun a=>by rw[if_pos (by simpa using d)]⟩;obtain⟨i,b,f,g,h⟩:=zlq (people:=people) (no:=no) (by omega);have e:=j.aw i b g;rw[h]at e;refine .inr ⟨i,b,f,g,h,e,fun a=>?_⟩;rw[if_neg (by simpa using d),f,Zg,e,Option.bind_some];by_cases c:(zu D.away no).getD false=a;rw[if_pos c,if_neg (by simpa using c)];rw[if_neg c,if_pos (by simpa using c)]}
theorem znI(m:zay people){h:List Bool}{aw d:List (Int×Bool)}(i:zkJ people h aw){k:Nat}{c:ze}(f:people[k]?=some c)(b:Bool)(n:(zu d c.no).getD false=b)(o:∀g,g≠c.no→zu d g=zu aw g):zkJ people (h.set k b) d:=fun j l a=>by
 rw[List.getElem?_set]
 by_cases e:k=j
 ·subst e
  rw[f]at a
  cases a
  have:=(List.getElem?_eq_some_iff.1 (i k c f)).1
  rw[if_pos rfl,if_pos this,n]
 ·rw[if_neg e,i j l a,o l.no (fun p=>e (zgI m f a p.symm))]
theorem zof(l:zay people)(no:Int):Acts people cals steps m (fun R=>qK R no) (fun S D=>Option.bind (Jc D.people no) fun k=>Option.bind (if (decide ((0:Int)≤k))=true then Option.bind (if ((zu D.away no).getD false)=true then some (0,S,(zam D.away no)) else some (11,S,D.away)) fun e=>some (e.1,e.2.1,e.2.2) else some (7,S,D.away)) fun f=>some (f.1,f.2.1,f.2.2)):=fun R S D d a=>by
 dsimp only
 have n:=zoI (people:=people) (cals:=cals) (steps:=steps) (m:=m) no
 rw[zjW,Option.bind_some,a.dp,d.ppl]
 rcases zoR d a no with ⟨g,b⟩|⟨t,w,g,o,h,i,b⟩
 ·rw[if_neg (by simpa using g)]
  refine⟨7,R,S,D.away,?_,rfl,.inl ⟨by decide,rfl⟩⟩
  unfold qK
  rw[b true]
  rfl
 ·rw[if_pos (by rw[g];simp)]
  have p:=(List.getElem?_eq_some_iff.1 i).1
  cases hb:(zu D.away no).getD false with
  | false =>
   rw[if_neg (by decide)]
   refine⟨11,R,S,D.away,?_,rfl,.inl ⟨by decide,rfl⟩⟩
   unfold qK
   rw[b true,if_neg (by rw[hb];decide)]
   rfl
  | true =>
   rw[if_pos rfl]
   have j:qK R no=some (0,⟨⟨R.assigner.people,R.assigner.cals,R.assigner.steps,R.assigner.away.set t false⟩,R.now,R.waiting,R.held,R.work⟩):=by
    unfold qK
    rw[b true,if_pos hb,Option.bind_some,if_pos (by rfl)]
    dsimp only
    rw[Zg,i,Option.bind_some,Jf _ _ _ p]
    rfl
   obtain⟨q,r⟩:=n.at_ d j
   refine⟨0,_,S,zam D.away no,j,rfl,.inr ⟨rfl,q,r,⟨d.ppl.symm,a.dc,?_,fun u v c=>?_,a.stp,a.wait,a.held,a.sort,a.work⟩⟩⟩
   ·refine znI l a.aw o false ?_ fun x s=>?_
    ·dsimp only
     rw[zhy,h,if_pos rfl]
     rfl
    ·dsimp only
     rw[zhy,if_neg (fun b=>s (b.symm.trans h.symm))]
   ·dsimp only at c
    rw[zhy]at c
    split at c
    ·cases c
    ·exact a.yes u v c
end
end Go.Proofs.YtdpmeckhhcjoiaaGreatDoor.M
namespace Go.Proofs.YtdpmeckhhcjoiaaGreatDoor.M
open Go Go.Pu
set_option linter.unusedSimpArgs false
set_option linter.unusedVariables false
def zpV(work:List (Int×za))(no:Int)(h:zb):za :=
 (⟨((zu work h.ticket).getD (⟨0,0,0,0,0, []⟩)).ticket,((zu work h.ticket).getD (⟨0,0,0,0,0, []⟩)).weight,((zu work h.ticket).getD (⟨0,0,0,0,0, []⟩)).urgency,((zu work h.ticket).getD (⟨0,0,0,0,0, []⟩)).since,no,((zu work h.ticket).getD (⟨0,0,0,0,0, []⟩)).needs⟩:za)
section
variable{people:List ze}{cals:List zi}{steps:List zt}{t m:Int}{R:zl}{S:zB}{D:zR}
theorem zrh(S:zB)(no:Int)(A:S.held.length≤400)(B:S.waiting.length≤200):
  ∃j,zS (R:=Int×zB×List (Int×Bool)) (fun q a=>Option.bind (Option.bind (idx S.held (q:Int)) fun b=>if (b.person != no)=true then Option.bind (zC 4398046511104 a.1 ([b]:List zb)) fun o=>some (o,a.2) else Option.bind (zC 2199023255552 a.2.waiting ([(⟨((zu a.2.works b.ticket).getD (⟨0,0,0,0,0, []⟩)).ticket,((zu a.2.works b.ticket).getD (⟨0,0,0,0,0, []⟩)).weight,((zu a.2.works b.ticket).getD (⟨0,0,0,0,0, []⟩)).urgency,((zu a.2.works b.ticket).getD (⟨0,0,0,0,0, []⟩)).since,no,((zu a.2.works b.ticket).getD (⟨0,0,0,0,0, []⟩)).needs⟩:za)]:List za)) fun p=>some (a.1,(⟨0,a.2.steps,a.2.now,a.2.held,p,a.2.works⟩:zB))) fun h=>some (.nx (h.1,h.2))) S.held.length 0 (([]:(List zb)),S)=some (.fin (S.held.filter (fun c=>!(c.person==no)),j))∧j.steps=S.steps∧j.now=S.now∧j.works=S.works∧j.waiting=S.waiting++(S.held.filter fun c=>c.person==no).map (zpV S.works no):=by{
 obtain⟨e,z,k,u,l,m,g,f⟩:=ZU (R:=Int×zB×List (Int×Bool)) (b:=(fun q a=>Option.bind (Option.bind (idx S.held (q:Int)) fun b=>if (b.person != no)=true then Option.bind (zC 4398046511104 a.1 ([b]:List zb)) fun o=>some (o,a.2) else Option.bind (zC 2199023255552 a.2.waiting ([(⟨((zu a.2.works b.ticket).getD (⟨0,0,0,0,0, []⟩)).ticket,((zu a.2.works b.ticket).getD (⟨0,0,0,0,0, []⟩)).weight,((zu a.2.works b.ticket).getD (⟨0,0,0,0,0, []⟩)).urgency,((zu a.2.works b.ticket).getD (⟨0,0,0,0,0, []⟩)).since,no,((zu a.2.works b.ticket).getD (⟨0,0,0,0,0, []⟩)).needs⟩:za)]:List za)) fun p=>some (a.1,(⟨0,a.2.steps,a.2.now,a.2.held,p,a.2.works⟩:zB))) fun h=>some (.nx (h.1,h.2))))
  S.held.length (fun d e=>e.1=(S.held.take d).filter (fun c=>!(c.person==no))∧e.1.length≤d∧e.2.steps=S.steps∧e.2.now=S.now∧e.2.works=S.works∧e.2.waiting=S.waiting++((S.held.take d).filter fun c=>c.person==no).map (zpV S.works no)) (s:=(([]:(List zb)),S)) ⟨rfl,by simp,rfl,rfl,rfl,by simp⟩
  (by
   rintro d⟨v,w⟩y⟨k,u,l,m,g,f⟩
   dsimp only at k u l m g f
   have r:S.held[d]?=some S.held[d]:=List.getElem?_eq_getElem y
   generalize S.held[d]=x at r
   have D:((S.held.take d).filter fun c=>c.person==no).length≤d:=Nat.le_trans (List.length_filter_le _ _) (List.length_take_le _ _)
   rw[zdl r,List.filter_append,List.filter_append, ← k]
   generalize (S.held.take d).filter (fun c=>c.person==no)=bk at *
   simp only[Zg,r,Option.bind_some]
   by_cases n:(x.person != no)=true
   ·have i:(x.person==no)=false:=by simpa using n
    have s:zC 4398046511104 v [x]=some (v++[x]):=by
     unfold zC
     rw[if_pos (by rw[List.length_singleton];omega)]
    rw[if_pos n,s]
    refine⟨_,rfl,?_,?_,l,m,g,?_⟩
    ·simp[i]
    ·simp;omega
    ·simp only[List.filter_cons,i,Bool.false_eq_true,if_false,List.filter_nil,List.append_nil]
     exact f
   ·have i:(x.person==no)=true:=by simpa using n
    have s:∀t:za,zC 2199023255552 w.waiting [t]=some (w.waiting++[t]):=fun t=>by
     unfold zC
     rw[if_pos (by rw[f,List.length_append,List.length_map,List.length_singleton];omega)]
    rw[if_neg n,s]
    refine⟨_,rfl,?_,?_,l,m,g,?_⟩
    ·simp[i]
    ·dsimp only;omega
    ·simp only[List.filter_cons,i,if_true,List.filter_nil]
     rw[g,f,List.map_append, ← List.append_assoc]
     rfl)
 rw[List.take_length]at k f;refine⟨e.2,?_,l,m,g,f⟩;rw[z, ← k]}
theorem zpr(l:zay people)(no:Int):Acts people cals steps m (fun R=>qF R no) (fun S D=>Jn S D no):=fun R S D a b=>by
 dsimp only
 have x:=zpx (cals:=cals) (steps:=steps) (m:=m) l no
 have e:=a.hlen
 have y:=a.few
 have T:=b.held.length_eq
 unfold Jn
 rw[zjW,Option.bind_some,b.dp,a.ppl]
 rcases zoR a b no with ⟨f,c⟩|⟨O,a1,f,t,n,o,c⟩
 ·rw[if_pos (by simpa using f)]
  refine⟨7,R,S,D.away,?_,rfl,.inl ⟨by decide,rfl⟩⟩
  unfold qF
  rw[c false]
  rfl
 rw[if_neg (by rw[f];simp)]
 have z:=(List.getElem?_eq_some_iff.1 o).1
 cases hb:(zu D.away no).getD false with
 | true =>
  rw[if_pos rfl]
  refine⟨11,R,S,D.away,?_,rfl,.inl ⟨by decide,rfl⟩⟩
  unfold qF
  rw[c false,if_neg (by rw[hb];decide)]
  rfl
 | false =>
  rw[if_neg (by decide)]
  obtain⟨A,B,E,W,F,p⟩:=zrh S no (by omega) (by rw[b.wait];exact y)
  rw[B,Option.bind_some,Lp.andThen_fin]
  dsimp only
  have k:(S.held.filter fun a=>a.person==no).Perm (R.held.filter fun a=>a.person==no):=b.held.filter _
  have u:(S.held.filter fun a=>!(a.person==no)).Perm (R.held.filter fun a=>!(a.person==no)):=b.held.filter _
  have U:(R.held.filter (fun a=>a.person==no)).length≤400:=Nat.le_trans (List.length_filter_le _ _) e
  have i:(R.held.filter (fun a=>a.person==no)).Sublist R.held:=List.filter_sublist
  have hlen:A.waiting.length=R.waiting.length+(R.held.filter fun a=>a.person==no).length:=by
   rw[p,List.length_append,List.length_map,b.wait,k.length_eq]
  obtain⟨sb,G,g,H⟩:=zfl (R.held.filter fun a=>a.person==no) (by omega) (a.heldA.sublist i)
  have v:sb=S.held.filter fun a=>a.person==no:=zjX (g.trans k.symm) H (b.sort.sublist List.filter_sublist)
  have j:w64 ((R.waiting.length:Int)+((R.held.filter fun a=>a.person==no).length:Int))=(R.waiting.length:Int)+((R.held.filter fun a=>a.person==no).length:Int):=ZB (by omega) (by omega)
  by_cases q:(200:Int)<(R.waiting.length:Int)+((R.held.filter fun a=>a.person==no).length:Int)
  ·rw[if_pos (by rw[hlen];simp;omega)]
   refine⟨4,R,_,_,?_,rfl,.inl ⟨by decide,rfl⟩⟩
   unfold qF
   rw[c false,if_pos hb,Option.bind_some,if_neg (by simp),zjw no R.held e,Option.bind_some,Lp.andThen_fin]
   dsimp only
   rw[j,if_pos (by simpa using q)]
  ·rw[if_neg (by rw[hlen];simp;omega)]
   have I:zW R.waiting=some R.waiting:=by
    unfold zW zC
    rw[if_pos (by simp;omega)]
    rfl
   have r:qF R no=some (0,⟨⟨R.assigner.people,R.assigner.cals,R.assigner.steps,R.assigner.away.set O true⟩,R.now,R.waiting++sb.map (zgW R.work no),R.held.filter fun a=>!(a.person==no),R.work⟩):=by
    have Q:=g.length_eq
    unfold qF
    rw[c false,if_pos hb,Option.bind_some,if_neg (by simp),zjw no R.held e,Option.bind_some,Lp.andThen_fin]
    dsimp only
    rw[j,if_neg (by simpa using q),G,Option.bind_some,I,Option.bind_some,znf R.work no sb R.waiting (by omega),Option.bind_some,Lp.andThen_fin,Zg,o,Option.bind_some,Jf _ _ _ z]
    rfl
   obtain⟨J,K⟩:=x.at_ a r
   refine⟨0,_,_,_,r,rfl,.inr ⟨rfl,J,K,⟨a.ppl.symm,b.dc,?_,fun h s d=>?_,E.trans b.stp,?_,u,b.sort.sublist List.filter_sublist,fun h=>by dsimp only;rw[F];exact b.work h⟩⟩⟩
   ·refine znI l b.aw t true ?_ fun a2 w=>?_
    ·dsimp only
     rw[zbl,n,if_pos rfl]
     rfl
    ·dsimp only
     rw[zbl,if_neg (fun c=>w (c.symm.trans n.symm))]
   ·dsimp only at d
    rw[zbl]at d
    split at d
    ·cases d;rfl
    ·exact b.yes h s d
   ·dsimp only
    rw[p,b.wait, ← v]
    congr 1
    refine List.map_congr_left fun P L=>?_
    obtain⟨s,M,X,N,Z,a0⟩:=a.workH P (i.subset (g.mem_iff.1 L))
    unfold zpV zgW
    rw[b.work,M, ← N]
    rfl
end
end Go.Proofs.YtdpmeckhhcjoiaaGreatDoor.M
namespace Go.Proofs.YtdpmeckhhcjoiaaGreatDoor.M
open Go Go.Pu
set_option linter.unusedSimpArgs false
set_option linter.unusedVariables false
section
variable{people:List ze}{cals:List zi}{steps:List zt}{m:Int}{R:zl}{X:ZO}
structure Keep(people:List ze)(cals:List zi)(steps:List zt)(R:zl)(X:ZO):Prop where
 inv:RInv people cals steps R.now R
 idle:Idle people cals steps R.now R
 sim:Sim people R X.r X.d
 now:X.r.now=R.now
 at_:0≤R.now∧R.now≤3000000
theorem zrt(a:Keep people cals steps R X):JC X.r X.d=some (X.r.held,X.r.waiting):=by{have b:=a.inv.hlen;have c:=a.inv.few;have d:=a.sim.held.length_eq;unfold JC Zl zW zC;rw[a.sim.wait,if_pos (by simp;omega),if_pos (by simp;omega)];rfl}
abbrev cpR(X:ZO):zB:=⟨0,X.r.steps,X.r.now,X.r.held,X.r.waiting,X.r.works⟩
abbrev cpD(X:ZO):zR:=⟨X.d.people,X.d.clocks,allT X.d.away⟩
theorem zrD(a:Sim people R X.r X.d):Sim people R (cpR X) (cpD X):=by{
 refine⟨a.dp,a.dc,fun c e d=>?_,fun c f d=>?_,a.stp,a.wait,a.held,a.sort,a.work⟩;rw[a.aw c e d];show _=some ((zu (allT X.d.away) e.no).getD false);rw[ziS];cases he:zu X.d.away e.no with
 | none=>rfl
 | some f=>rw[a.yes _ _ he];rfl
 have b:zu (allT X.d.away) c=some f:=d;rw[ziS]at b;cases he:zu X.d.away c with
 | none=>rw[he]at b;cases b
 | some u=>rw[he]at b;cases b;rfl}
noncomputable def zdL(X:ZO)(m:Int)(ref:zB→zR→Option (Int×zB×List (Int×Bool))):Option ((List zb)×Int×ZO) :=
 Option.bind (JC X.r X.d) fun x27 =>
 Option.bind (JJ (⟨0,X.r.steps,X.r.now,x27.1,x27.2,X.r.works⟩:zB) (⟨X.d.people,X.d.clocks,(allT X.d.away)⟩:zR) m) fun x38 =>
 Option.bind (ref x38.2 (⟨X.d.people,X.d.clocks,(allT X.d.away)⟩:zR)) fun s53 =>
 if (s53.1 != 0)=true then
  some (([]:(List zb)),s53.1,X)
 else
  Option.bind (qQ s53.2.1 (⟨X.d.people,X.d.clocks,s53.2.2⟩:zR) m) fun x223 =>
  Option.bind (zC 4398046511104 x38.1 x223.1) fun x237 =>
  some (x237,0,(⟨x223.2,(⟨X.d.people,X.d.clocks,s53.2.2⟩:zR)⟩:ZO))
theorem zqI(l:RtOK people cals steps)(e:Keep people cals steps R X)(O:m≤3000000)(I:R.now≤m){i:zl→Option (Int×zl)}{j:zB→zR→Option (Int×zB×List (Int×Bool))}(P:Acts people cals steps m i j):
  ∃u f v w,qY R m i=some (u,f,v)∧zdL X m j=some (u,f,w)∧Keep people cals steps v w:=by{
 have Q:=e.at_;have S:(!(zw m 0 3000000))=false:=by simp[zw];omega
 have J:decide (m<R.now)=false:=decide_eq_false (by omega);obtain⟨x,T,K⟩:=znG l e.inv R.now (by omega);obtain⟨out,b8,y,b9,d,U,W,z,b,Z,a0,a1,a2⟩:=zso l O (m-R.now).toNat R.now R.held [] x R (cpR X) (Nat.le_refl _) Q.1 I e.inv e.idle (zrD e.sim) (List.append_nil _).symm K;have F:w64 (R.now+1)=R.now+1:=ZB (by omega) (by omega)
 have L:JJ (⟨0,X.r.steps,X.r.now,X.r.held,X.r.waiting,X.r.works⟩:zB) (⟨X.d.people,X.d.clocks,(allT X.d.away)⟩:zR) m=some (out,⟨0,d.steps,m,d.held,d.waiting,d.works⟩):=by
  unfold JJ
  dsimp only
  rw[show w64 (X.r.now+1)=R.now+1 by rw[e.now,F]]
  show Option.bind (Jr (refF (cpD X) m) (([]:List zb),R.now+1,(cpR X))) _=_
  rw[W,Option.bind_some,Lp.andThen_fin]
 have M:Sim people y (⟨0,d.steps,m,d.held,d.waiting,d.works⟩:zB) (cpD X):=⟨b.dp,b.dc,b.aw,b.yes,b.stp,b.wait,b.held,b.sort,b.work⟩;obtain⟨f,a,A,h,a3,a4,a5⟩:=P y _ _ z M
 have p:∀g,(if (f != 0)=true then some (([]:(List zb)),f,(⟨a.assigner,a.now,R.waiting,R.held,a.work⟩:zl)) else Option.bind (QR (⟨a.assigner,m,a.waiting,a.held,a.work⟩:zl) m) fun q=>Option.bind (zC 4398046511104 out q.1) fun G=>some (G,0,q.2))=g→qY R m i=g:=fun g n=>by
  unfold qY
  rw[S,if_neg (by decide),J,if_neg (by decide),T,Option.bind_some]
  show Option.bind (Jr (zkf m) (([]:List zb),x,R)) _=_
  rw[U,Option.bind_some,Lp.andThen_fin]
  dsimp only
  rw[a3,Option.bind_some]
  exact n
 have r:∀g,(if (f != 0)=true then some (([]:(List zb)),f,X) else Option.bind (qQ A (⟨X.d.people,X.d.clocks,h⟩:zR) m) fun s=>Option.bind (zC 4398046511104 out s.1) fun H=>some (H,0,(⟨s.2,(⟨X.d.people,X.d.clocks,h⟩:zR)⟩:ZO)))=g→zdL X m j=g:=fun g n=>by
  unfold zdL
  rw[zrt e,Option.bind_some]
  dsimp only
  rw[L,Option.bind_some]
  dsimp only
  rw[a4,Option.bind_some]
  exact n
 rcases a5 with ⟨B,rfl⟩|⟨rfl,a6,b5,c⟩;refine⟨[],f,R,X,p _ ?_,r _ ?_,e⟩;rw[if_pos (by simpa using B),Z,a0,a1];rw[if_pos (by simpa using B)];have a7:Sim people (⟨a.assigner,m,a.waiting,a.held,a.work⟩:zl) A ⟨X.d.people,X.d.clocks,h⟩:=⟨c.dp,c.dc,c.aw,c.yes,c.stp,c.wait,c.held,c.sort,c.work⟩;obtain⟨o,D,a8,a9,b0,E,b1,b2,b6,b3,b7,b4,N,_⟩:=zmz l (a6.now m) (m:=m) (by omega) (Int.le_refl _) a7
 have t:zC 4398046511104 out o=some (out++o):=by
  have l1:=z.hlen
  have l2:=E.hlen
  rw[a2,List.length_append]at l1
  rw[b4,List.length_append]at l2
  unfold zC
  rw[if_pos (by omega)]
 have k:D.now=m:=b3;refine⟨out++o,0,D,⟨a8,⟨X.d.people,X.d.clocks,h⟩⟩,p _ ?_,r _ ?_,⟨by rw[k];exact E,by rw[k];exact b1,b2,N.trans k.symm,by omega⟩⟩;rw[if_neg (by simp),a9,Option.bind_some];dsimp only;rw[t,Option.bind_some];rw[if_neg (by simp),b0,Option.bind_some];dsimp only;rw[t,Option.bind_some]}
theorem zgC(l:RtOK people cals steps)(e:Keep people cals steps R X)(m:Int){i:zl→Option (Int×zl)}{j:zB→zR→Option (Int×zB×List (Int×Bool))}(n:(0≤m∧m≤3000000)→Acts people cals steps m i j){h:Option ((List zb)×Int×ZO)}(o:h=if (!(Zx m))=true then some (([]:(List zb)),2,X) else if (decide (m<X.r.now))=true then some (([]:(List zb)),5,X) else zdL X m j):
  ∃b f c d,qY R m i=some (b,f,c)∧h=some (b,f,d)∧Keep people cals steps c d:=by{
 rw[o,e.now];have p:Zx m=zw m 0 3000000:=rfl;rw[p];by_cases k:0≤m∧m≤3000000;rotate_left;have a:(!(zw m 0 3000000))=true:=by simp[zw];omega
 refine⟨[],2,R,X,?_,by rw[if_pos a],e⟩;unfold qY;rw[if_pos a];have a:(!(zw m 0 3000000))=false:=by simp[zw];omega
 by_cases g:m<R.now;refine⟨[],5,R,X,?_,by rw[a,if_neg (by decide),if_pos (by simpa using g)],e⟩;unfold qY;rw[a,if_neg (by decide),if_pos (by simpa using g)];obtain⟨b,f,c,d,q,r,s⟩:=zqI l e k.2 (by omega) (n k);exact⟨b,f,c,d,q,by rw[a,if_neg (by decide),if_neg (by simpa using g)];exact r,s⟩}
end
theorem zpX{people:List ze}{cals:List zi}{steps:List zt}{m:Int}{R:zl}(b:RInv people cals steps m R):∃a,zaU R=some a∧a.Perm R.held∧a.Pairwise fun g h=>g.ticket<h.ticket:=by{
 unfold zaU;have i:=b.hlen
 have c:Zl R.held=some R.held:=by
  unfold Zl
  rw[zcL _ _ (by omega)]
  rfl
 obtain⟨a,d,e,f⟩:=zfl R.held (by omega) b.heldA;rw[c,Option.bind_some,d];exact⟨a,rfl,e,f⟩}
theorem zmO{people:List ze}{cals:List zi}{steps:List zt}{m:Int}{R:zl}(h:RInv people cals steps m R):JB R=some R.waiting:=by{
 unfold JB;have q:=h.few
 have k:zW R.waiting=some R.waiting:=by
  unfold zW
  rw[zcL _ _ (by omega)]
  rfl
 rw[k,Option.bind_some]
 obtain⟨c,o,p⟩:=ZU (R:=List za) (b:=fun e f=>Option.bind (idx f (e:Int)) fun g=>Option.bind (zJ g.needs) fun i=>Option.bind (setI f (e:Int) ({ (g:za)with needs:=i })) fun j=>some (.nx j)) R.waiting.length (fun _ c=>c=R.waiting) rfl
  (by
   rintro d c a rfl
   have b:R.waiting[d]?=some R.waiting[d]:=List.getElem?_eq_getElem a
   have l:=((h.fine _ (List.getElem_mem a)).1).needs.len
   generalize R.waiting[d]=w at b l
   have n:zJ w.needs=some w.needs:=by
    unfold zJ
    rw[zcL _ _ (by omega)]
    rfl
   rw[Zg,b,Option.bind_some,n,Option.bind_some,Jf _ _ _ a,Option.bind_some,zkw b]
   exact⟨_,rfl,rfl⟩)
 rw[o,p];rfl}
theorem znL(l:List zm):Qp l l=some true:=by{
 unfold Qp
 obtain⟨t,e,_⟩:=ZU (R:=Bool) (b:=fun c (_:Unit)=>Option.bind (idx l (c:Int)) fun a=>Option.bind (idx l (c:Int)) fun b=>if (!(qi a.name b.name&&(a.rank==b.rank)))=true then some (.rt false) else some (.nx ())) l.length (fun _ _=>True) (s:=()) trivial
  (fun d g f _=>⟨(),by
   have:qi l[d].name l[d].name=true:=by unfold qi;simp
   simp[zdx _ _ f,this],trivial⟩)
 rw[if_neg (by simp),e];rfl}
theorem zpE(l:List za):zbY l l=some true:=by{
 unfold zbY qg
 have one:∀w:za,zai w w=some true:=fun w=>by
  unfold zai
  simp only[beq_self_eq_true,if_true,znL,Option.bind_some]
 obtain⟨t,e,_⟩:=ZU (R:=Bool) (b:=fun a (_:Unit)=>Option.bind (idx l (a:Int)) fun b=>Option.bind (idx l (a:Int)) fun c=>Option.bind (zai b c) fun d=>if (!d)=true then some (.rt false) else some (.nx ())) l.length (fun _ _=>True) (s:=()) trivial
  (fun g h f _=>⟨(),by simp[zdx _ _ f,one],trivial⟩)
 rw[if_neg (by simp),e];rfl}
theorem zpk(l:List zb):qa l l=some true:=by{
 unfold qa
 obtain⟨t,d,_⟩:=ZU (R:=Bool) (b:=fun c (_:Unit)=>Option.bind (idx l (c:Int)) fun a=>Option.bind (idx l (c:Int)) fun b=>if (!(a.ticket==b.ticket&&(a.person==b.person&&(a.weight==b.weight&&(a.since==b.since)))))=true then some (.rt false) else some (.nx ())) l.length (fun _ _=>True) (s:=()) trivial
  (fun f g e _=>⟨(),by simp[zdx _ _ e],trivial⟩)
 rw[if_neg (by simp),d];rfl}
theorem zrE{S:Type}{body:S→Option (Ctl S Bool)}{s:S}(b:S→Prop)(μ:S→Nat)(e:b s)(d:∀s,b s→body s=some (.rt true)∨(∃t,body s=some (.bk t))∨∃t,body s=some (.nx t)∧b t∧μ t<μ s):Option.bind (Jr body s) (fun i=>i.andThen (fun j=>some j) fun _=>some true)=some true:=by{
 obtain⟨c,a,k⟩:=zey (body:=body) b μ (fun c=>c=.rt true∨∃t,c=.fin t) e fun s f=>by
  rcases d s f with a|⟨t,a⟩|⟨t,a,g,h⟩
  exact⟨_,a,.inl rfl⟩
  exact⟨_,a,.inr ⟨t,rfl⟩⟩
  exact⟨_,a,g,h⟩
 rw[a];rcases k with rfl|⟨t,rfl⟩ <;> rfl}
end Go.Proofs.YtdpmeckhhcjoiaaGreatDoor.M
namespace Go.Proofs.YtdpmeckhhcjoiaaGreatDoor.M
open Go Go.Pu
set_option linter.unusedSimpArgs false
set_option linter.unusedVariables false
theorem zgH{α β γ:Type}(y:Option (α×β×γ)):(Option.bind y fun a=>some (a.1,a.2.1,a.2.2))=y:=by cases y <;> rfl
abbrev kA:ByteArray:=⟨#[97,114,114,105,118,101]⟩
abbrev kF:ByteArray:=⟨#[102,105,110,105,115,104]⟩
abbrev kL:ByteArray:=⟨#[108,101,97,118,101]⟩
abbrev kR:ByteArray:=⟨#[114,101,116,117,114,110]⟩
abbrev kT:ByteArray:=⟨#[116,105,99,107]⟩
theorem k_eq:qi kA kA=true∧qi kF kA=false∧qi kF kF=true∧qi kL kA=false∧qi kL kF=false∧qi kL kL=true∧qi kR kA=false∧qi kR kF=false∧qi kR kL=false∧qi kR kR=true∧qi kT kA=false∧qi kT kF=false∧qi kT kL=false∧qi kT kR=false:=by{refine⟨?_,?_,?_,?_,?_,?_,?_,?_,?_,?_,?_,?_,?_,?_⟩ <;> kernel_rfl}
section
variable(X:ZO)(w:za)(no m:Int)
theorem zsq:ZZ X kA w no m=if (!(Zx m))=true then some (([]:(List zb)),2,X) else if (decide (m<X.r.now))=true then some (([]:(List zb)),5,X) else zdL X m (fun S D=>Option.bind (qt S D w m) fun a=>some (a.1,a.2,D.away)):=by{obtain⟨g,h,i,j,k,l,n,o,p,b,c,d,e,f⟩:=k_eq;unfold ZZ zdL;simp only[g,h,i,j,k,l,n,o,p,b,c,d,e,f,if_true,Bool.false_eq_true,if_false,zgH]}
theorem zsx:ZZ X kF w no m=if (!(Zx m))=true then some (([]:(List zb)),2,X) else if (decide (m<X.r.now))=true then some (([]:(List zb)),5,X) else zdL X m (fun S D=>Option.bind (jY S D no) fun a=>some (a.1,a.2,D.away)):=by{obtain⟨g,h,i,j,k,l,n,o,p,b,c,d,e,f⟩:=k_eq;unfold ZZ zdL;simp only[g,h,i,j,k,l,n,o,p,b,c,d,e,f,if_true,Bool.false_eq_true,if_false,zgH]}
theorem zsu:ZZ X kL w no m=if (!(Zx m))=true then some (([]:(List zb)),2,X) else if (decide (m<X.r.now))=true then some (([]:(List zb)),5,X) else zdL X m (fun S D=>Jn S D no):=by{obtain⟨f,g,h,i,j,k,l,n,o,a,b,c,d,e⟩:=k_eq;unfold ZZ zdL;simp only[f,g,h,i,j,k,l,n,o,a,b,c,d,e,if_true,Bool.false_eq_true,if_false,zgH]}
theorem zsA:ZZ X kR w no m=if (!(Zx m))=true then some (([]:(List zb)),2,X) else if (decide (m<X.r.now))=true then some (([]:(List zb)),5,X) else zdL X m (fun S D=>Option.bind (Jc D.people no) fun c=>Option.bind (if (decide ((0:Int)≤c))=true then Option.bind (if ((zu D.away no).getD false)=true then some (0,S,(zam D.away no)) else some (11,S,D.away)) fun a=>some (a.1,a.2.1,a.2.2) else some (7,S,D.away)) fun b=>some (b.1,b.2.1,b.2.2)):=by{obtain⟨i,j,k,l,n,o,p,q,r,d,e,f,g,h⟩:=k_eq;unfold ZZ zdL;simp only[i,j,k,l,n,o,p,q,r,d,e,f,g,h,if_true,Bool.false_eq_true,if_false,zgH]}
theorem zsC:ZZ X kT w no m=if (!(Zx m))=true then some (([]:(List zb)),2,X) else if (decide (m<X.r.now))=true then some (([]:(List zb)),5,X) else zdL X m (fun S D=>some (0,S,D.away)):=by{obtain⟨f,g,h,i,j,k,l,n,o,a,b,c,d,e⟩:=k_eq;unfold ZZ zdL;simp only[f,g,h,i,j,k,l,n,o,a,b,c,d,e,if_true,Bool.false_eq_true,if_false,zgH]}
end
theorem zrs(people:List ze)(cals:List zi)(steps:List zt)(h:∀l∈people,∀m∈l.skills,m.name.size≤9223372036854775807):
  (∃c,c≠0∧JT people cals steps=some (none,c)∧jo people cals steps=some (none,c))∨(JT people cals steps=some (some ⟨⟨people,cals,steps,List.replicate people.length false⟩,0, [], [], []⟩,0)∧jo people cals steps=some (some ⟨⟨0,steps,0, [], [], []⟩,⟨people,cals, []⟩⟩,0)∧RtOK people cals steps):=by{obtain⟨o,d,i,_⟩:=zrY people cals h;obtain⟨n,j,k,_⟩:=zrB steps;rcases zrx people cals steps h with ⟨c,e,f,a⟩|⟨e,g,a,b,_⟩;refine .inl ⟨c,f,e,?_⟩;unfold jo;rw[i,Option.bind_some];rcases a with a|⟨a,b⟩;rw[d]at a;cases a;rw[if_pos (by simpa using f)];rw[d]at a;cases a;rw[j]at b;cases b;rw[if_neg (by decide),k,Option.bind_some,if_pos (by simpa using f)];refine .inr ⟨e,?_,g⟩;rw[d]at a;cases a;rw[j]at b;cases b;have:=g.duty.most;unfold jo;rw[i,Option.bind_some,if_neg (by decide),k,Option.bind_some,if_neg (by decide),zrm people cals (by omega)];rfl}
theorem zqZ{people:List ze}{cals:List zi}{steps:List zt}(c:RtOK people cals steps):Keep people cals steps ⟨⟨people,cals,steps,List.replicate people.length false⟩,0, [], [], []⟩ ⟨⟨0,steps,0, [], [], []⟩,⟨people,cals, []⟩⟩ :=
 ⟨zrR c,(fun w b=>by cases b),⟨rfl,rfl,(fun d e a=>by simp[zu,(List.getElem?_eq_some_iff.1 a).1]),(fun d f a=>by cases a),rfl,rfl,List.Perm.refl _,List.Pairwise.nil,fun _=>rfl⟩,rfl,⟨Int.le_refl _,(show (0:Int)≤3000000 by decide)⟩⟩
section
variable{people:List ze}{cals:List zi}{steps:List zt}{R:zl}{X:ZO}
theorem zfI{a:List Int}{now m:Int}{i:ByteArray}{w:za}{j:Int}{b:Option (Int×List zb×zl)}{gv:List zb}{e:Int}{R':zl}{f:ZO}(G:4≤a.length)(x:b=some (e,gv,R'))(y:idx a 2=some j)(z:ZZ X i w j m=some (gv,e,f))(c:Keep people cals steps R' f):
  ∃t,(Option.bind b fun d=>Option.bind (idx a 2) fun k=>Option.bind (ZZ X i w k m) fun g=>Option.bind (zap g.2.2) fun h=>Option.bind (if (d.1 != g.2.1)=true then (some true) else (Option.bind (qa d.2.1 g.1) fun l=>if (!l)=true then (some true) else (Option.bind (zca d.2.2) fun n=>if (n != h.2.2)=true then (some true) else (Option.bind (zaU d.2.2) fun o=>Option.bind (qa o h.2.1) fun p=>if (!p)=true then (some true) else (Option.bind (JB d.2.2) fun q=>Option.bind (zbY q h.1) fun r=>some (!r)))))) fun s=>if s=true then some (.rt false) else Option.bind (zcH a (some 4) none) fun u=>some (.nx (u,h.2.2,g.2.2,d.2.2)))=(some (.nx t):Option (Ctl (List Int×Int×ZO×zl) Bool))∧(Keep people cals steps t.2.2.2 t.2.2.1∧t.2.1=t.2.2.2.now)∧t.1.length<a.length:=by{
 have v:zcH a (some 4) none=some (a.drop 4):=by
  unfold zcH zif
  simp
  omega
 obtain⟨H,A,B,D⟩:=zpX c.inv;obtain rfl:=zjX (B.trans c.sim.held.symm) D c.sim.sort;have E:zca R'=some R'.now:=rfl;have F:zap f=some (f.r.waiting,f.r.held,f.r.now):=rfl;rw[x,Option.bind_some,y,Option.bind_some,z,Option.bind_some];dsimp only;rw[F,Option.bind_some];dsimp only;simp only[bne_self_eq_false,Bool.false_eq_true,if_false,zpk,Option.bind_some,Bool.not_true,E,c.now,A,zmO c.inv,c.sim.wait,zpE,v];refine⟨_,rfl,⟨c,rfl⟩,?_⟩;dsimp only;rw[List.length_drop];omega}
end
theorem zqq(people:List ze)(cals:List zi)(steps:List zt)(n:List za)(h:List Int)(L:∀a6∈people,∀a∈a6.skills,a.name.size≤9223372036854775807)(M:∀w∈n,∀a∈w.needs,a.name.size≤9223372036854775807):zcJ people cals steps n h=some true:=by{
 unfold zcJ;rcases zrs people cals steps L with ⟨b,N,u,v⟩|⟨u,v,l⟩;rw[u,Option.bind_some];dsimp only;rw[v,Option.bind_some];dsimp only;rw[if_pos (by simpa using N)];simp;rw[u,Option.bind_some];dsimp only;rw[v,Option.bind_some];dsimp only;rw[if_neg (by decide)];have y:=l.duty.ppl;refine zrE (fun p=>Keep people cals steps p.2.2.2 p.2.2.1∧p.2.1=p.2.2.2.now) (fun p=>p.1.length) ⟨zqZ l,rfl⟩ ?_;rintro⟨h,now,X,R⟩⟨q,B⟩;dsimp only at q B ⊢;by_cases z:(4:Int)≤(h.length:Int);rotate_left;rw[if_neg (by simpa using z)];exact .inr (.inl ⟨_,rfl⟩);rw[if_pos (by simpa using z)];obtain⟨O,P,_⟩:=ziq (l:=h) (i:=3) (by decide) (by omega);obtain⟨i,j,_⟩:=ziq (l:=h) (i:=2) (by decide) (by omega);obtain⟨o,Q,_⟩:=ziq (l:=h) (i:=1) (by decide) (by omega);obtain⟨k,S,_⟩:=ziq (l:=h) (i:=0) (by decide) (by omega)
 obtain⟨w,T,E⟩:∃w,(if ((decide ((0:Int)≤o))&&(decide (o<(n.length:Int))))=true then Option.bind (idx n o) fun D=>some D else some (⟨0,0,0,0,0,([]:(List zm))⟩:za))=some w∧∀a∈w.needs,a.name.size≤9223372036854775807:=by
  by_cases s:0≤o∧o<(n.length:Int)
  obtain⟨w,A,_⟩:=ziq (l:=n) (i:=o) s.1 s.2
  exact⟨w,by rw[if_pos (by simpa using s),A];rfl,M w (zsa A)⟩
  exact⟨_,by rw[if_neg (by simpa using s)],fun a x=>by cases x⟩
 rw[P,Option.bind_some,Q,Option.bind_some,T,Option.bind_some,S,Option.bind_some]
 obtain⟨a,x,F⟩:∃a:Nat,Int.tmod (w64 ((Int.tmod k 5)+5)) 5=(a:Int)∧a<5:=by
  have a7 : -5<Int.tmod k 5:=by have:=Int.lt_tmod_of_pos k (show (0:Int)<5 by decide);omega
  have a8:Int.tmod k 5<5:=Int.tmod_lt_of_pos k (by decide)
  rw[ZB (by omega) (by omega)]
  have a9:0≤Int.tmod (Int.tmod k 5+5) 5:=Int.tmod_nonneg 5 (by omega)
  have b0:Int.tmod (Int.tmod k 5+5) 5<5:=Int.tmod_lt_of_pos _ (by decide)
  exact⟨(Int.tmod (Int.tmod k 5+5) 5).toNat,by omega,by omega⟩
 rw[x];have r:4≤h.length:=by omega
 obtain⟨U,W,Z,a0,a1,a2,a3,a4,a5,G,H,I,J,K⟩:=k_eq;generalize w64 (now+O)=m;right;right;match a,F with
 | 0,_ =>
  rw[show idx ([kA,kF,kL,kR,kT]:List ByteArray) ((0:Nat):Int)=some kA from rfl,Option.bind_some]
  obtain⟨c,b,d,t,e,f,g⟩:=zgC l q m (fun _=>zoE (m:=m) w E) (zsq X w i m)
  refine zfI (m:=m) (now:=now) r (gv:=c) (e:=b) (R':=d) ?_ j f g
  rw[if_pos U]
  unfold zcq
  rw[e]
  rfl
 | 1,_ =>
  rw[show idx ([kA,kF,kL,kR,kT]:List ByteArray) ((1:Nat):Int)=some kF from rfl,Option.bind_some]
  obtain⟨c,b,d,t,e,f,g⟩:=zgC l q m (fun _=>zox (m:=m) i) (zsx X w i m)
  refine zfI (m:=m) (now:=now) r (gv:=c) (e:=b) (R':=d) ?_ j f g
  rw[W,if_neg (by decide),if_pos Z,j,Option.bind_some]
  unfold zco
  rw[e]
  rfl
 | 2,_ =>
  rw[show idx ([kA,kF,kL,kR,kT]:List ByteArray) ((2:Nat):Int)=some kL from rfl,Option.bind_some]
  obtain⟨c,b,d,t,e,f,g⟩:=zgC l q m (fun _=>zpr (m:=m) y i) (zsu X w i m)
  refine zfI (m:=m) (now:=now) r (gv:=c) (e:=b) (R':=d) ?_ j f g
  rw[a0,if_neg (by decide),a1,if_neg (by decide),if_pos a2,j,Option.bind_some]
  unfold zcI
  rw[e]
  rfl
 | 3,_ =>
  rw[show idx ([kA,kF,kL,kR,kT]:List ByteArray) ((3:Nat):Int)=some kR from rfl,Option.bind_some]
  obtain⟨c,b,d,t,e,f,g⟩:=zgC l q m (fun _=>zof (m:=m) y i) (zsA X w i m)
  refine zfI (m:=m) (now:=now) r (gv:=c) (e:=b) (R':=d) ?_ j f g
  rw[a3,if_neg (by decide),a4,if_neg (by decide),a5,if_neg (by decide),if_pos G,j,Option.bind_some]
  unfold zcr
  rw[e]
  rfl
 | 4,_ =>
  rw[show idx ([kA,kF,kL,kR,kT]:List ByteArray) ((4:Nat):Int)=some kT from rfl,Option.bind_some]
  obtain⟨c,b,d,t,e,f,g⟩:=zgC l q m (fun _=>zqM (m:=m)) (zsC X w i m)
  refine zfI (m:=m) (now:=now) r (gv:=c) (e:=b) (R':=d) ?_ j f g
  rw[H,if_neg (by decide),I,if_neg (by decide),J,if_neg (by decide),K,if_neg (by decide)]
  unfold zcR
  rw[e]
  rfl}
end Go.Proofs.YtdpmeckhhcjoiaaGreatDoor.M
