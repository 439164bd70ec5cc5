import Derived.Test.YtdpmeckhhcjoiaaGreatDoorRouteRunsRnB
namespace Go.Proofs.YtdpmeckhhcjoiaaGreatDoor.M
open Go Go.Pu
set_option linter.unusedSimpArgs false
set_option linter.unusedVariables false
abbrev ziH(c:zi):Prop:=zbB c∧ZY c=some 0
noncomputable def opn(c:zi)(m:Int):Bool:=match zax c m with
 | some (b,_)=>b
 | none=>false
theorem zmv{c:Int→Prop}{a b:Int}(f:zpq c a b [])(m:Int)(d:a≤m)(e:m<b):¬c m:=by{rw[f.all m d e];simp}
theorem zkG{f:Int→Prop}{a b:Int}{x:zT}{l:List zT}(e:zpq f a b (x::l)):(a≤x.from_∧x.from_<x.to_∧x.to_≤b)∧(∀m,a≤m→m<x.from_→¬f m)∧(∀m,x.from_≤m→m<x.to_→f m)∧(x.to_<b→¬f x.to_):=by{have j:=e.each x (by simp);have h:=(List.pairwise_cons.1 e.apart).1;refine⟨j,fun m d i=>?_,fun m d i=>(e.all m (by omega) (by omega)).2 ⟨x,by simp,d,i⟩,fun d=>?_⟩;rw[e.all m d (by omega)];rintro⟨g,c,k,n⟩;rcases List.mem_cons.1 c with rfl|c;omega;have:=h g c;omega;rw[e.all _ (by omega) d];rintro⟨g,c,k,n⟩;rcases List.mem_cons.1 c with rfl|c;omega;have:=h g c;omega}
theorem zmb{c:zi}(b:ziH c)(m:Int)(g:0≤m∧m≤3000000):zax c m=some (opn c m,0)∧(opn c m=true↔Opn c m):=by{
 suffices a:∃d,zax c m=some (d,0)∧(d=true↔Opn c m) by
  obtain⟨d,h,a⟩:=a
  unfold opn
  rw[h]
  exact⟨rfl,a⟩
 have f:=zjK b.1 m (m+1) (by omega) (by omega);have e:=f.all m (Int.le_refl _) (by omega);unfold zax;simp only[b.2,Option.bind_some,zlQ,zjt g,ne_eq,not_true,if_false,bne_self_eq_false,Bool.false_eq_true,Je];rw[ZB (n:=m+1) (by omega) (by omega),zkx b.1 m (m+1) (by omega) (by omega)];cases hl:ziE c m (m+1) with
 | nil =>
  refine⟨false,by simp[jH],fun a=>(by cases a),fun a=>?_⟩
  have:=e.1 a
  rw[hl]at this
  simp at this
 | cons x l =>
  have i:=f.each x (by rw[hl];simp)
  exact⟨true,by simp[jH,zaB],fun _=>e.2 ⟨x,by rw[hl];simp,by omega,by omega⟩,fun _=>rfl⟩}
theorem zmY{c:zi}(a:ziH c)(m:Int)(b:0≤m∧m≤3000000):zax c m=some (opn c m,0):=(zmb a m b).1
theorem zfx{c:zi}(a:ziH c)(m:Int)(b:0≤m∧m≤3000000):opn c m=true↔Opn c m:=(zmb a m b).2
theorem znl{c:zi}(b:ziH c)(m:Int)(k:0≤m∧m≤3000000):∃d g,zaK c m=some (d,g)∧(g=0→m≤d∧d≤3000000∧opn c d=true∧∀a,m≤a→a<d→opn c a=false)∧(g≠0→∀a,m≤a→a≤3000000→opn c a=false):=by{
 have e:=zjK b.1 m 3000001 (by omega) (by omega);unfold zaK;simp only[b.2,zjt k,zlQ,ne_eq,not_true,if_false,bne_self_eq_false,Bool.false_eq_true,Je,Option.bind_some];rw[zkx b.1 m 3000001 (by omega) (by omega)];cases hl:ziE c m 3000001 with
 | nil =>
  rw[hl]at e
  refine⟨0,7,by simp[jH],fun h=>absurd h (by decide),fun _ a f i=>?_⟩
  have:=zmv e a f (by omega)
  rw[← Bool.not_eq_true,zfx b a (by omega)]
  exact this
 | cons x l =>
  rw[hl]at e
  obtain⟨j,n,o,p⟩:=zkG e
  refine⟨x.from_,0,by simp[jH,zaB],fun _=>⟨j.1,by omega,(zfx b _ (by omega)).2 (o _ (Int.le_refl _) j.2.1),fun a f i=>?_⟩,fun h=>absurd rfl h⟩
  rw[← Bool.not_eq_true,zfx b a (by omega)]
  exact n a f i}
theorem zlz{c:zi}(d:ziH c)(m:Int)(e:0≤m∧m≤3000000):∃f k,Ja c m=some (f,k)∧(k=0→m≤f∧f≤3000000∧opn c f=false∧∀a,m≤a→a<f→opn c a=true)∧(k≠0→∀a,m≤a→a≤3000000→opn c a=true):=by{
 have g:=zjK d.1 m 3000001 (by omega) (by omega);unfold Ja;simp only[d.2,zjt e,zlQ,ne_eq,not_true,if_false,bne_self_eq_false,Bool.false_eq_true,Je,Option.bind_some];rw[zkx d.1 m 3000001 (by omega) (by omega)]
 have no:∀a,0≤a∧a≤3000000→¬Opn c a→opn c a=false:=fun a q b=>by
  rw[← Bool.not_eq_true,zfx d a q]
  exact b
 cases hl:ziE c m 3000001 with
 | nil =>
  rw[hl]at g
  refine⟨m,0,by simp[jH,show ¬(3000000:Int)<m by omega],fun _=>⟨Int.le_refl _,e.2,no m e (zmv g m (Int.le_refl _) (by omega)),fun a j i=>by omega⟩,fun b=>absurd rfl b⟩
 | cons x l =>
  rw[hl]at g
  obtain⟨t,r,n,s⟩:=zkG g
  by_cases o:x.from_=m
  have h:(x.from_==m)=true:=by simpa using o
  by_cases p:(3000000:Int)<x.to_
  refine⟨0,7,by simp[jH,zaB,h,p],fun b=>absurd b (by decide),fun _ a j i=>(zfx d a (by omega)).2 (n a (by omega) (by omega))⟩
  refine⟨x.to_,0,by simp[jH,zaB,h,p],fun _=>⟨by omega,by omega,no _ (by omega) (s (by omega)),fun a j i=>(zfx d a (by omega)).2 (n a (by omega) i)⟩,fun b=>absurd rfl b⟩
  have h:(x.from_==m)=false:=by simpa using o
  refine⟨m,0,by simp[jH,zaB,h,show ¬(3000000:Int)<m by omega],fun _=>⟨Int.le_refl _,e.2,no m e (r m (Int.le_refl _) (by omega)),fun a j i=>by omega⟩,fun b=>absurd rfl b⟩}
noncomputable def onB(cals:List zi)(m:Int)(p:ze):Bool:=match idx cals p.calendar with
 | some c=>opn c m
 | none=>false
end Go.Proofs.YtdpmeckhhcjoiaaGreatDoor.M
namespace Go.Proofs.YtdpmeckhhcjoiaaGreatDoor.M
open Go Go.Pu
set_option linter.unusedSimpArgs false
set_option linter.unusedVariables false
theorem Jf{α:Type}(l:List α)(k:Nat)(x:α)(a:k<l.length):setI l (k:Int) x=some (l.set k x):=by{rw[setI,if_pos ⟨by omega,by simpa using a⟩,Int.toNat_natCast]}
theorem zdl{α:Type}{l:List α}{k:Nat}{x:α}(a:l[k]?=some x):l.take (k+1)=l.take k++[x]:=by{rw[List.take_add_one,a];rfl}
def AllOK(people:List ze)(l:List zb):Prop:=l.length≤1000∧∀h∈l,(1≤h.weight∧h.weight≤20)∧0≤pos people h.person
def wOf(l:List zb)(no:Int):Int:=(l.map fun h=>if h.person=no then h.weight else 0).sum
def lOf(l:List zb)(no:Int):Int:=l.foldl (fun s h=>if h.person=no then (if s<h.since then h.since else s) else s) (-1)
theorem ziB(l:List zb)(a:zb)(no:Int):wOf (l++[a]) no=wOf l no+if a.person=no then a.weight else 0:=by simp[wOf]
theorem zky(l:List zb)(a:zb)(no:Int):lOf (l++[a]) no=if a.person=no then (if lOf l no<a.since then a.since else lOf l no) else lOf l no:=by{unfold lOf;rw[List.foldl_append];rfl}
theorem zlJ(no:Int):∀a:List zb,(∀b∈a,1≤b.weight∧b.weight≤20)→0≤wOf a no∧wOf a no≤20*(a.length:Int)
 | [],_=>by simp[wOf]
 | b::a,hl=>by
  have ih:=zlJ no a fun d c=>hl d (List.mem_cons_of_mem _ c)
  have f:=hl b List.mem_cons_self
  have e:wOf (b::a) no=(if b.person=no then b.weight else 0)+wOf a no:=by simp[wOf]
  rw[e,List.length_cons]
  split <;> omega
theorem AllOK.bnd{people:List ze}{l:List zb}(a:AllOK people l)(no:Int):0≤wOf l no∧wOf l no≤20000:=by{have:=zlJ no l fun c b=>(a.2 c b).1;have:=a.1;omega}
theorem AllOK.bndT{people:List ze}{l:List zb}(a:AllOK people l)(no:Int)(k:Nat):0≤wOf (l.take k) no∧wOf (l.take k) no≤20000:=by{
 have d:=zlJ no (l.take k) fun c b=>(a.2 c (List.mem_of_mem_take b)).1;have:=a.1;have e:(l.take k).length≤l.length:=by rw[List.length_take];omega
 omega}
theorem zkq{people:List ze}{held:List zb}(q:zay people)(r:AllOK people held):∃f,zct people held=some f∧f.length=people.length∧∀(i:Nat) (a:ze),people[i]?=some a→f[i]?=some (wOf held a.no):=by{
 unfold zct
 have y:JS 35184372088832 (people.length:Int) (0:Int)=some (List.replicate people.length 0):=by
  have:=q.1
  rw[JS,if_pos (by omega),Int.toNat_natCast]
 rw[y];simp only[Option.bind_some]
 obtain⟨t,E,F,s⟩:=ZU (R:=List Int) (b:=(fun z k=>Option.bind (idx held (z:Int)) fun l=>Option.bind (JI people l.person) fun m=>Option.bind (idx k m) fun A=>Option.bind (setI k m (w64 (A+l.weight))) fun B=>some (.nx B)))
  held.length (fun b j=>j.length=people.length∧∀(i:Nat) (a:ze),people[i]?=some a→j[i]?=some (wOf (held.take b) a.no)) (s:=List.replicate people.length 0)
  ⟨by simp,fun i a c=>by
   have:=(List.getElem?_eq_some_iff.1 c).1
   simp[wOf,this]⟩
  (by
   rintro b j u⟨G,v⟩
   have g:held[b]?=some held[b]:=List.getElem?_eq_getElem u
   obtain⟨H,n⟩:=r.2 _ (List.getElem_mem u)
   generalize held[b]=x at g H n
   obtain⟨w,d,I,h,J⟩:=zlq n
   have o:=v w d h
   have p:=(List.getElem?_eq_some_iff.1 o).1
   have K:=r.bndT d.no b
   have D:w64 (wOf (held.take b) d.no+x.weight)=wOf (held.take b) d.no+x.weight:=ZB (by omega) (by omega)
   simp only[Zg,g,zfg,I,o,D,Jf _ _ _ p,Option.bind_some]
   refine⟨_,rfl,by simpa using G,fun i a c=>?_⟩
   rw[zdl g,ziB,List.getElem?_set]
   by_cases e:w=i
   ·subst e
    rw[h]at c
    cases c
    rw[if_pos rfl,if_pos p,if_pos J.symm]
   ·rw[if_neg e,v i a c]
    have:¬x.person=a.no:=fun L=>e (zgI q h c (by omega))
    rw[if_neg this,Int.add_zero])
 rw[E];rw[List.take_length]at s;exact⟨t,rfl,F,s⟩}
noncomputable def zdo(people:List ze)(cals:List zi)(away:List Bool)(m:Int)(k:Nat):Bool:=match people[k]?,away[k]? with
 | some p,some b=>onB cals m p&&!b
 | _,_=>false
structure zfL(people:List ze)(dt:Nat→Bool)(all:List zb)(d:Zz):Prop where
 ppl:d.people=people
 dty:∀(i:Nat) (p:ze),people[i]?=some p→d.duty[i]?=some (dt i)
 wlen:d.weights.length=people.length
 wei:∀(i:Nat) (p:ze),people[i]?=some p→d.weights[i]?=some (wOf all p.no)
 llen:d.latest.length=people.length
 lat:∀(i:Nat) (p:ze),people[i]?=some p→d.latest[i]?=some (lOf all p.no)
theorem zqf{R:zl}(o:zgN R.assigner.people R.assigner.cals)(a9:R.assigner.away.length=R.assigner.people.length){held:List zb}(D:AllOK R.assigner.people held)(m:Int)(b7:0≤m∧m≤3000000):
  ∃d,zbI R held m=some d∧zfL R.assigner.people (zdo R.assigner.people R.assigner.cals R.assigner.away m) held d:=by{
 obtain⟨⟨people,cals,steps,j⟩,now,e1,e2,e3⟩:=R;dsimp only at o a9 D ⊢;have E:=o.ppl;have e7:=E.1;have e8:=o.most;unfold zbI;dsimp only;have b0:JS 281474976710656 (people.length:Int) (false:Bool)=some (List.replicate people.length false):=by rw[JS,if_pos (by omega),Int.toNat_natCast]
 have b1:JS 35184372088832 (people.length:Int) (0:Int)=some (List.replicate people.length 0):=by rw[JS,if_pos (by omega),Int.toNat_natCast]
 have b2:JS 281474976710656 (cals.length:Int) (false:Bool)=some (List.replicate cals.length false):=by rw[JS,if_pos (by omega),Int.toNat_natCast]
 obtain⟨F,b8,b9,c0⟩:=zkq E D;rw[b0,Option.bind_some,b8,Option.bind_some,b1,Option.bind_some,b2,Option.bind_some]
 obtain⟨P,c1,e9,o3⟩:=ZU (R:=Zz) (b:=(fun z L=>Option.bind (idx cals (z:Int)) fun X=>Option.bind (zax X m) fun Z=>Option.bind (idx L (z:Int)) fun e4=>Option.bind (setI L (z:Int) Z.1) fun a0=>some (.nx a0)))
  cals.length (fun a b=>b.length=cals.length∧∀(c:Nat) (h:zi),c<a→cals[c]?=some h→b[c]?=some (opn h m)) (s:=List.replicate cals.length false)
  ⟨by simp,fun c h v=>absurd v (Nat.not_lt_zero _)⟩
  (by
   rintro a b p⟨r,s⟩
   have f:cals[a]?=some cals[a]:=List.getElem?_eq_getElem p
   generalize cals[a]=h at f
   have c2:=zmY (o.each a h f) m b7
   have c3:b[a]?=some b[a]:=List.getElem?_eq_getElem (by omega)
   simp only[Zg,f,Option.bind_some,c2,c3,Jf b a _ (show a<b.length by omega)]
   refine⟨_,rfl,by simpa using r,fun c t c4 A=>?_⟩
   rw[List.getElem?_set]
   by_cases n:a=c
   ·subst n
    rw[f]at A
    cases A
    rw[if_pos rfl,if_pos (by omega)]
   ·rw[if_neg n]
    exact s c t (by omega) A)
 rw[c1,Option.bind_some,Lp.andThen_fin]
 obtain⟨Q,c5,c6,c7,f0,c8,S⟩:=ZU (R:=Zz) (b:=(fun k l=>Option.bind (idx people (k:Int)) fun a1=>Option.bind (idx P a1.calendar) fun a2=>Option.bind (if a2=true then (Option.bind (idx j (k:Int)) fun w=>some (!w)) else (some false)) fun a3=>Option.bind (idx l.duty (k:Int)) fun e5=>Option.bind (setI l.duty (k:Int) a3) fun a4=>Option.bind (idx l.latest (k:Int)) fun e6=>Option.bind (setI l.latest (k:Int) (-1)) fun a5=>some (.nx (⟨l.people,a4,l.weights,a5⟩:Zz))))
  people.length (fun a b=>b.people=people∧b.weights=F∧b.duty.length=people.length∧b.latest.length=people.length∧∀(c:Nat) (e:ze),c<a→people[c]?=some e→b.duty[c]?=some (zdo people cals j m c)∧b.latest[c]?=some (-1))
  (s:=(⟨people,List.replicate people.length false,F,List.replicate people.length 0⟩:Zz))
  ⟨rfl,rfl,by simp,by simp,fun c h v=>absurd v (Nat.not_lt_zero _)⟩
  (by
   rintro a b p⟨r,s,G,H,u⟩
   have f:people[a]?=some people[a]:=List.getElem?_eq_getElem p
   generalize people[a]=e at f
   obtain⟨h,c9,t,f1⟩:=zkb o f
   have b3:idx P e.calendar=some (opn h m):=by
    unfold idx
    rw[if_pos (o.has a e f).1]
    exact o3 _ h (List.getElem?_eq_some_iff.1 t).1 t
   have b4:j[a]?=some j[a]:=List.getElem?_eq_getElem (by omega)
   have a6:(if opn h m=true then (Option.bind (idx j (a:Int)) fun w=>some (!w)) else (some false))=some (zdo people cals j m a):=by
    unfold zdo onB
    simp only[Zg,f,b4,c9,Option.bind_some]
    cases opn h m <;> rfl
   have b5:b.duty[a]?=some b.duty[a]:=List.getElem?_eq_getElem (by omega)
   have b6:b.latest[a]?=some b.latest[a]:=List.getElem?_eq_getElem (by omega)
   simp only[Zg people,f,Option.bind_some,b3,a6]
   simp only[Zg,b5,b6,Option.bind_some,Jf b.duty a _ (show a<b.duty.length by omega),Jf b.latest a _ (show a<b.latest.length by omega)]
   refine⟨_,rfl,r,s,by simpa using G,by simpa using H,fun c e0 c4 d0=>?_⟩
   dsimp only
   rw[List.getElem?_set,List.getElem?_set]
   by_cases n:a=c
   ·subst n
    exact⟨by rw[if_pos rfl,if_pos (by omega)],by rw[if_pos rfl,if_pos (by omega)]⟩
   ·rw[if_neg n,if_neg n]
    exact u c e0 (by omega) d0)
 rw[c5,Option.bind_some,Lp.andThen_fin]
 obtain⟨d1,d2,d3,T,d4,d5,U⟩:=ZU (R:=Zz) (b:=(fun a7 q=>Option.bind (idx held (a7:Int)) fun y=>Option.bind (JI people y.person) fun J=>Option.bind (idx q.latest J) fun K=>Option.bind (setI q.latest J (if K<y.since then y.since else K)) fun a8=>some (.nx (⟨q.people,q.duty,q.weights,a8⟩:Zz))))
  held.length (fun a b=>b.people=people∧b.weights=F∧b.duty=Q.duty∧b.latest.length=people.length∧∀(i:Nat) (e:ze),people[i]?=some e→b.latest[i]?=some (lOf (held.take a) e.no)) (s:=Q)
  ⟨c6,c7,rfl,c8,fun i e g=>by rw[(S i e (List.getElem?_eq_some_iff.1 g).1 g).2];rfl⟩
  (by
   rintro a b p⟨r,s,G,H,u⟩
   have f:held[a]?=some held[a]:=List.getElem?_eq_getElem p
   obtain⟨d6,M⟩:=D.2 _ (List.getElem_mem p)
   generalize held[a]=x at f d6 M
   obtain⟨W,d7,d8,I,d9⟩:=zlq M
   have N:=u W d7 I
   have O:=(List.getElem?_eq_some_iff.1 N).1
   simp only[Zg,f,zfg,d8,N,Jf _ _ _ O,Option.bind_some]
   refine⟨_,rfl,r,s,G,by simpa using H,fun i e g=>?_⟩
   dsimp only
   rw[zdl f,zky,List.getElem?_set]
   by_cases B:W=i
   ·subst B
    rw[I]at g
    cases g
    rw[if_pos rfl,if_pos O,if_pos d9.symm]
   ·rw[if_neg B,u i e g]
    have:¬x.person=e.no:=fun v=>B (zgI E I g (by omega))
    rw[if_neg this])
 rw[d2,Option.bind_some,Lp.andThen_fin];rw[List.take_length]at U;refine⟨d1,rfl,d3,fun i e g=>?_,by rw[T];exact b9,fun i e g=>by rw[T];exact c0 i e g,d5,U⟩;rw[d4];exact (S i e (List.getElem?_eq_some_iff.1 g).1 g).1}
end Go.Proofs.YtdpmeckhhcjoiaaGreatDoor.M
namespace Go.Proofs.YtdpmeckhhcjoiaaGreatDoor.M
open Go Go.Pu
set_option linter.unusedSimpArgs false
set_option linter.unusedVariables false
def zdt(cand:Nat→Bool)(n:Nat):List Int:=((List.range n).filter cand).map fun (i:Nat)=>(i:Int)
def zee(cand fm:Nat→Bool)(lt:Nat→Nat→Bool)(b:Int)(k:Nat):Int:=if cand k=true then (if b<0 then (k:Int) else if fm b.toNat=true then b else if fm k=true then (k:Int) else if lt k b.toNat=true then (k:Int) else b) else b
def JG(cand fm:Nat→Bool)(lt:Nat→Nat→Bool):Nat→Int
 | 0 => -1
 | n+1=>zee cand fm lt (JG cand fm lt n) n
def minL(lt:Nat→Nat→Bool):List Int→Int
 | [] => -1
 | c::t=>t.foldl (fun m x=>if lt x.toNat m.toNat=true then x else m) c
theorem zmw(lt:Nat→Nat→Bool){l:List Int}(a:l≠[])(x:Int):minL lt (l++[x])=if lt x.toNat (minL lt l).toNat=true then x else minL lt l:=by{
 cases l with
 | nil=>exact absurd rfl a
 | cons c t =>
  show (t++[x]).foldl _ c=_
  rw[List.foldl_append]
  rfl}
theorem zfZ(a:Nat→Bool)(n:Nat):zdt a (n+1)=zdt a n++if a n=true then [(n:Int)] else []:=by{unfold zdt;rw[List.range_succ,List.filter_append,List.map_append];by_cases b:a n=true;simp[b];simp[b]}
theorem zmy{a:Nat→Bool}{n:Nat}{x:Int}(b:x∈zdt a n):∃i:Nat,i<n∧a i=true∧x=(i:Int):=by{unfold zdt at b;obtain⟨i,c,rfl⟩:=List.mem_map.1 b;obtain⟨d,e⟩:=List.mem_filter.1 c;exact⟨i,List.mem_range.1 d,e,rfl⟩}
theorem zmp(a:Nat→Bool)(n:Nat):(zdt a n).length≤n:=by{unfold zdt;rw[List.length_map];have:=List.length_filter_le a (List.range n);simpa using this}
theorem zju(c:Nat→Bool):∀b,(zdt c b).Pairwise (· < ·)
 | 0=>List.Pairwise.nil
 | b+1=>by
  rw[zfZ,List.pairwise_append]
  refine⟨zju c b,by split <;> simp,fun e d f a=>?_⟩
  obtain⟨i,hi,_,rfl⟩:=zmy d
  split at a
  ·obtain rfl:=List.mem_singleton.1 a
   omega
  ·cases a
theorem zjZ(b c:Nat→Bool)(lt:Nat→Nat→Bool):∀a,(∀i,i<a→b i=true→c i=false)→JG b c lt a=minL lt (zdt b a)∧((zdt b a=[]∧JG b c lt a = -1)∨(zdt b a≠[]∧∃i:Nat,i<a∧b i=true∧JG b c lt a=(i:Int)))
 | 0,_=>⟨rfl,.inl ⟨rfl,rfl⟩⟩
 | a+1,h=>by
  obtain⟨h1,h2⟩:=zjZ b c lt a fun i j=>h i (by omega)
  have k:JG b c lt (a+1)=zee b c lt (JG b c lt a) a:=rfl
  rw[k,zfZ]
  by_cases d:b a=true
  ·rw[if_pos d]
   unfold zee
   rw[if_pos d]
   rcases h2 with ⟨f,e⟩|⟨f,i,j,g,e⟩
   ·rw[f,e,if_pos (by decide)]
    exact⟨rfl,.inr ⟨by simp,a,Nat.lt_succ_self a,d,rfl⟩⟩
   ·have l:c (JG b c lt a).toNat=false:=by rw[e];exact h i (by omega) g
    rw[if_neg (by rw[e];omega),l,if_neg (by decide),h a (Nat.lt_succ_self a) d,if_neg (by decide),zmw lt f, ← h1,Int.toNat_natCast]
    refine⟨rfl,.inr ⟨by simp,?_⟩⟩
    split
    ·exact⟨a,Nat.lt_succ_self a,d,rfl⟩
    ·exact⟨i,by omega,g,e⟩
  ·rw[if_neg d,List.append_nil]
   unfold zee
   rw[if_neg d]
   refine⟨h1,h2.imp id ?_⟩
   rintro⟨f,i,j,g,e⟩
   exact⟨f,i,by omega,g,e⟩
theorem zkn(a b:Nat→Bool)(lt:Nat→Nat→Bool)(f:Nat)(i:a f=true)(g:b f=true)(h:∀d,d<f→a d=true→b d=false):∀c,f<c→JG a b lt c=(f:Int)
 | 0,h0=>absurd h0 (Nat.not_lt_zero _)
 | c+1,h0=>by
  have hb:JG a b lt (c+1)=zee a b lt (JG a b lt c) c:=rfl
  rw[hb]
  rcases Nat.lt_or_eq_of_le (Nat.le_of_lt_succ h0)with j|rfl
  ·rw[zkn a b lt f i g h c j]
   unfold zee
   by_cases k:a c=true
   ·rw[if_pos k,if_neg (by omega),Int.toNat_natCast,if_pos g]
   ·rw[if_neg k]
  ·obtain⟨j,l⟩:=zjZ a b lt f h
   unfold zee
   rw[if_pos i]
   rcases l with ⟨m,e⟩|⟨m,d,n,o,e⟩
   ·rw[e,if_pos (by decide)]
   ·have p:b (JG a b lt f).toNat=false:=by rw[e];exact h d n o
    rw[if_neg (by rw[e];omega),p,if_neg (by decide),if_pos g]
theorem zon(lt:Nat→Nat→Bool)(p:Int→Int→Option Int)(c:Int)(l:List Int)(hlen:(c::l).length≤1000)(u:∀n o,n∈c::l→o∈c::l→o<n→∃d,p n o=some d∧(d<0↔lt n.toNat o.toNat=true))(J:(c::l).Pairwise (· < ·)):JL (c::l) p=some (minL lt (c::l)):=by{
 generalize i:c::l=x at *;unfold JL;have K:1≤x.length:=by rw[← i];simp
 rw[decide_eq_false (by omega),if_neg (by decide)];have L:idx x 0=some c:=by rw[← i];rfl
 rw[L,Option.bind_some]
 obtain⟨d,e,t,rfl,M⟩:=zey (R:=Int) (body:=(fun (b:Int×Int)=>if (decide (b.2<(x.length:Int)))=true then Option.bind (Option.bind (idx x b.2) fun v=>Option.bind (p v b.1) fun E=>Option.bind (if (decide (E<0))=true then some v else some b.1) fun F=>some F) fun G=>some (.nx (G,w64 (b.2+1))) else some (.bk (b.1,b.2))))
  (fun g=>∃a:Nat,1≤a∧a≤x.length∧g.2=(a:Int)∧g.1=minL lt (x.take a)∧g.1∈x.take a) (fun g=>x.length-g.2.toNat) (fun d=>∃t,d=.fin t∧t.1=minL lt x) (s:=(c,1))
  ⟨1,Nat.le_refl 1,K,rfl,by rw[← i];rfl,by rw[← i];simp⟩
  (by
   rintro⟨m,R⟩⟨a,P,Q,A,j,f⟩
   dsimp only at A j f ⊢
   subst A
   by_cases q:a<x.length
   ·have r:x[a]?=some x[a]:=List.getElem?_eq_getElem q
    have w:x[a]∈x:=List.getElem_mem q
    have z:m<x[a]:=by
     obtain⟨O,k⟩:=List.mem_iff_getElem?.1 f
     have H:=(List.getElem?_eq_some_iff.1 k).1
     rw[List.length_take]at H
     rw[List.getElem?_take_of_lt (by omega)]at k
     have:=List.pairwise_iff_getElem.1 J O a (by omega) q (by omega)
     rw[List.getElem?_eq_getElem (by omega)]at k
     rw[← Option.some.inj k]
     exact this
    have N:w64 ((a:Int)+1)=((a+1:Nat):Int):=by rw[ZB (by omega) (by omega)];omega
    obtain⟨d,B,s⟩:=u x[a] m w (List.mem_of_mem_take f) z
    have h:x.take (a+1)=x.take a++[x[a]]:=zdl r
    generalize x[a]=y at r w z B s h
    rw[decide_eq_true (show (a:Int)<(x.length:Int) by omega)]
    simp only[if_true,Zg,r,Option.bind_some,B,N]
    have I:x.take a≠[]:=List.ne_nil_of_mem f
    have D:minL lt (x.take (a+1))=if lt y.toNat m.toNat=true then y else m:=by rw[h,zmw lt I, ← j]
    by_cases e:d<0
    ·rw[decide_eq_true e]
     simp only[if_true,Option.bind_some]
     refine⟨_,rfl,⟨a+1,by omega,by omega,rfl,?_,?_⟩,by simp only[Int.toNat_natCast];omega⟩
     ·rw[D,if_pos (s.1 e)]
     ·rw[h];simp
    ·rw[decide_eq_false e]
     simp only[Bool.false_eq_true,if_false,Option.bind_some]
     refine⟨_,rfl,⟨a+1,by omega,by omega,rfl,?_,?_⟩,by simp only[Int.toNat_natCast];omega⟩
     ·rw[D,if_neg (fun u=>e (s.2 u))]
     ·rw[h];exact List.mem_append_left _ f
   ·rw[decide_eq_false (by omega)]
    simp only[Bool.false_eq_true,if_false]
    refine⟨_,rfl,_,rfl,?_⟩
    rw[List.take_of_length_le (by omega)]at j
    exact j)
 rw[e,Option.bind_some,Lp.andThen_fin,M]}
def qG(people:List ze)(dt:Nat→Bool)(all:List zb)(w:za)(needs:List zm)(k:Nat):Bool:=match people[k]? with
 | some p=>ablB p needs&&(dt k&&!(decide (w64 (p.capacity-wOf all p.no)<w.weight)))
 | none=>false
def fmF(people:List ze)(w:za)(k:Nat):Bool:=match people[k]? with
 | some p=>p.no==w.former
 | none=>false
def ltF(people:List ze)(all:List zb)(a b:Nat):Bool:=match people[a]?,people[b]? with
 | some p,some q=>decide (zbX [cmpI (w64 (wOf all p.no*q.capacity)) (w64 (wOf all q.no*p.capacity)),cmpI (lOf all p.no) (lOf all q.no)]<0)
 | _,_=>false
theorem zkN{people:List ze}{dt:Nat→Bool}{all:List zb}{d:Zz}(O:zay people)(g:zfL people dt all d)(w:za)(needs:List zm):
  Jd d w needs=some (JG (qG people dt all w needs) (fmF people w) (ltF people all) people.length):=by{
 unfold Jd;rw[g.ppl];have b8:=O.1
 have step:∀(e:Nat) (b:ze),people[e]?=some b→∃m r,jB b needs=some m∧d.duty[e]?=some r∧d.weights[e]?=some (wOf all b.no)∧qG people dt all w needs e=(m&&(r&&!(decide (w64 (b.capacity-wOf all b.no)<w.weight)))):=fun e b j=>by
  refine⟨ablB b needs,dt e,zns b needs,g.dty e b j,g.wei e b j,?_⟩
  unfold qG
  simp only[j]
 obtain⟨J,a0,a1⟩:=zdF (R:=Int) (body:=(fun p L=>Option.bind (α:=Lp _ _) (Option.bind (idx people (p:Int)) fun B=>Option.bind (idx d.duty (p:Int)) fun S=>Option.bind (if (!S)=true then (some true) else (Option.bind (idx d.weights (p:Int)) fun D=>some (decide ((w64 (B.capacity-D))<w.weight)))) fun E=>Option.bind (if E=true then (some true) else (Option.bind (jB B needs) fun F=>some (!F))) fun T=>if T=true then some (.fin L) else if (B.no==w.former)=true then some (.rt (p:Int)) else Option.bind (zC 17592186044416 L ([(p:Int)]:List Int)) fun Q=>some (.fin Q)) fun U=>U.andThen (fun b2=>some (.rt b2)) fun W=>some (.nx W)))
  people.length (fun e K=>K=zdt (qG people dt all w needs) e∧∀a,a<e→qG people dt all w needs a=true→fmF people w a=false)
  (fun J=>(∃k:Nat,J=.rt (k:Int)∧k<people.length∧qG people dt all w needs k=true∧fmF people w k=true∧∀a,a<k→qG people dt all w needs a=true→fmF people w a=false)∨(J=.fin (zdt (qG people dt all w needs) people.length)∧∀a,a<people.length→qG people dt all w needs a=true→fmF people w a=false))
  (s := []) ⟨rfl,fun a j=>absurd j (Nat.not_lt_zero _)⟩
  (by
   rintro e K M⟨rfl,G⟩
   have f:people[e]?=some people[e]:=List.getElem?_eq_getElem M
   generalize people[e]=b at f
   obtain⟨m,r,s,H,I,a2⟩:=step e b f
   have P:fmF people w e=(b.no==w.former):=by unfold fmF;simp only[f]
   have A:Option.bind (if (!r)=true then (some true) else (Option.bind (some (wOf all b.no)) fun D=>some (decide ((w64 (b.capacity-D))<w.weight)))) (fun E=>(if E=true then (some true) else (Option.bind (some m) fun F=>some (!F))))=some (!(qG people dt all w needs e)):=by
    rw[a2]
    cases r
    ·cases m <;> rfl
    ·simp only[Bool.not_true,Bool.false_eq_true,if_false,Option.bind_some,Bool.true_and]
     cases decide (w64 (b.capacity-wOf all b.no)<w.weight) <;> cases m <;> rfl
   simp only[Zg,f,H,I,s,Option.bind_some]
   rw[← Option.bind_assoc]
   rw[Option.bind_some]at A
   simp only[Option.bind_some]at A ⊢
   rw[A,Option.bind_some]
   by_cases h:qG people dt all w needs e=true
   ·rw[h]
    simp only[Bool.not_true,Bool.false_eq_true,if_false]
    by_cases v:(b.no==w.former)=true
    ·rw[if_pos v]
     exact⟨.rt (e:Int),rfl,.inl ⟨e,rfl,M,h,by rw[P];exact v,G⟩⟩
    ·rw[if_neg v]
     have a3:=zmp (qG people dt all w needs) e
     unfold zC
     rw[if_pos (by simp;omega)]
     refine⟨.nx _,rfl,?_,fun a i t=>?_⟩
     ·rw[zfZ,if_pos h]
     ·rcases Nat.lt_or_eq_of_le (Nat.le_of_lt_succ i)with u|rfl
      ·exact G a u t
      ·rw[P];simpa using v
   ·rw[Bool.not_eq_true]at h
    rw[h]
    simp only[Bool.not_false,if_true]
    refine⟨.nx _,rfl,?_,fun a i t=>?_⟩
    ·rw[zfZ,h,if_neg (by decide),List.append_nil]
    ·rcases Nat.lt_or_eq_of_le (Nat.le_of_lt_succ i)with u|rfl
     ·exact G a u t
     ·rw[h]at t;cases t)
  (by
   rintro K⟨rfl,j⟩
   exact .inr ⟨rfl,j⟩)
 rw[a0,Option.bind_some];rcases a1 with ⟨k,rfl,a4,a5,a6,a7⟩|⟨rfl,X⟩;rw[zkn _ _ _ k a5 a6 a7 _ a4];rfl;rw[Lp.andThen_fin];obtain⟨u,a8⟩:=zjZ (qG people dt all w needs) (fmF people w) (ltF people all) people.length X;rcases a8 with ⟨s,H⟩|⟨s,_⟩;rw[s,H];rfl;have a3:=zmp (qG people dt all w needs) people.length;have Z:=zju (qG people dt all w needs) people.length
 have N:∀z∈zdt (qG people dt all w needs) people.length,∃a:Nat,a<people.length∧z=(a:Int):=fun z f=>by
  obtain⟨a,i,_,b3⟩:=zmy f
  exact⟨a,i,b3⟩
 rw[u];generalize zdt (qG people dt all w needs) people.length=z at *;cases z with
 | nil=>exact absurd rfl s
 | cons c l =>
  rw[if_neg (by simp;omega),zon (ltF people all) _ c l (by omega) _ Z]
  rfl
  intro b4 b5 a9 b0 b9
  obtain⟨a,i,rfl⟩:=N b4 a9
  obtain⟨o,b1,rfl⟩:=N b5 b0
  have f:people[a]?=some people[a]:=List.getElem?_eq_getElem i
  have n:people[o]?=some people[o]:=List.getElem?_eq_getElem b1
  generalize people[a]=b at f
  generalize people[o]=q at n
  unfold zbM
  rw[g.ppl]
  simp only[Zg,f,n,Option.bind_some,g.wei a b f,g.wei o q n,g.lat a b f,g.lat o q n,znY,zgm]
  refine⟨_,rfl,?_⟩
  have R:=(O.2 a b f).2.2.2 o q (by omega) n
  unfold ltF
  simp only[Int.toNat_natCast,f,n,decide_eq_true_eq]
  have I:cmpI b.no q.no=1:=by unfold cmpI;rw[if_neg (by omega),if_pos R]
  rw[I]
  generalize cmpI (w64 (wOf all b.no*q.capacity)) (w64 (wOf all q.no*b.capacity))=b6
  generalize cmpI (lOf all b.no) (lOf all q.no)=b7
  simp only[zbX]
  by_cases x:b6≠0
  rw[if_pos x,if_pos x]
  rw[if_neg x,if_neg x]
  by_cases y:b7≠0
  rw[if_pos y,if_pos y]
  rw[if_neg y,if_neg y]
  simp}
theorem zlK{people:List ze}{dt:Nat→Bool}{all:List zb}{w:za}{needs:List zm}:∀a,JG (qG people dt all w needs) (fmF people w) (ltF people all) a = -1∨∃i:Nat,i<a∧(∃b,people[i]?=some b)∧JG (qG people dt all w needs) (fmF people w) (ltF people all) a=(i:Int)
 | 0=>.inl rfl
 | a+1=>by
  have hb:JG (qG people dt all w needs) (fmF people w) (ltF people all) (a+1)=zee (qG people dt all w needs) (fmF people w) (ltF people all) (JG (qG people dt all w needs) (fmF people w) (ltF people all) a) a:=rfl
  have f:=zlK (people:=people) (dt:=dt) (all:=all) (w:=w) (needs:=needs) a
  rw[hb]
  unfold zee
  have e:∀d,(d = -1∨∃i:Nat,i<a∧(∃b,people[i]?=some b)∧d=(i:Int))→(d = -1∨∃i:Nat,i<a+1∧(∃b,people[i]?=some b)∧d=(i:Int)):=by
   rintro d (h |⟨i,m,j,k⟩)
   ·exact .inl h
   ·exact .inr ⟨i,by omega,j,k⟩
  by_cases c:qG people dt all w needs a=true
  ·rw[if_pos c]
   have l:∃b,people[a]?=some b:=by
    unfold qG at c
    cases h:people[a]? with
    | none=>rw[h]at c;cases c
    | some b=>exact⟨b,rfl⟩
   have g:∃i:Nat,i<a+1∧(∃b,people[i]?=some b)∧(a:Int)=(i:Int):=⟨a,Nat.lt_succ_self a,l,rfl⟩
   split
   ·exact .inr g
   ·split
    ·exact e _ f
    ·split
     ·exact .inr g
     ·split
      ·exact .inr g
      ·exact e _ f
  ·rw[if_neg c]
   exact e _ f
end Go.Proofs.YtdpmeckhhcjoiaaGreatDoor.M
namespace Go.Proofs.YtdpmeckhhcjoiaaGreatDoor.M
open Go Go.Pu
set_option linter.unusedSimpArgs false
set_option linter.unusedVariables false
theorem zfC(l:List za):(ji l).Perm (zby l.length):=List.mergeSort_perm _ _
theorem zgh(l:List za):(ji l).length=l.length:=by rw[(zfC l).length_eq,zjP]
theorem zou(n:Nat):(zby n).Nodup:=by{unfold zby;exact List.pairwise_map.2 (List.nodup_range.imp fun a b=>a (Int.ofNat.inj b))}
theorem zgY{l:List za}{k:Nat}{x:Int}(b:(ji l)[k]?=some x):∃(j:Nat) (w:za),x=(j:Int)∧j<l.length∧l[j]?=some w:=by{obtain⟨j,a,rfl⟩:=zmk ((zfC l).mem_iff.1 (List.mem_of_getElem? b));exact⟨j,l[j],rfl,a,List.getElem?_eq_getElem a⟩}
theorem zlt{l:List za}{i k:Nat}{x:Int}(g:(ji l)[i]?=some x)(h:(ji l)[k]?=some x):i=k:=by{have b:(ji l).Nodup:=(zfC l).nodup_iff.2 (zou _);obtain⟨c,d⟩:=List.getElem?_eq_some_iff.1 g;obtain⟨e,f⟩:=List.getElem?_eq_some_iff.1 h;rcases Nat.lt_trichotomy i k with a|a|a;exact absurd (d.trans f.symm) (List.pairwise_iff_getElem.1 b i k c e a);exact a;exact absurd (f.trans d.symm) (List.pairwise_iff_getElem.1 b k i e c a)}
theorem zpo{l:List za}{j:Nat}(d:j<l.length):∃a:Nat,a<l.length∧(ji l)[a]?=some (j:Int):=by{have c:(j:Int)∈zby l.length:=List.mem_of_getElem? (by rw[zml,if_pos d]);obtain⟨a,b⟩:=List.mem_iff_getElem?.1 ((zfC l).mem_iff.2 c);exact⟨a,by rw[← zgh];exact (List.getElem?_eq_some_iff.1 b).1,b⟩}
theorem znS{people:List ze}{i:Nat}{a:ze}(hi:people[i]?=some a):0≤pos people a.no:=by{
 unfold pos;cases hf:people.findIdx? (fun b=>b.no==a.no) with
 | none =>
  have:=List.findIdx?_eq_none_iff.1 hf a (List.mem_of_getElem? hi)
  simp at this
 | some j=>dsimp only;omega}
section
variable{people:List ze}{dt:Nat→Bool}{all:List zb}{d:Zz}{w:za}{needs:List zm}
theorem zoN:∀a,(JG (qG people dt all w needs) (fmF people w) (ltF people all) a = -1∧∀c,c<a→qG people dt all w needs c=false)∨∃i:Nat,i<a∧qG people dt all w needs i=true∧JG (qG people dt all w needs) (fmF people w) (ltF people all) a=(i:Int)
 | 0=>.inl ⟨rfl,fun c h=>absurd h (Nat.not_lt_zero c)⟩
 | a+1=>by
  have hb:JG (qG people dt all w needs) (fmF people w) (ltF people all) (a+1)=zee (qG people dt all w needs) (fmF people w) (ltF people all) (JG (qG people dt all w needs) (fmF people w) (ltF people all) a) a:=rfl
  have l:=zoN a
  rw[hb]
  unfold zee
  by_cases d:qG people dt all w needs a=true
  ·rw[if_pos d]
   have e:∃i:Nat,i<a+1∧qG people dt all w needs i=true∧(a:Int)=(i:Int):=⟨a,Nat.lt_succ_self a,d,rfl⟩
   rcases l with ⟨b,_⟩|⟨i,f,g,b⟩
   ·rw[b,if_pos (by decide)]
    exact .inr e
   ·have k:∃j:Nat,j<a+1∧qG people dt all w needs j=true∧(i:Int)=(j:Int):=⟨i,by omega,g,rfl⟩
    rw[b]
    right
    split
    ·exact e
    ·split
     ·exact k
     ·split
      ·exact e
      ·split
       ·exact e
       ·exact k
  ·rw[if_neg d]
   rw[Bool.not_eq_true]at d
   rcases l with ⟨b,h⟩|⟨i,f,g,b⟩
   ·refine .inl ⟨b,fun c m=>?_⟩
    rcases Nat.lt_or_eq_of_le (Nat.le_of_lt_succ m)with f|rfl
    ·exact h c f
    ·exact d
   ·exact .inr ⟨i,by omega,g,b⟩
theorem zmf{k:Nat}(d:AllOK people all)(e:zay people):qG people dt all w needs k=true↔∃a,people[k]?=some a∧ablB a needs=true∧dt k=true∧w.weight≤a.capacity-wOf all a.no:=by{
 unfold qG;cases h:people[k]? with
 | none=>simp
 | some a =>
  have g:=(e.2 k a h).2.1
  have i:=d.bnd a.no
  dsimp only
  rw[ZB (by omega) (by omega)]
  simp only[Bool.and_eq_true,Bool.not_eq_true',decide_eq_false_iff_not,Option.some.injEq]
  constructor
  rintro⟨b,c,f⟩
  exact⟨a,rfl,b,c,by omega⟩
  rintro⟨_,rfl,b,c,f⟩
  exact⟨b,c,by omega⟩}
theorem zmq(o:zay people)(b:zfL people dt all d){i:Nat}{e:ze}(hi:people[i]?=some e)(n m:Int)(h:zb)(g:h.person=e.no)(p:h.weight=n)(q:h.since=m):
  zfL people dt (all++[h]) (⟨d.people,d.duty,d.weights.set i (wOf all e.no+n),d.latest.set i (if lOf all e.no<m then m else lOf all e.no)⟩:Zz):=by{have l:=(List.getElem?_eq_some_iff.1 hi).1;refine⟨b.ppl,b.dty,by simpa using b.wlen,fun f j a=>?_,by simpa using b.llen,fun f j a=>?_⟩;dsimp only;rw[List.getElem?_set,ziB];by_cases c:i=f;subst c;rw[hi]at a;cases a;rw[if_pos rfl,if_pos (by rw[b.wlen];exact l),if_pos g,p];rw[if_neg c,b.wei f j a,if_neg (fun k=>c (zgI o hi a (g.symm.trans k))),Int.add_zero];dsimp only;rw[List.getElem?_set,zky];by_cases c:i=f;subst c;rw[hi]at a;cases a;rw[if_pos rfl,if_pos (by rw[b.llen];exact l),if_pos g,q];rw[if_neg c,b.lat f j a,if_neg (fun k=>c (zgI o hi a (g.symm.trans k)))]}
end
def zpG(people:List ze)(dt:Nat→Bool)(steps:List zt)(m:Int)(w:za)(h:zb):Prop :=
 h.ticket=w.ticket∧h.weight=w.weight∧h.since=m∧∃(j:Nat) (p:ze),people[j]?=some p∧h.person=p.no∧dt j=true∧ablB p (zaQ w steps m)=true
structure Run(people:List ze)(dt:Nat→Bool)(steps:List zt)(m:Int)(held:List zb)(waiting:List za)(k:Nat)(tk:List Bool)(out:List zb)(d:Zz):Prop where
 desk:zfL people dt (held++out) d
 ok:AllOK people (held++out)
 len:tk.length=waiting.length
 few:out.length≤k
 given:∀h∈out,∃(i j:Nat) (w:za),i<k∧(ji waiting)[i]?=some (j:Int)∧waiting[j]?=some w∧tk[j]?=some true∧zpG people dt steps m w h
 apart:(held++out).Pairwise (fun a b=>a.ticket≠b.ticket)
 cap:(∀(j:Nat) (p:ze),people[j]?=some p→wOf held p.no≤p.capacity)→∀(j:Nat) (p:ze),people[j]?=some p→wOf (held++out) p.no≤p.capacity
 still:∀(j:Nat) (p:ze),people[j]?=some p→dt j=false→wOf (held++out) p.no=wOf held p.no
 left:∀(i j:Nat) (w:za),i<k→(ji waiting)[i]?=some (j:Int)→waiting[j]?=some w→tk[j]?=some false→∀(q:Nat) (p:ze),people[q]?=some p→dt q=true→ablB p (zaQ w steps m)=true→p.capacity-wOf (held++out) p.no<w.weight
 yet:∀(i j:Nat),k≤i→(ji waiting)[i]?=some (j:Int)→tk[j]?=some false
 non:out=[]→∀b∈tk,b=false
theorem zrP{people:List ze}{dt:Nat→Bool}{held:List zb}{waiting:List za}(steps:List zt){m:Int}(q:0≤m∧m≤3000000)(F:zay people)(a5:zdX waiting)(d6:AllOK people held)(f1:held.length≤400)(a6:held.Pairwise (fun b4 R=>b4.ticket≠R.ticket))(c8:∀c∈held,∀w∈waiting,c.ticket≠w.ticket){d:Zz}(d7:zfL people dt held d):
  ∃t out A,zS (R:=List zb×List za) (fun a2 b=>Option.bind (Option.bind (idx (ji waiting) (a2:Int)) fun y=>Option.bind (idx waiting y) fun n=>Option.bind (Jx n steps m) fun S=>Option.bind (Jd b.2.2 n S) fun k=>if (decide (k<0))=true then some (b.1,b.2.1,b.2.2) else Option.bind (idx b.1 y) fun c4=>Option.bind (setI b.1 y true) fun T=>Option.bind (idx b.2.2.weights k) fun U=>Option.bind (setI b.2.2.weights k (w64 (U+n.weight))) fun W=>Option.bind (idx b.2.2.latest k) fun H=>Option.bind (setI b.2.2.latest k (if H<m then m else H)) fun X=>Option.bind (idx people k) fun Z=>Option.bind (zC 4398046511104 b.2.1 ([(⟨n.ticket,Z.no,n.weight,m⟩:zb)]:List zb)) fun a0=>some (T,a0,(⟨b.2.2.people,b.2.2.duty,W,X⟩:Zz))) fun z=>some (.nx (z.1,z.2.1,z.2.2))) (ji waiting).length 0 (List.replicate waiting.length false,([]:(List zb)),d)=some (.fin (t,out,A))∧
   Run people dt steps m held waiting waiting.length t out A:=by{
 obtain⟨⟨t,out,A⟩,f,g⟩:=ZU (R:=List zb×List za) (b:=fun a2 b=>Option.bind (Option.bind (idx (ji waiting) (a2:Int)) fun y=>Option.bind (idx waiting y) fun n=>Option.bind (Jx n steps m) fun S=>Option.bind (Jd b.2.2 n S) fun k=>if (decide (k<0))=true then some (b.1,b.2.1,b.2.2) else Option.bind (idx b.1 y) fun c4=>Option.bind (setI b.1 y true) fun T=>Option.bind (idx b.2.2.weights k) fun U=>Option.bind (setI b.2.2.weights k (w64 (U+n.weight))) fun W=>Option.bind (idx b.2.2.latest k) fun H=>Option.bind (setI b.2.2.latest k (if H<m then m else H)) fun X=>Option.bind (idx people k) fun Z=>Option.bind (zC 4398046511104 b.2.1 ([(⟨n.ticket,Z.no,n.weight,m⟩:zb)]:List zb)) fun a0=>some (T,a0,(⟨b.2.2.people,b.2.2.duty,W,X⟩:Zz))) fun z=>some (.nx (z.1,z.2.1,z.2.2)))
  (ji waiting).length (fun p b5=>Run people dt steps m held waiting p b5.1 b5.2.1 b5.2.2) (s:=(List.replicate waiting.length false,([]:(List zb)),d))
  (by
   refine⟨by simpa using d7,by simpa using d6,by simp,by simp,(fun c q=>by cases q),by simpa using a6,fun c=>by simpa using c,fun e i _ _=>by simp,fun l e w c=>absurd c (Nat.not_lt_zero _),fun l e _ c=>?_,fun _ R c=>List.eq_of_mem_replicate c⟩
   obtain⟨h,w,r,N,_⟩:=zgY c
   obtain rfl:e=h:=by omega
   simp[N])
  (by
   rintro p⟨t,out,A⟩a7 a
   dsimp only at a ⊢
   have u:(ji waiting)[p]?=some (ji waiting)[p]:=List.getElem?_eq_getElem a7
   generalize (ji waiting)[p]=x at u
   obtain⟨e,w,rfl,N,E⟩:=zgY u
   have L:=a5.2 e w N E
   have c9:=zko w steps m L.2.1.2.2.2.2 (by have:=L.2.1.2.2.1;omega)
   have d0:=zkN F a.desk w (zaQ w steps m)
   have b7:=zoN (people:=people) (dt:=dt) (all:=held++out) (w:=w) (needs:=zaQ w steps m) people.length
   simp only[Zg,u,E,c9,Option.bind_some,d0]
   generalize JG (qG people dt (held++out) w (zaQ w steps m)) (fmF people w) (ltF people (held++out)) people.length=R at b7
   have keep:∀a3:List Bool,(∀j:Nat,t[j]?=some true→a3[j]?=some true)→∀c∈out,∃(l e:Nat) (w:za),l<p+1∧(ji waiting)[l]?=some (e:Int)∧waiting[e]?=some w∧a3[e]?=some true∧zpG people dt steps m w c:=fun a3 d8 c q=>by
    obtain⟨l,e,b6,d9,O,a8,c1,a9⟩:=a.given c q
    exact⟨l,e,b6,by omega,O,a8,d8 e c1,a9⟩
   rcases b7 with ⟨rfl,d1⟩|⟨l,c2,e0,rfl⟩
   ·have r:decide ((-1:Int)<0)=true:=by decide
    simp only[r,if_true,Option.bind_some]
    refine⟨_,rfl,a.desk,a.ok,a.len,by have:=a.few;dsimp only;omega,keep _ fun _ c=>c,a.apart,a.cap,a.still,fun v h b0 f g I G j i J P Q=>?_,fun v h f g=>a.yet v h (by omega) g,a.non⟩
    rcases Nat.lt_or_eq_of_le (Nat.le_of_lt_succ f)with e1|rfl
    ·exact a.left v h b0 e1 g I G j i J P Q
    ·rw[u]at g
     obtain rfl:e=h:=by have:=Option.some.inj g;omega
     rw[E]at I
     cases I
     have:=d1 j (List.getElem?_eq_some_iff.1 J).1
     rw[← Bool.not_eq_true,zmf a.ok F]at this
     refine Int.not_le.1 fun e2=>this ⟨i,J,Q,P,e2⟩
   ·obtain⟨i,s,e3,c3,f2⟩:=(zmf a.ok F).1 e0
    have r:decide ((l:Int)<0)=false:=decide_eq_false (by omega)
    have a4:e<t.length:=by rw[a.len];exact N
    have b8:=a.yet p e (Nat.le_refl _) u
    have d2:l<A.weights.length:=by rw[a.desk.wlen];exact c2
    have d3:l<A.latest.length:=by rw[a.desk.llen];exact c2
    have b1:=a.ok.bnd i.no
    have d4:(1≤w.weight∧w.weight≤20):=L.2.1.1
    have d5:w64 (wOf (held++out) i.no+w.weight)=wOf (held++out) i.no+w.weight:=ZB (by omega) (by omega)
    have e8:p<waiting.length:=by rw[zgh]at a7;exact a7
    have e6:=a5.1
    have e7:=a.few
    have c5:zC 4398046511104 out [(⟨w.ticket,i.no,w.weight,m⟩:zb)]=some (out++[⟨w.ticket,i.no,w.weight,m⟩]):=by
     unfold zC
     rw[if_pos (by rw[List.length_singleton];omega)]
    simp only[r,Bool.false_eq_true,if_false,Zg,s,Option.bind_some,b8,Jf _ _ _ a4,a.desk.wei l i s,a.desk.lat l i s,d5,Jf _ _ _ d2,Jf _ _ _ d3,c5]
    refine⟨_,rfl,?_⟩
    dsimp only
    have D:held++(out++[(⟨w.ticket,i.no,w.weight,m⟩:zb)])=(held++out)++[⟨w.ticket,i.no,w.weight,m⟩]:=(List.append_assoc _ _ _).symm
    have a1:∀no,wOf ((held++out)++[(⟨w.ticket,i.no,w.weight,m⟩:zb)]) no=wOf (held++out) no+if i.no=no then w.weight else 0:=fun no=>ziB _ _ no
    have c6:∀c∈held++out,c.ticket≠w.ticket:=fun c q=>by
     rcases List.mem_append.1 q with f|f
     ·exact c8 c f w (List.mem_of_getElem? E)
     ·obtain⟨v,h,b6,d9,O,a8,c1,a9⟩:=a.given c f
      obtain⟨e4,b2,f3,e5,b3⟩:=zgY O
      obtain rfl:h=e4:=by omega
      obtain rfl:b2=b6:=Option.some.inj (b3.symm.trans a8)
      have e9:h≠e:=by
       rintro rfl
       have:=zlt O u
       omega
      rw[a9.1]
      rcases Nat.lt_or_ge h e with g|g
      ·exact L.2.2 h b2 g b3
      ·exact fun r=>(a5.2 h b2 e5 b3).2.2 e w (by omega) E r.symm
    refine⟨?_,?_,by simpa using a.len,by rw[List.length_append,List.length_singleton];omega,?_,?_,?_,?_,?_,?_,fun r=>by simp at r⟩
    ·rw[D]
     exact zmq F a.desk s w.weight m _ rfl rfl rfl
    ·rw[D]
     refine⟨by rw[List.length_append,List.length_append,List.length_singleton];omega,fun c q=>?_⟩
     rcases List.mem_append.1 q with f|f
     ·exact a.ok.2 c f
     ·rw[List.mem_singleton]at f
      subst f
      exact⟨d4,znS s⟩
    ·intro c q
     have c7:∀j:Nat,t[j]?=some true→(t.set e true)[j]?=some true:=fun j o=>by
      rw[List.getElem?_set]
      by_cases b9:e=j
      ·subst b9
       rw[b8]at o
       cases o
      ·rw[if_neg b9]
       exact o
     rcases List.mem_append.1 q with f|f
     ·exact keep _ c7 c f
     ·rw[List.mem_singleton]at f
      subst f
      refine⟨p,e,w,Nat.lt_succ_self p,u,E,?_,rfl,rfl,rfl,l,i,s,rfl,c3,e3⟩
      rw[List.getElem?_set,if_pos rfl,if_pos a4]
    ·rw[D,List.pairwise_append]
     refine⟨a.apart,List.pairwise_singleton _ _,fun b4 a6 R b1=>?_⟩
     rw[List.mem_singleton]at b1
     subst b1
     exact c6 b4 a6
    ·intro K j B o
     rw[D,a1]
     have f:=a.cap K j B o
     by_cases c0:i.no=B.no
     ·obtain rfl:=zgI F s o c0
      rw[s]at o
      cases o
      rw[if_pos rfl]
      omega
     ·rw[if_neg c0]
      omega
    ·intro j B o K
     rw[D,a1,a.still j B o K]
     have:¬i.no=B.no:=fun r=>by
      obtain rfl:=zgI F s o r
      rw[c3]at K
      cases K
     rw[if_neg this,Int.add_zero]
    ·intro v h b0 f g I G j B J P Q
     rw[D,a1]
     have M:h≠e:=by
      rintro rfl
      rw[List.getElem?_set,if_pos rfl,if_pos a4]at G
      cases G
     rw[List.getElem?_set,if_neg (Ne.symm M)]at G
     have f0:v≠p:=by
      rintro rfl
      rw[u]at g
      exact M (by have:=Option.some.inj g;omega)
     have:=a.left v h b0 (by omega) g I G j B J P Q
     split <;> omega
    ·intro v h f g
     have M:h≠e:=by
      rintro rfl
      have:=zlt g u
      omega
     rw[List.getElem?_set,if_neg (Ne.symm M)]
     exact a.yet v h (by omega) g)
 rw[zgh]at g;exact⟨t,out,A,f,g⟩}
def zcP(tk:List Bool)(waiting:List za):List za:=(waiting.zip tk).filterMap fun x=>if x.2=true then none else some x.1
theorem zmc{d:List Bool}{waiting:List za}{w:za}(e:w∈zcP d waiting):∃a:Nat,waiting[a]?=some w∧d[a]?=some false:=by{
 unfold zcP at e;obtain⟨⟨h,g⟩,f,b⟩:=List.mem_filterMap.1 e;obtain⟨a,c⟩:=List.mem_iff_getElem?.1 f;rw[List.getElem?_zip_eq_some]at c;dsimp only at c b;cases g with
 | true=>cases b
 | false =>
  cases b
  exact⟨a,c⟩}
theorem zpZ(a:List Bool)(waiting:List za):(zcP a waiting).Sublist waiting:=by{
 unfold zcP;induction waiting generalizing a with
 | nil=>simp
 | cons w l ih =>
  cases a with
  | nil=>simp
  | cons b a =>
   rw[List.zip_cons_cons,List.filterMap_cons]
   cases b
   exact (ih a).cons_cons w
   exact (ih a).cons w}
theorem znU{waiting:List za}(q:zdX waiting){d:List Bool}(E:d.length=waiting.length):
  zS (R:=List zb×List za) (fun f g=>Option.bind (Option.bind (idx waiting (f:Int)) fun a=>Option.bind (idx d (f:Int)) fun j=>Option.bind (if (!j)=true then Option.bind (zJ a.needs) fun h=>Option.bind (zC 2199023255552 g ([(⟨a.ticket,a.weight,a.urgency,a.since,a.former,h⟩:za)]:List za)) fun k=>some (k,(⟨a.ticket,a.weight,a.urgency,a.since,a.former,h⟩:za)) else some (g,a)) fun l=>some l.1) fun m=>some (.nx m)) waiting.length 0 ([]:(List za))=some (.fin (zcP d waiting)):=by{
 obtain⟨t,x,y,_⟩:=ZU (R:=List zb×List za) (b:=fun f g=>Option.bind (Option.bind (idx waiting (f:Int)) fun a=>Option.bind (idx d (f:Int)) fun j=>Option.bind (if (!j)=true then Option.bind (zJ a.needs) fun h=>Option.bind (zC 2199023255552 g ([(⟨a.ticket,a.weight,a.urgency,a.since,a.former,h⟩:za)]:List za)) fun k=>some (k,(⟨a.ticket,a.weight,a.urgency,a.since,a.former,h⟩:za)) else some (g,a)) fun l=>some l.1) fun m=>some (.nx m))
  waiting.length (fun c p=>p=((waiting.zip d).take c).filterMap (fun e=>if e.2=true then none else some e.1)∧p.length≤c) (s := []) ⟨rfl,by simp⟩
  (by
   rintro c p r⟨rfl,z⟩
   have i:waiting[c]?=some waiting[c]:=List.getElem?_eq_getElem r
   have n:d[c]?=some d[c]:=List.getElem?_eq_getElem (by omega)
   have o:(waiting.zip d)[c]?=some (waiting[c],d[c]):=by rw[List.getElem?_zip_eq_some];exact⟨i,n⟩
   have A:=(q.2 c _ r i).2.1.2.2.2.2
   have D:=q.1
   generalize waiting[c]=w at i o A
   generalize d[c]=b at n o
   have B:((waiting.zip d).take (c+1)).filterMap (fun e=>if e.2=true then none else some e.1)=((waiting.zip d).take c).filterMap (fun e=>if e.2=true then none else some e.1)++(if b=true then none else some w:Option za).toList:=by
    rw[List.take_add_one,o,List.filterMap_append]
    cases b <;> simp
   rw[B]
   generalize ((waiting.zip d).take c).filterMap (fun e=>if e.2=true then none else some e.1)=l0 at z
   have s:zJ w.needs=some w.needs:=by
    unfold zJ zC
    rw[if_pos (by simp;omega)]
    rfl
   have u:zC 2199023255552 l0 [w]=some (l0++[w]):=by
    unfold zC
    rw[if_pos (by rw[List.length_singleton];omega)]
   have v:(⟨w.ticket,w.weight,w.urgency,w.since,w.former,w.needs⟩:za)=w:=rfl
   simp only[Zg,i,n,Option.bind_some,s,v,u]
   cases b with
   | true=>exact⟨_,rfl,(List.append_nil _).symm,by dsimp only;omega⟩
   | false=>exact⟨_,rfl,rfl,by rw[List.length_append,List.length_singleton];omega⟩)
 rw[x,y];unfold zcP;have:(waiting.zip d).take waiting.length=waiting.zip d:=List.take_of_length_le (by rw[List.length_zip];omega);rw[this]}
structure Asg(people:List ze)(dt:Nat→Bool)(steps:List zt)(m:Int)(held:List zb)(waiting:List za)(out:List zb)(left:List za):Prop where
 given:∀h∈out,∃w∈waiting,zpG people dt steps m w h
 sub:left.Sublist waiting
 gone:∀h∈out,∀w∈left,h.ticket≠w.ticket
 apart:(held++out).Pairwise (fun a b=>a.ticket≠b.ticket)
 cap:(∀(j:Nat) (p:ze),people[j]?=some p→wOf held p.no≤p.capacity)→∀(j:Nat) (p:ze),people[j]?=some p→wOf (held++out) p.no≤p.capacity
 still:∀(j:Nat) (p:ze),people[j]?=some p→dt j=false→wOf (held++out) p.no=wOf held p.no
 none_:out=[]→left=waiting
 left:∀w∈left,∀(q:Nat) (p:ze),people[q]?=some p→dt q=true→ablB p (zaQ w steps m)=true→p.capacity-wOf (held++out) p.no<w.weight
 few:out.length≤waiting.length
theorem zlT:∀(a:List Bool) (waiting:List za),a.length=waiting.length→(∀b∈a,b=false)→zcP a waiting=waiting
 | [], [],_,_=>rfl
 | [],w::l,h,_=>by simp at h
 | b::a, [],h,_=>by simp at h
 | b::a,w::l,h,hb=>by
  have h1:=hb b (List.mem_cons_self ..)
  subst h1
  have:=zlT a l (by simpa using h) fun d c=>hb d (List.mem_cons_of_mem _ c)
  unfold zcP at this ⊢
  rw[List.zip_cons_cons,List.filterMap_cons]
  simp only[Bool.false_eq_true,if_false]
  rw[this]
theorem zkI{R:zl}(t:zgN R.assigner.people R.assigner.cals)(z:R.assigner.away.length=R.assigner.people.length){held:List zb}{waiting:List za}{m:Int}(g:0≤m∧m≤3000000)(h:zdX waiting)(u:AllOK R.assigner.people held)(D:held.length≤400)(E:held.Pairwise (fun I J=>I.ticket≠J.ticket))(A:∀f∈held,∀w∈waiting,f.ticket≠w.ticket):
  ∃out left,je R held waiting m=some (out,left)∧Asg R.assigner.people (zdo R.assigner.people R.assigner.cals R.assigner.away m) R.assigner.steps m held waiting out left:=by{
 obtain⟨d,F,G⟩:=zqf t z u m g;have M:=h.1;have B:JS 281474976710656 (waiting.length:Int) (false:Bool)=some (List.replicate waiting.length false):=by rw[JS,if_pos (by omega),Int.toNat_natCast]
 obtain⟨i,out,O,H,b⟩:=zrP R.assigner.steps g t.ppl h u D E A G;refine⟨out,zcP i waiting,?_,?_⟩;unfold je;rw[F,Option.bind_some,B,Option.bind_some,zhg waiting h,Option.bind_some,H,Option.bind_some,Lp.andThen_fin];dsimp only;rw[znU h b.len,Option.bind_some,Lp.andThen_fin]
 have y:∀w∈zcP i waiting,∃e a:Nat,e<waiting.length∧(ji waiting)[e]?=some (a:Int)∧waiting[a]?=some w∧i[a]?=some false:=fun w f=>by
  obtain⟨a,n,r⟩:=zmc f
  obtain⟨e,c,j⟩:=zpo (List.getElem?_eq_some_iff.1 n).1
  exact⟨e,a,c,j,n,r⟩
 refine⟨fun f g=>?_,zpZ i waiting,fun f g w q=>?_,b.apart,b.cap,b.still,fun s=>zlT i waiting b.len (b.non s),fun w q K L n r c=>?_,b.few⟩;obtain⟨e,a,w,_,_,c,_,k⟩:=b.given f g;exact⟨w,List.mem_of_getElem? c,k⟩;obtain⟨e,a,x,_,_,c,j,k⟩:=b.given f g;obtain⟨o,l,p⟩:=zmc q;rw[k.1];have N:a≠o:=by rintro rfl;rw[j]at p;cases p
 have l1:=(List.getElem?_eq_some_iff.1 c).1;have l2:=(List.getElem?_eq_some_iff.1 l).1;rcases Nat.lt_or_ge a o with v|v;exact (h.2 o w l2 l).2.2 a x v c;exact fun s=>(h.2 a x l1 c).2.2 o w (by omega) l s.symm;obtain⟨e,a,j,k,l,p⟩:=y w q;exact b.left e a w j k l p K L n r c}
end Go.Proofs.YtdpmeckhhcjoiaaGreatDoor.M
namespace Go.Proofs.YtdpmeckhhcjoiaaGreatDoor.M
open Go Go.Pu
set_option linter.unusedSimpArgs false
set_option linter.unusedVariables false
theorem zoZ:∀(n:Nat) (l:List Nat),l.Nodup→(∀a∈l,a<n)→l.length≤n
 | 0,l,_,h=>by
  cases l with
  | nil=>simp
  | cons a l=>exact absurd (h a (by simp)) (Nat.not_lt_zero a)
 | n+1,l,hn,h=>by
  have h1:=zoZ n (l.erase n) (hn.erase n) fun a b=>by
   have:=(hn.mem_erase_iff).1 b
   have:=h a this.2
   omega
  have:l.length≤(l.erase n).length+1:=by
   rw[List.length_erase]
   split <;> omega
  omega
theorem zrv(l:List Int)(d:l.Nodup)(b:∀a∈l,1≤a∧a≤400):l.length≤400:=by{
 have:=zoZ 400 (l.map fun a=>(a-1).toNat) (List.pairwise_map.2 (List.Pairwise.imp_of_mem (fun {i j} e f c m=>c (by have:=b i e;have:=b j f;omega)) d)) fun a g=>by
  obtain⟨k,h,rfl⟩:=List.mem_map.1 g
  have:=b k h
  omega
 simpa using this}
theorem zkU(a b:List zb)(l:a.length+b.length≤1000):Qw [a,b]=some (a++b):=by{
 have c:w64 (0+(a.length:Int))=(a.length:Int):=by rw[ZB (by omega) (by omega)];omega
 have d:w64 ((a.length:Int)+(b.length:Int))=(a.length:Int)+(b.length:Int):=by rw[ZB (by omega) (by omega)]
 have e:decide ((a.length:Int)<0)=false:=decide_eq_false (by omega);have f:decide ((a.length:Int)+(b.length:Int)<0)=false:=decide_eq_false (by omega)
 have g:QP (α:=zb) ((a.length:Int)+(b.length:Int))=some []:=by
  unfold QP
  rw[if_pos (by omega)]
 have h:zC 4398046511104 ([]:List zb) a=some a:=by
  unfold zC
  rw[if_pos (by simp;omega),List.nil_append]
 have i:zC 4398046511104 a b=some (a++b):=by
  unfold zC
  rw[if_pos (by omega)]
 have j:idx [a,b] ((0:Nat):Int)=some a:=rfl;have k:idx [a,b] ((0+1:Nat):Int)=some b:=rfl;unfold Qw;simp only[List.length_cons,List.length_nil,Nat.zero_add,Nat.reduceAdd,zS,j,k,Option.bind_some,c,d,e,f,Bool.false_eq_true,if_false,Lp.andThen_fin,g,h,i]}
structure RtOK(people:List ze)(cals:List zi)(steps:List zt):Prop where
 duty:zgN people cals
 st:StOK steps
 sk:∀p∈people,SkOK p.skills
structure Same(w v:za):Prop where
 tick:w.ticket=v.ticket
 urg:w.urgency=v.urgency
 since:w.since=v.since
 needs:w.needs=v.needs
 wei:w.weight=v.weight
structure RInv(people:List ze)(cals:List zi)(steps:List zt)(t:Int)(R:zl):Prop where
 ppl:R.assigner.people=people
 cls:R.assigner.cals=cals
 stp:R.assigner.steps=steps
 awl:R.assigner.away.length=people.length
 few:R.waiting.length≤200
 fine:∀w∈R.waiting,WkOK w∧w.since≤t
 held:∀h∈R.held,(1≤h.weight∧h.weight≤20)∧0≤pos people h.person∧(0≤h.since∧h.since≤t)∧(1≤h.ticket∧h.ticket≤400)
 tick:(R.held.map (·.ticket)++R.waiting.map (·.ticket)).Nodup
 cap:∀(k:Nat) (p:ze),people[k]?=some p→wOf R.held p.no≤p.capacity
 off:∀(k:Nat) (p:ze),people[k]?=some p→R.assigner.away[k]?=some true→wOf R.held p.no=0
 workW:∀w∈R.waiting,∃v,zu R.work w.ticket=some v∧Same w v∧WkOK v
 workH:∀h∈R.held,∃v,zu R.work h.ticket=some v∧v.ticket=h.ticket∧v.weight=h.weight∧WkOK v∧v.since≤t
section
variable{people:List ze}{cals:List zi}{steps:List zt}{t m:Int}{R:zl}
theorem RInv.mono(a:RInv people cals steps t R)(e:t≤m):RInv people cals steps m R :=
 ⟨a.ppl,a.cls,a.stp,a.awl,a.few,fun w f=>⟨(a.fine w f).1,Int.le_trans (a.fine w f).2 e⟩,fun c b=>⟨(a.held c b).1,(a.held c b).2.1,⟨(a.held c b).2.2.1.1,Int.le_trans (a.held c b).2.2.1.2 e⟩,(a.held c b).2.2.2⟩,a.tick,a.cap,a.off,a.workW,fun c b=>by
  obtain⟨g,h,i,j,d,k⟩:=a.workH c b
  exact⟨g,h,i,j,d,Int.le_trans k e⟩⟩
theorem RInv.now(a:RInv people cals steps t R)(n:Int):RInv people cals steps t ⟨R.assigner,n,R.waiting,R.held,R.work⟩ :=
 ⟨a.ppl,a.cls,a.stp,a.awl,a.few,a.fine,a.held,a.tick,a.cap,a.off,a.workW,a.workH⟩
theorem RInv.heldA(a:RInv people cals steps t R):R.held.Pairwise fun b c=>b.ticket≠c.ticket:=List.pairwise_map.1 (List.nodup_append.1 a.tick).1
theorem RInv.waitA(a:RInv people cals steps t R):R.waiting.Pairwise fun b c=>b.ticket≠c.ticket:=List.pairwise_map.1 (List.nodup_append.1 a.tick).2.1
theorem RInv.cross(d:RInv people cals steps t R):∀a∈R.held,∀w∈R.waiting,a.ticket≠w.ticket:=fun a b w c=>(List.nodup_append.1 d.tick).2.2 _ (List.mem_map_of_mem b) _ (List.mem_map_of_mem c)
theorem RInv.hlen(a:RInv people cals steps t R):R.held.length≤400:=by{
 have:=zrv (R.held.map (·.ticket)) (List.nodup_append.1 a.tick).1 fun e b=>by
  obtain⟨d,c,rfl⟩:=List.mem_map.1 b
  exact (a.held d c).2.2.2
 simpa using this}
theorem RInv.all(a:RInv people cals steps t R):AllOK people R.held:=⟨by have:=a.hlen;omega,fun c b=>⟨(a.held c b).1,(a.held c b).2.1⟩⟩
theorem zse{l:List za}(c:l.length≤200)(d:∀w∈l,WkOK w)(e:l.Pairwise fun j k=>j.ticket≠k.ticket):zdX l:=by{refine⟨c,fun m w o b=>?_⟩;have a:=d w (List.mem_of_getElem? b);refine⟨a.tick,⟨a.wei,a.urg,a.since,a.former,a.needs.len⟩,fun n p f g=>?_⟩;obtain⟨h,rfl⟩:=List.getElem?_eq_some_iff.1 g;obtain⟨i,rfl⟩:=List.getElem?_eq_some_iff.1 b;exact List.pairwise_iff_getElem.1 e n m h i f}
theorem RInv.wok(a:RInv people cals steps t R):zdX R.waiting:=zse a.few (fun w b=>(a.fine w b).1) a.waitA
def zrI(people:List ze)(cals:List zi)(steps:List zt)(work:List (Int×za))(h:zb):Prop :=
 ∃v,zu work h.ticket=some v∧WkOK v∧(0≤h.since∧h.since≤3000000)∧∃(j:Nat) (p:ze),people[j]?=some p∧h.person=p.no∧onB cals h.since p=true∧ablB p (zaQ v steps h.since)=true
def Idle(people:List ze)(cals:List zi)(steps:List zt)(m:Int)(R:zl):Prop :=
 ∀w∈R.waiting,∀(k:Nat) (p:ze),people[k]?=some p→R.assigner.away[k]?=some false→onB cals m p=true→ablB p (zaQ w steps m)=true→p.capacity-wOf R.held p.no<w.weight
theorem zru(N:RtOK people cals steps)(c:RInv people cals steps t R)(O:0≤m∧m≤3000000)(K:t≤m):
  ∃out p,QR R m=some (out,p)∧RInv people cals steps m p∧p.assigner=R.assigner∧p.now=R.now∧p.work=R.work∧p.held=R.held++out∧(∀d∈out,zrI people cals steps R.work d)∧Idle people cals steps m p:=by{
 have j:=c.mono K;unfold QR;by_cases z:R.waiting=[];rw[if_pos (by rw[z];rfl)];exact⟨[],R,rfl,j,rfl,rfl,rfl,by simp,(fun d g=>by cases g),(fun w a=>by rw[z]at a;cases a)⟩
 rw[if_neg (by
  have:0<R.waiting.length:=List.length_pos_iff.2 z
  simp
  exact z)]
 obtain⟨out,left,B,i⟩:=zkI (R:=R) (held:=R.held) (waiting:=R.waiting) (m:=m) (by rw[c.ppl,c.cls];exact N.duty) (by rw[c.ppl];exact c.awl) O c.wok (by rw[c.ppl];exact c.all) c.hlen c.heldA c.cross;rw[c.ppl,c.cls,c.stp]at i;have J:=c.few;have hlen:=c.hlen;have T:=i.few;rw[B,Option.bind_some];dsimp only;rw[zkU _ _ (by omega),Option.bind_some];have sub:∀w∈left,w∈R.waiting:=fun w a=>i.sub.subset a
 have H:∀(f:Nat) (e:ze),people[f]?=some e→zdo people cals R.assigner.away m f=true→onB cals m e=true∧R.assigner.away[f]?=some false:=fun f e P k=>by
  unfold zdo at k
  rw[P]at k
  cases v:R.assigner.away[f]? with
  | none=>rw[v]at k;cases k
  | some b =>
   rw[v]at k
   simp only[Bool.and_eq_true,Bool.not_eq_true']at k
   exact⟨k.1,by rw[k.2]⟩
 have D:∀d∈out,∃w∈R.waiting,d.ticket=w.ticket∧d.weight=w.weight∧d.since=m∧∃(f:Nat) (e:ze),people[f]?=some e∧d.person=e.no∧onB cals m e=true∧R.assigner.away[f]?=some false∧ablB e (zaQ w steps m)=true:=fun d g=>by
  obtain⟨w,a,n,q,r,f,e,s,x,A,E⟩:=i.given d g
  obtain⟨y,o⟩:=H f e s A
  exact⟨w,a,n,q,r,f,e,s,x,y,o,E⟩
 refine⟨out,_,rfl,⟨j.ppl,j.cls,j.stp,j.awl,Nat.le_trans i.sub.length_le J,fun w a=>j.fine w (sub w a),fun d g=>?_,?_,i.cap c.cap,fun u e l a=>?_,fun w a=>j.workW w (sub w a),fun d g=>?_⟩,rfl,rfl,rfl,rfl,fun d g=>?_,fun w a u e l v L M=>?_⟩;rcases List.mem_append.1 g with h|h;exact j.held d h;obtain⟨w,a,n,q,r,f,e,s,x,A,E,I⟩:=D d h;have l:=(c.fine w a).1;exact⟨by rw[q];exact l.wei,by rw[x];exact znS s,by omega,by rw[n];exact l.tick⟩;dsimp only;rw[List.nodup_append];refine⟨List.pairwise_map.2 i.apart,List.Sublist.nodup (i.sub.map _) (List.nodup_append.1 c.tick).2.1,fun U Q W S B=>?_⟩;obtain⟨d,g,rfl⟩:=List.mem_map.1 Q;obtain⟨w,a,rfl⟩:=List.mem_map.1 S;rcases List.mem_append.1 g with h|h;exact c.cross d h w (sub w a) B;exact i.gone d h w a B;rw[← c.off u e l a];refine i.still u e l ?_;cases k:zdo people cals R.assigner.away m u with
 | false=>rfl
 | true =>
  have:=(H u e l k).2
  dsimp only at a
  rw[a]at this
  cases this
 rcases List.mem_append.1 g with h|h;exact j.workH d h;obtain⟨w,a,n,q,r,_⟩:=D d h;obtain⟨G,y,o,F⟩:=c.workW w a;exact⟨G,by rw[n];exact y,by rw[← o.tick,n],by rw[← o.wei,q],F,by rw[← o.since];exact (j.fine w a).2⟩;obtain⟨w,a,n,q,r,f,e,s,x,A,E,I⟩:=D d g;obtain⟨G,y,o,F⟩:=c.workW w a;refine⟨G,by rw[n];exact y,F,by omega,f,e,s,x,by rw[r];exact A,?_⟩;rw[r, ← zoG o.since o.needs];exact I;refine i.left w a u e l ?_ M;unfold zdo;rw[l];dsimp only at v;rw[v];simp[L]}
end
end Go.Proofs.YtdpmeckhhcjoiaaGreatDoor.M
