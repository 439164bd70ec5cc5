import Derived.Test.YtdpmeckhhcjoiaaGreatDoorRouteRunsM
import Derived.Test.YtdpmeckhhcjoiaaGreatDoorPu
namespace Go.Proofs.YtdpmeckhhcjoiaaGreatDoor.M
open Go Go.Pu
set_option linter.unusedSimpArgs false
set_option linter.unusedVariables false
def ChOk(c:ZE):Prop:=1≤c.at_∧c.at_≤3000000∧-1440≤c.offset∧c.offset≤1440
def zex(z:Zy):Prop:=(-1440≤z.offset∧z.offset≤1440)∧(∀(j:Nat) (c:ZE),z.changes[j]?=some c→ChOk c)∧∀(j:Nat) (c d:ZE),z.changes[j]?=some c→z.changes[j+1]?=some d→c.at_<d.at_
theorem zje(n:Int):(!(Zo n (-1440) 1440))=qm n:=by{simp only[Zo,qm];rw[Bool.eq_iff_iff];simp}
theorem zrO(z:Zy):∃j,zbE z=some j∧zbw z=some j∧(j=0→zex z):=by{
 unfold zbE zbw;rw[zje];by_cases r:qm z.offset=true;simp only[r,if_true];exact⟨2,rfl,rfl,fun b=>absurd b (by decide)⟩;simp only[r,if_false];by_cases A:(60:Int)<(z.changes.length:Int);simp only[A,decide_true,if_true];exact⟨4,rfl,rfl,fun b=>absurd b (by decide)⟩;simp only[A,decide_false,Bool.false_eq_true,if_false];simp only[zje,if_true]
 have J : -1440≤z.offset∧z.offset≤1440:=by
  simp[qm]at r;omega
 have M:=zcE (R:=Int) z.changes.length
  (b:=fun (N:Nat) (v:Int×Int)=>Option.bind (idx z.changes (N:Int)) fun k=>if ((!(Zo k.at_ 1 3000000))||qm k.offset)=true then some (.rt 2) else if (decide (k.at_≤v.1))=true then some (.rt 5) else if (k.offset==v.2)=true then some (.rt 1) else some (.nx (k.at_,k.offset)))
  (b':=fun n O=>Option.bind (idx z.changes (n:Int)) fun l=>Option.bind (if (decide (l.at_<1))=true then (some true) else (if (decide ((3000000:Int)<l.at_))=true then (some true) else (some (qm l.offset)))) fun P=>if P=true then some (.rt 2) else Option.bind (if (decide ((0:Int)<(n:Int)))=true then (Option.bind (idx z.changes (w64 ((n:Int)-1))) fun o=>some (decide (l.at_≤o.at_))) else (some false)) fun Q=>if Q=true then some (.rt 5) else if (l.offset==O)=true then some (.rt 1) else some (.nx l.offset))
  (s:=(0,z.offset)) (s':=z.offset)
  (fun j=>j≠0) (fun c u B=>u.2=B∧(c=0→u.1=0)∧(∀(d:Nat) (a:ZE),d<c→z.changes[d]?=some a→ChOk a)∧(∀(d:Nat) (a g:ZE),d+1<c→z.changes[d]?=some a→z.changes[d+1]?=some g→a.at_<g.at_)∧∀a,0<c→z.changes[c-1]?=some a→u.1=a.at_)
  ⟨rfl,fun _=>rfl,fun d a b=>absurd b (Nat.not_lt_zero _),fun d a g b=>absurd b (Nat.not_lt_zero _),fun a b=>absurd b (Nat.lt_irrefl _)⟩ ?_
 rcases M with ⟨j,h,i,S⟩|⟨a1,a0,h,i,D⟩;rw[h,i];exact⟨j,rfl,rfl,fun b=>absurd b S⟩;rw[h,i];refine⟨0,rfl,rfl,fun _=>⟨J,fun d a e=>D.2.2.1 d a (List.getElem?_eq_some_iff.1 e).1 e,fun d a g e f=>D.2.2.2.1 d a g (List.getElem?_eq_some_iff.1 f).1 e f⟩⟩;rintro c⟨I,Z⟩B T⟨rfl,E,K,L,m⟩;simp only at E m ⊢;obtain⟨a,e⟩:∃a,z.changes[c]?=some a:=⟨_,List.getElem?_eq_getElem T⟩;have U:w64 ((c:Int)-1)=(c:Int)-1:=ZB (by omega) (by omega);simp only[Zg,e,Option.bind_some,U];have w:Zo a.at_ 1 3000000=(decide (1≤a.at_)&&decide (a.at_≤3000000)):=rfl;by_cases p:1≤a.at_∧a.at_≤3000000;have h:decide (a.at_<1)=false:=by simp;omega
 have R:decide ((3000000:Int)<a.at_)=false:=by simp;omega
 have i:Zo a.at_ 1 3000000=true:=by rw[w];simp[p]
 simp only[h,R,i,Bool.not_true,Bool.false_or,Bool.false_eq_true,if_false,Option.bind_some];by_cases s:qm a.offset=true;simp only[s,if_true];exact Or.inl ⟨2,rfl,rfl,by decide⟩;simp only[s,Bool.false_eq_true,if_false];have x : -1440≤a.offset∧a.offset≤1440:=by simp[qm]at s;omega
 have same:(if (decide ((0:Int)<(c:Int)))=true then (Option.bind (idx z.changes ((c:Int)-1)) fun o=>some (decide (a.at_≤o.at_))) else (some false))=some (decide (a.at_≤I)):=by
  by_cases W:0<c
  have:(0:Int)<(c:Int):=by omega
  simp only[this,decide_true,if_true]
  rw[show (c:Int)-1=((c-1:Nat):Int) by omega,zdx _ _ (by omega),Option.bind_some,m _ W (List.getElem?_eq_getElem (by omega))]
  obtain rfl:c=0:=by omega
  rw[E rfl]
  have:¬a.at_≤0:=by omega
  simp[this]
 rw[same,Option.bind_some];by_cases F:a.at_≤I;simp only[F,decide_true,if_true];exact Or.inl ⟨5,rfl,rfl,by decide⟩;simp only[F,decide_false,Bool.false_eq_true,if_false];by_cases G:(a.offset==Z)=true;simp only[G,if_true];exact Or.inl ⟨1,rfl,rfl,by decide⟩;simp only[G,Bool.false_eq_true,if_false];refine Or.inr ⟨_,_,rfl,rfl,rfl,fun b=>absurd b (by omega),?_,?_,?_⟩;intro d g t f;rcases Nat.lt_or_eq_of_le (Nat.le_of_lt_succ t)with b|rfl
 exact K d g b f;rw[e]at f;cases f;exact⟨p.1,p.2,x.1,x.2⟩;intro d H X t y q;rcases Nat.lt_or_eq_of_le (Nat.le_of_lt_succ t)with b|rfl
 exact L d H X b y q;rw[e]at q;cases q;have:=m H (by omega) (by simpa using y);omega;intro g _ f;rw[Nat.add_sub_cancel,e]at f;cases f;rfl;have i:Zo a.at_ 1 3000000=false:=by rw[w];simp;omega
 have h:(if (decide (a.at_<1))=true then (some true) else (if (decide ((3000000:Int)<a.at_))=true then (some true) else (some (qm a.offset))))=some true:=by
  by_cases b:a.at_<1
  simp[b]
  have:(3000000:Int)<a.at_:=by omega
  simp[b,this]
 simp only[h,i,if_true,Bool.not_false,Bool.true_or,Option.bind_some];exact Or.inl ⟨2,rfl,rfl,by decide⟩}
theorem zss(a b:Int):Jq [a,b]=some (if a≠0 then a else b):=by{by_cases c:a=0 <;> by_cases hb:b=0 <;> simp[Jq,zS,idx,c,hb,Lp.andThen]}
def zeq(z:Zy)(m:Int):Nat→Int
 | 0=>z.offset
 | k+1=>match z.changes[k]? with
  | some c=>if c.at_≤m then c.offset else zeq z m k
  | none=>zeq z m k
def off(z:Zy)(m:Int):Int:=zeq z m z.changes.length
theorem zoj{z:Zy}(a:zex z)(m:Int)(k:Nat): -1440≤zeq z m k∧zeq z m k≤1440:=by{
 induction k with
 | zero=>exact a.1
 | succ k ih =>
  rw[zeq]
  cases h:z.changes[k]? with
  | none=>exact ih
  | some c =>
   simp only
   split
   exact (a.2.1 k c h).2.2
   exact ih}
theorem zqa{z:Zy}(a:zex z)(m:Int): -1440≤off z m∧off z m≤1440:=zoj a m _
theorem znF(z:Zy)(m:Int):zbK z m=some (off z m):=by{
 unfold zbK
 obtain⟨l,j,rfl⟩:=ZU (R:=Int) (b:=fun e f=>Option.bind (Option.bind (idx z.changes (e:Int)) fun b=>Option.bind (if (decide (b.at_≤m))=true then some b.offset else some f) fun g=>some g) fun h=>some (.nx h)) z.changes.length
  (fun a k=>k=zeq z m a) (s:=z.offset) rfl (by
   rintro a _ c rfl
   have i:z.changes[a]?=some z.changes[a]:=List.getElem?_eq_getElem c
   rw[zdx _ _ c,zeq,i]
   by_cases d:z.changes[a].at_≤m
   ·simp[d]
   ·simp[d])
 rw[j];rfl}
def fr(z:Zy):Nat→Int
 | 0=>0
 | k+1=>match z.changes[k]? with
  | some c=>c.at_
  | none=>3000001
def ofs(z:Zy):Nat→Int
 | 0=>z.offset
 | k+1=>match z.changes[k]? with
  | some c=>c.offset
  | none=>0
theorem zsQ{z:Zy}(b:zex z)(k:Nat)(f:k≤z.changes.length):fr z k<fr z (k+1):=by{
 cases k with
 | zero =>
  rw[fr,fr]
  cases h:z.changes[0]? with
  | none=>simp
  | some c=>have:=(b.2.1 0 c h).1;simp only;omega
 | succ k =>
  have a:z.changes[k]?=some z.changes[k]:=List.getElem?_eq_getElem (by omega)
  generalize z.changes[k]=c at a
  rw[fr,fr,a]
  have e:=b.2.1 k c a
  cases h:z.changes[k+1]? with
  | none=>have:=e.2.1;simp only;omega
  | some d=>exact b.2.2 k c d a h}
theorem zlu{z:Zy}(b:zex z)(k:Nat):∀a,k+a≤z.changes.length+1→fr z k≤fr z (k+a)
 | 0,_=>Int.le_refl _
 | a+1,h=>by
  have h1:=zlu b k a (by omega)
  have c:=zsQ b (k+a) (by omega)
  rw[← Nat.add_assoc]
  omega
theorem zlN(z:Zy):fr z (z.changes.length+1)=3000001:=by{rw[fr];simp}
theorem ziL{z:Zy}(a:zex z)(k:Nat)(d:k≤z.changes.length+1):0≤fr z k∧fr z k≤3000001:=by{have b:=zlu a 0 k (by omega);have c:=zlu a k (z.changes.length+1-k) (by omega);rw[Nat.zero_add,fr]at b;rw[show k+(z.changes.length+1-k)=z.changes.length+1 by omega,zlN]at c;exact⟨b,c⟩}
theorem zmt{z:Zy}(a:zex z)(k:Nat): -1440≤ofs z k∧ofs z k≤1440:=by{
 cases k with
 | zero=>exact a.1
 | succ k =>
  rw[ofs]
  cases h:z.changes[k]? with
  | none=>simp
  | some c=>exact (a.2.1 k c h).2.2}
theorem zkz{z:Zy}(f:zex z)(k:Nat)(g:k≤z.changes.length)(m:Int)(d:fr z k≤m)(h:m<fr z (k+1)):off z m=ofs z k:=by{
 have base:zeq z m k=ofs z k:=by
  cases k with
  | zero=>rfl
  | succ k =>
   have b:z.changes[k]?=some z.changes[k]:=List.getElem?_eq_getElem (by omega)
   generalize z.changes[k]=c at b
   rw[fr,b]at d
   rw[zeq,ofs,b]
   simp only at d ⊢
   rw[if_pos d]
 have step:∀a,k+a≤z.changes.length→zeq z m (k+a)=zeq z m k:=by
  intro a
  induction a with
  | zero=>intro _;rfl
  | succ a ih =>
   intro i
   rw[← Nat.add_assoc,zeq,ih (by omega)]
   have b:z.changes[k+a]?=some z.changes[k+a]:=List.getElem?_eq_getElem (by omega)
   have e:=zlu f (k+1) a (by omega)
   rw[show k+1+a=k+a+1 by omega,show fr z (k+a+1)=z.changes[k+a].at_ by rw[fr,b]]at e
   rw[b]
   simp only at e ⊢
   rw[if_neg (by omega)]
 have:=step (z.changes.length-k) (by omega);rw[show k+(z.changes.length-k)=z.changes.length by omega]at this;unfold off;rw[this,base]}
end Go.Proofs.YtdpmeckhhcjoiaaGreatDoor.M
namespace Go.Proofs.YtdpmeckhhcjoiaaGreatDoor.M
open Go Go.Pu
set_option linter.unusedSimpArgs false
set_option linter.unusedVariables false
theorem zgu(a b:Int):zh b a = - zh a b:=by{
 have f:∀e:Int,Ju e=false:=fun e=>by simp[Ju]
 unfold zh;simp only[f,Bool.false_eq_true,if_false];by_cases d:a<b;have c:¬b<a:=by omega
 simp[d,c];by_cases c:b<a <;> simp[d,c]}
theorem zbR(a b:Int):zh a b=if a<b then -1 else if b<a then 1 else 0:=by{
 have f:∀d:Int,Ju d=false:=fun d=>by simp[Ju]
 unfold zh;simp only[f,Bool.false_eq_true,if_false];by_cases c:a<b;simp[c];by_cases e:b<a <;> simp[c,e]}
theorem zrw(a b c:Int):JA [a,b,c]=some (if a≠0 then a else if b≠0 then b else c):=by{by_cases d:a=0 <;> by_cases hb:b=0 <;> by_cases hc:c=0 <;> simp[JA,zS,idx,d,hb,hc,Lp.andThen]}
def ShOk(s:zK):Prop:=0≤s.from_∧s.from_≤1439∧s.from_<s.to_∧s.to_≤s.from_+1440
def ShLe(p s:zK):Prop:=p.day<s.day∨(p.day=s.day∧p.from_≤s.from_)
def zmQ(l:List zK):Prop:=(∀(j:Nat) (s:zK),l[j]?=some s→ShOk s)∧∀(j:Nat) (p s:zK),l[j]?=some p→l[j+1]?=some s→ShLe p s
theorem zmx(l:List zK)(g:Bool)(T:l.length≤60):∃p,zaR l (!g)=some p∧Ji l g=some p∧(p=0→zmQ l∧(g=false→∀(j:Nat) (s:zK),l[j]?=some s→s.day=0)):=by{
 unfold zaR Ji
 have K:=zcE (R:=Int) l.length
  (b:=fun o (_:Unit)=>Option.bind (idx l (o:Int)) fun k=>if ((!g)&&(k.day != 0))=true then some (.rt 1) else if ((((!(Zo k.day 0 6))||(!(Zo k.from_ 0 1439)))||(decide (k.to_≤k.from_)))||(decide ((w64 (k.from_+1440))<k.to_)))=true then some (.rt 2) else Option.bind (if (decide ((0:Int)<(o:Int)))=true then (Option.bind (idx l (w64 ((o:Int)-1))) fun L=>Option.bind (zfJ k L) fun M=>some (!M)) else (some false)) fun N=>if N=true then some (.rt 5) else some (.nx ()))
  (b':=fun o (_:Unit)=>Option.bind (α:=Lp _ _) (Option.bind (idx l (o:Int)) fun d=>if ((!g)&&(d.day != 0))=true then some (.rt 1) else if ((((((decide (d.day<0))||(decide ((6:Int)<d.day)))||(decide (d.from_<0)))||(decide ((1440:Int)≤d.from_)))||(decide (d.to_≤d.from_)))||(decide ((w64 (d.from_+1440))<d.to_)))=true then some (.rt 2) else Option.bind (α:=Lp _ _) (if (decide ((0:Int)<(o:Int)))=true then Option.bind (idx l (w64 ((o:Int)-1))) fun y=>Option.bind (JA ([(zh y.day d.day),(zh y.from_ d.from_),(zh y.to_ d.to_)]:List Int)) fun I=>if (decide ((0:Int)≤I))=true then some (.rt 5) else some (.fin ()) else some (.fin ())) fun O=>O.andThen (fun B=>some (.rt B)) fun U=>some (.fin ())) fun o25=>o25.andThen (fun B=>some (.rt B)) fun W=>some (.nx ()))
  (s:=()) (s':=()) (fun p=>p≠0) (fun b _ _=>(∀(j:Nat) (s:zK),j<b→l[j]?=some s→ShOk s∧(g=false→s.day=0))∧∀(j:Nat) (a s:zK),j+1<b→l[j]?=some a→l[j+1]?=some s→ShLe a s)
  ⟨fun j s f=>absurd f (Nat.not_lt_zero _),fun j a s f=>absurd f (Nat.not_lt_zero _)⟩ ?_
 rcases K with ⟨p,h,i,S⟩|⟨a0,Z,h,i,q,w⟩;rw[h,i];exact⟨p,rfl,rfl,fun f=>absurd f S⟩;rw[h,i];exact⟨0,rfl,rfl,fun _=>⟨⟨fun j s e=>(q j s (List.getElem?_eq_some_iff.1 e).1 e).1,fun j a s r e=>w j a s (List.getElem?_eq_some_iff.1 e).1 r e⟩,fun t j s e=>(q j s (List.getElem?_eq_some_iff.1 e).1 e).2 t⟩⟩;rintro b _ _ E⟨P,Q⟩;have z:l[b]?=some l[b]:=List.getElem?_eq_getElem E;rw[zdx _ _ E];generalize l[b]=s at z;simp only[Option.bind_some];by_cases q:((!g)&&(s.day != 0))=true;simp only[q,if_true,Option.bind_some,Lp.andThen_rt];exact .inl ⟨1,rfl,rfl,by decide⟩
 have J:g=false→s.day=0:=fun t=>by
  subst t
  simpa using q
 simp only[q,Bool.false_eq_true,if_false];by_cases w:(0≤s.day∧s.day≤6)∧(0≤s.from_∧s.from_≤1439);have t:w64 (s.from_+1440)=s.from_+1440:=ZB (by omega) (by omega);have R:w64 ((b:Int)-1)=(b:Int)-1:=ZB (by omega) (by omega);rw[t,R];by_cases F:s.from_<s.to_∧s.to_≤s.from_+1440;have h:((((!(Zo s.day 0 6))||(!(Zo s.from_ 0 1439)))||(decide (s.to_≤s.from_)))||(decide (s.from_+1440<s.to_)))=false:=by simp[Zo];omega
 have i:((((((decide (s.day<0))||(decide ((6:Int)<s.day)))||(decide (s.from_<0)))||(decide ((1440:Int)≤s.from_)))||(decide (s.to_≤s.from_)))||(decide (s.from_+1440<s.to_)))=false:=by simp;omega
 simp only[h,i,Bool.false_eq_true,if_false];have e:ShOk s:=⟨w.2.1,w.2.2,F.1,F.2⟩
 have D:∀(j:Nat) (n:zK),j<b+1→l[j]?=some n→ShOk n∧(g=false→n.day=0):=fun j n x m=>by
  rcases Nat.lt_or_eq_of_le (Nat.le_of_lt_succ x)with f|rfl
  exact P j n f m
  rw[z]at m;cases m;exact⟨e,J⟩
 by_cases G:(0:Int)<(b:Int);have r:l[b-1]?=some l[b-1]:=List.getElem?_eq_getElem (by omega);simp only[G,decide_true,if_true];rw[show (b:Int)-1=((b-1:Nat):Int) by omega,Zg,r];generalize l[b-1]=a at r;unfold zfJ;simp only[Option.bind_some,zrw];rw[zgu a.day,zgu a.from_,zgu a.to_];by_cases c:0<(if zh a.day s.day≠0 then -zh a.day s.day else if zh a.from_ s.from_≠0 then -zh a.from_ s.from_ else -zh a.to_ s.to_)
 have u:(if -zh a.day s.day≠0 then -zh a.day s.day else if -zh a.from_ s.from_≠0 then -zh a.from_ s.from_ else -zh a.to_ s.to_)>0:=by
  split at c <;> split <;> (try split at c) <;> (try split) <;> omega
 have A:¬0≤(if zh a.day s.day≠0 then zh a.day s.day else if zh a.from_ s.from_≠0 then zh a.from_ s.from_ else zh a.to_ s.to_):=by
  split at c <;> split <;> (try split at c) <;> (try split) <;> omega
 have X:=Int.lt_of_lt_of_le u (Int.le_refl _);simp only[gt_iff_lt]at u;simp only[u,A,decide_true,decide_false,Bool.not_true,Bool.false_eq_true,if_false,Option.bind_some,Lp.andThen_fin];refine .inr ⟨(),(),by simp,by simp,D,fun j H n x v m=>?_⟩;rcases Nat.lt_or_eq_of_le (Nat.le_of_lt_succ x)with f|f
 exact Q j H n f v m;obtain rfl:j=b-1:=by omega
 rw[r]at v;cases v;rw[show b-1+1=b by omega,z]at m;cases m;rw[zbR,zbR]at c;unfold ShLe;split at c <;> (try split at c) <;> (try split at c) <;> (try split at c) <;> (try split at c) <;> (try split at c) <;> omega
 have u:¬0<(if -zh a.day s.day≠0 then -zh a.day s.day else if -zh a.from_ s.from_≠0 then -zh a.from_ s.from_ else -zh a.to_ s.to_):=by
  split at c <;> split <;> (try split at c) <;> (try split) <;> omega
 have A:0≤(if zh a.day s.day≠0 then zh a.day s.day else if zh a.from_ s.from_≠0 then zh a.from_ s.from_ else zh a.to_ s.to_):=by
  split at c <;> split <;> (try split at c) <;> (try split) <;> omega
 simp only[u,A,decide_true,decide_false,Bool.not_false,if_true,Option.bind_some,Lp.andThen_rt];exact .inl ⟨5,rfl,rfl,by decide⟩;simp only[G,decide_false,Bool.false_eq_true,if_false,Option.bind_some,Lp.andThen_fin];exact .inr ⟨(),(),by simp,by simp,D,fun j H n x v m=>by omega⟩;have h:((((!(Zo s.day 0 6))||(!(Zo s.from_ 0 1439)))||(decide (s.to_≤s.from_)))||(decide (s.from_+1440<s.to_)))=true:=by simp[Zo];omega
 have i:((((((decide (s.day<0))||(decide ((6:Int)<s.day)))||(decide (s.from_<0)))||(decide ((1440:Int)≤s.from_)))||(decide (s.to_≤s.from_)))||(decide (s.from_+1440<s.to_)))=true:=by simp;omega
 simp only[h,i,if_true,Option.bind_some,Lp.andThen_rt];exact .inl ⟨2,rfl,rfl,by decide⟩;have h:((!(Zo s.day 0 6))||(!(Zo s.from_ 0 1439)))=true:=by simp[Zo];omega
 have i:((((decide (s.day<0))||(decide ((6:Int)<s.day)))||(decide (s.from_<0)))||(decide ((1440:Int)≤s.from_)))=true:=by simp;omega
 simp only[h,i,Bool.true_or,if_true,Option.bind_some,Lp.andThen_rt];exact .inl ⟨2,rfl,rfl,by decide⟩}
def SpOk(x:Zb):Prop := -1≤x.day∧x.day≤2084∧x.shifts.length≤12∧zmQ x.shifts∧∀(j:Nat) (s:zK),x.shifts[j]?=some s→s.day=0
structure zbB(c:zi):Prop where
 zone:zex c.zone
 changes:c.zone.changes.length≤60
 week:zmQ c.week
 weeks:c.week.length≤60
 specials:c.specials.length≤200
 special:∀(j:Nat) (x:Zb),c.specials[j]?=some x→SpOk x
 rising:∀(j:Nat) (x y:Zb),c.specials[j]?=some x→c.specials[j+1]?=some y→x.day<y.day
theorem zqX{z:Zy}(a:zbE z=some 0):z.changes.length≤60:=by{unfold zbE at a;by_cases b:(!(Zo z.offset (-1440) 1440))=true;simp[b]at a;by_cases c:(60:Int)<(z.changes.length:Int);simp[b,c]at a;omega}
theorem zqo(c:zi):∃j,ZY c=some j∧QV c=some j∧(j=0→zbB c):=by{
 obtain⟨n,F,X,Z⟩:=zrO c.zone;unfold ZY QV;simp only[F,X,Option.bind_some];by_cases o:n=0;rotate_left;have:(n != 0)=true:=by simpa using o
 simp only[this,if_true];exact⟨n,rfl,rfl,fun d=>absurd d o⟩;subst o;simp only[bne_self_eq_false,Bool.false_eq_true,if_false];by_cases p:((decide ((60:Int)<(c.week.length:Int)))||(decide ((200:Int)<(c.specials.length:Int))))=true;simp only[p,if_true];exact⟨4,rfl,rfl,fun d=>absurd d (by decide)⟩;have q:c.week.length≤60∧c.specials.length≤200:=by simp at p;omega
 simp only[p,Bool.false_eq_true,if_false];obtain⟨r,G,a0,a1⟩:=zmx c.week true q.1;rw[Bool.not_true]at G;simp only[G,a0,Option.bind_some];by_cases s:r=0;rotate_left;have:(r != 0)=true:=by simpa using s
 simp only[this,if_true];exact⟨r,rfl,rfl,fun d=>absurd d s⟩;subst s;simp only[bne_self_eq_false,Bool.false_eq_true,if_false]
 have O:=zcE (R:=Int) c.specials.length
  (b:=fun i (_:Unit)=>Option.bind (idx c.specials (i:Int)) fun h=>if (!(Zo h.day (-1) 2084))=true then some (.rt 2) else Option.bind (if (decide ((0:Int)<(i:Int)))=true then (Option.bind (idx c.specials (w64 ((i:Int)-1))) fun m=>some (decide (h.day≤m.day))) else (some false)) fun P=>if P=true then some (.rt 5) else if (decide ((12:Int)<(h.shifts.length:Int)))=true then some (.rt 4) else Option.bind (zaR h.shifts true) fun D=>if (D != 0)=true then some (.rt D) else some (.nx ()))
  (b':=fun i (_:Unit)=>Option.bind (idx c.specials (i:Int)) fun h=>if ((decide (h.day<(-1)))||(decide ((2084:Int)<h.day)))=true then some (.rt 2) else Option.bind (if (decide ((0:Int)<(i:Int)))=true then (Option.bind (idx c.specials (w64 ((i:Int)-1))) fun Q=>some (decide (h.day≤Q.day))) else (some false)) fun R=>if R=true then some (.rt 5) else if (decide ((12:Int)<(h.shifts.length:Int)))=true then some (.rt 4) else Option.bind (Ji h.shifts false) fun E=>if (E != 0)=true then some (.rt E) else some (.nx ()))
  (s:=()) (s':=()) (fun j=>j≠0) (fun b _ _=>(∀(e:Nat) (a:Zb),e<b→c.specials[e]?=some a→SpOk a)∧∀(e:Nat) (a f:Zb),e+1<b→c.specials[e]?=some a→c.specials[e+1]?=some f→a.day<f.day)
  ⟨fun e a7 d=>absurd d (Nat.not_lt_zero _),fun e b0 a7 d=>absurd d (Nat.not_lt_zero _)⟩ ?_
 rcases O with ⟨j,t,u,a2⟩|⟨b1,a9,t,u,a3,a4⟩;rw[t,u];exact⟨j,rfl,rfl,fun d=>absurd d a2⟩;rw[t,u];exact⟨0,rfl,rfl,fun _=>⟨Z rfl,zqX F,(a1 rfl).1,q.1,q.2,fun e a k=>a3 e a (List.getElem?_eq_some_iff.1 k).1 k,fun e a f k g=>a4 e a f (List.getElem?_eq_some_iff.1 g).1 k g⟩⟩
 ·rintro b _ _ H ⟨S,T⟩
  have v:c.specials[b]?=some c.specials[b]:=List.getElem?_eq_getElem H
  rw[zdx _ _ H]
  generalize c.specials[b]=a at v
  have U:w64 ((b:Int)-1)=(b:Int)-1:=ZB (by omega) (by omega)
  have N:(!(Zo a.day (-1) 2084))=((decide (a.day<(-1)))||(decide ((2084:Int)<a.day))):=by
   rw[Bool.eq_iff_iff];simp[Zo]
  simp only[Option.bind_some,U,N]
  by_cases w:((decide (a.day<(-1)))||(decide ((2084:Int)<a.day)))=true
  ·simp only[w,if_true]
   exact .inl ⟨2,rfl,rfl,by decide⟩
  have I : -1≤a.day∧a.day≤2084:=by simp at w;omega
  simp only[w,Bool.false_eq_true,if_false]
  have same:∃l:Bool,(if (decide ((0:Int)<(b:Int)))=true then (Option.bind (idx c.specials ((b:Int)-1)) fun m=>some (decide (a.day≤m.day))) else (some false))=some l∧(l=false→∀f,0<b→c.specials[b-1]?=some f→f.day<a.day):=by
   by_cases J:(0:Int)<(b:Int)
   ·have a5:c.specials[b-1]?=some c.specials[b-1]:=List.getElem?_eq_getElem (by omega)
    simp only[J,decide_true,if_true]
    rw[show (b:Int)-1=((b-1:Nat):Int) by omega,Zg,a5]
    refine⟨_,rfl,fun x f _ g=>?_⟩
    cases g
    simpa using x
   ·simp only[J,decide_false,Bool.false_eq_true,if_false]
    exact⟨_,rfl,fun _ f d=>by omega⟩
  obtain⟨l,x,W⟩:=same
  rw[x]
  simp only[Option.bind_some]
  cases l with
  | true=>exact .inl ⟨5,rfl,rfl,by decide⟩
  | false =>
   simp only[Bool.false_eq_true,if_false]
   by_cases K:(12:Int)<(a.shifts.length:Int)
   ·simp only[K,decide_true,if_true]
    exact .inl ⟨4,rfl,rfl,by decide⟩
   simp only[K,decide_false,Bool.false_eq_true,if_false]
   obtain⟨y,L,a6,M⟩:=zmx a.shifts false (by omega)
   rw[Bool.not_false]at L
   simp only[L,a6,Option.bind_some]
   by_cases z:y=0
   rotate_left
   ·have:(y != 0)=true:=by simpa using z
    simp only[this,if_true]
    exact .inl ⟨y,rfl,rfl,z⟩
   subst z
   simp only[bne_self_eq_false,Bool.false_eq_true,if_false]
   have k:SpOk a:=⟨I.1,I.2,by omega,(M rfl).1,(M rfl).2 rfl⟩
   refine .inr ⟨(),(),by simp,by simp,fun e f A g=>?_,fun e f a8 A g B=>?_⟩
   ·rcases Nat.lt_or_eq_of_le (Nat.le_of_lt_succ A)with d|rfl
    ·exact S e f d g
    ·rw[v]at g;cases g;exact k
   ·rcases Nat.lt_or_eq_of_le (Nat.le_of_lt_succ A)with d|d
    ·exact T e f a8 d g B
    ·obtain rfl:e=b-1:=by omega
     rw[show b-1+1=b by omega,v]at B;cases B
     exact W rfl f (by omega) g}
end Go.Proofs.YtdpmeckhhcjoiaaGreatDoor.M
namespace Go.Proofs.YtdpmeckhhcjoiaaGreatDoor.M
open Go Go.Pu
set_option linter.unusedSimpArgs false
set_option linter.unusedVariables false
theorem zei{α:Type}{R:α→α→Prop}(tr:∀b c f,R b c→R c f→R b f):∀(l:List α),(∀(j:Nat) (d s:α),l[j]?=some d→l[j+1]?=some s→R d s)→l.Pairwise R
 | [],_=>.nil
 | [b],_=>by simp
 | b::c::l,h =>
  have ih:=zei tr (c::l) fun j d s g a=>h (j+1) d s (by simpa using g) (by simpa using a)
  List.pairwise_cons.2 ⟨fun s a=>by
   have e:=h 0 b c rfl rfl
   rcases List.mem_cons.1 a with rfl|a
   ·exact e
   ·exact tr _ _ _ e ((List.pairwise_cons.1 ih).1 s a),ih⟩
theorem zsJ(a:Int)(g : -4000000000≤a)(e:a≤4000000000):zbo a 7=some (a / 7):=by{
 have f:=zhl a 7 (by decide);have c:quo a 7=some (a.tdiv 7):=by rw[quo,if_neg (by decide),ZB (by omega) (by omega)]
 have d:rem a 7=some (a.tmod 7):=by rw[rem,if_neg (by decide)]
 unfold zbo;simp only[c,d,Option.bind_some];by_cases b:a.tmod 7<0;simp only[b,decide_true,if_true,Option.bind_some];rw[ZB (by omega) (by omega)];congr 1;omega;simp only[b,decide_false,Bool.false_eq_true,if_false,Option.bind_some];congr 1;omega}
theorem zlZ(a:Int)(g : -4000000000≤a)(e:a≤4000000000):zbo a 1440=some (a / 1440):=by{
 have f:=zhl a 1440 (by decide);have c:quo a 1440=some (a.tdiv 1440):=by rw[quo,if_neg (by decide),ZB (by omega) (by omega)]
 have d:rem a 1440=some (a.tmod 1440):=by rw[rem,if_neg (by decide)]
 unfold zbo;simp only[c,d,Option.bind_some];by_cases b:a.tmod 1440<0;simp only[b,decide_true,if_true,Option.bind_some];rw[ZB (by omega) (by omega)];congr 1;omega;simp only[b,decide_false,Bool.false_eq_true,if_false,Option.bind_some];congr 1;omega}
theorem zqv(a:Int)(g : -4000000000≤a)(e:a≤4000000000):Jb a 7=some (a / 7,a % 7):=by{
 have f:=zhl a 7 (by decide);have c:quo a 7=some (a.tdiv 7):=by rw[quo,if_neg (by decide),ZB (by omega) (by omega)]
 have d:rem a 7=some (a.tmod 7):=by rw[rem,if_neg (by decide)]
 unfold Jb;simp only[c,d,Option.bind_some];by_cases b:a.tmod 7<0;simp only[b,decide_true,if_true,Option.bind_some];rw[ZB (by omega) (by omega),ZB (by omega) (by omega)];congr 2 <;> omega
 simp only[b,decide_false,Bool.false_eq_true,if_false,Option.bind_some];congr 2 <;> omega}
theorem znq(a:Int)(g : -4000000000≤a)(e:a≤4000000000):Jb a 1440=some (a / 1440,a % 1440):=by{
 have f:=zhl a 1440 (by decide);have c:quo a 1440=some (a.tdiv 1440):=by rw[quo,if_neg (by decide),ZB (by omega) (by omega)]
 have d:rem a 1440=some (a.tmod 1440):=by rw[rem,if_neg (by decide)]
 unfold Jb;simp only[c,d,Option.bind_some];by_cases b:a.tmod 1440<0;simp only[b,decide_true,if_true,Option.bind_some];rw[ZB (by omega) (by omega),ZB (by omega) (by omega)];congr 2 <;> omega
 simp only[b,decide_false,Bool.false_eq_true,if_false,Option.bind_some];congr 2 <;> omega}
def zbO(c:zi)(day:Int):List zK :=
 match c.specials.find? (fun x=>x.day==day) with
 | some x=>x.shifts
 | none=>(c.week.filter fun s=>s.day==day % 7).map fun s=>⟨0,s.from_,s.to_⟩
theorem zpW(a b c:zK)(d:ShLe a b)(e:ShLe b c):ShLe a c:=by{unfold ShLe at *;omega}
theorem zlp{l:List zK}(a:zmQ l):l.Pairwise ShLe:=zei zpW l a.2
theorem zfv{c:zi}(g:zbB c)(f:Int):(∀a∈zbO c f,ShOk a)∧(zbO c f).Pairwise (fun v a=>v.from_≤a.from_)∧(zbO c f).length≤60:=by{
 unfold zbO;cases hf:c.specials.find? (fun d=>d.day==f) with
 | some d =>
  simp only
  have r:=List.mem_of_find?_eq_some hf
  obtain⟨w,s⟩:=List.mem_iff_getElem?.1 r
  obtain⟨_,_,y,n,o⟩:=g.special w d s
  refine⟨fun a i=>?_,?_,by omega⟩
  obtain⟨e,b⟩:=List.mem_iff_getElem?.1 i
  exact n.1 e a b
  refine (List.Pairwise.imp_of_mem ?_ (zlp n))
  intro l m j k h
  obtain⟨e,b⟩:=List.mem_iff_getElem?.1 j
  obtain⟨x,t⟩:=List.mem_iff_getElem?.1 k
  have p:=o e l b
  have q:=o x m t
  unfold ShLe at h
  omega
 | none =>
  simp only
  refine⟨fun a i=>?_,?_,?_⟩
  obtain⟨d,u,rfl⟩:=List.mem_map.1 i
  obtain⟨e,b⟩:=List.mem_iff_getElem?.1 (List.mem_filter.1 u).1
  exact g.week.1 e d b
  refine List.pairwise_map.2 ?_
  refine List.Pairwise.imp_of_mem ?_ ((zlp g.week).filter _)
  intro l m j k h
  have p:=(List.mem_filter.1 j).2
  have q:=(List.mem_filter.1 k).2
  simp only[beq_iff_eq]at p q
  unfold ShLe at h
  show l.from_≤m.from_
  omega
  rw[List.length_map]
  exact Nat.le_trans (List.length_filter_le _ _) g.weeks}
theorem zqS{α R:Type}(b:α→Bool)(f:α→R)(l:List α)(k:Nat):
  forL (fun _ a (_:Unit)=>if b a=true then some (.rt (f a)) else some (.nx ())) l k ()=some ((l.find? b).elim (.fin ()) fun a=>.rt (f a)):=by{
 induction l generalizing k with
 | nil=>rfl
 | cons a l ih =>
  rw[forL,List.find?_cons]
  cases hp:b a
  simp[ih]
  simp}
theorem zmr{R:Type}(l:List zK)(n:l.length≤60)(o c:Int)(body:Nat→List zK→Option (Ctl (List zK) R))(j:∀b a d,l[b]?=some d→body b a=Option.bind (Option.bind (if (d.day==c)=true then Option.bind (zC 5864062014805 a ([(⟨0,d.from_,d.to_⟩:zK)]:List zK)) fun g=>some g else some a) fun h=>some h) fun i=>some (.nx i)):
  zS body l.length 0 []=some (.fin ((l.filter fun a=>a.day==c).map fun a=>⟨0,a.from_,a.to_⟩)):=by{
 obtain⟨p,m,rfl⟩:=ZU (b:=body) l.length (fun b a=>a=((l.take b).filter fun a=>a.day==c).map fun a=>⟨0,a.from_,a.to_⟩) (s := []) (by simp) (by
  rintro b _ k rfl
  have f:l[b]?=some l[b]:=List.getElem?_eq_getElem k
  rw[j b _ _ f]
  generalize l[b]=d at f
  have hlen:(((l.take b).filter fun a=>a.day==c).map fun a=>(⟨0,a.from_,a.to_⟩:zK)).length≤60:=by
   rw[List.length_map]
   refine Nat.le_trans (List.length_filter_le _ _) ?_
   rw[List.length_take]
   omega
  rw[List.take_add_one,f,List.filter_append,List.map_append]
  generalize (((l.take b).filter fun a=>a.day==c).map fun a=>(⟨0,a.from_,a.to_⟩:zK))=acc at hlen
  by_cases e:(d.day==c)=true
  rw[if_pos e,zC,if_pos (by simp;omega)]
  exact⟨_,rfl,by simp[e]⟩
  rw[if_neg e]
  exact⟨_,rfl,by simp[e]⟩)
 rw[m,List.take_of_length_le (Nat.le_refl _)]}
theorem zjv{c:zi}(g:zbB c)(b:Int)(l : -100000≤b)(k:b≤100000):zj c b=some (zbO c b):=by{
 unfold zj
 have h:zS (R:=List zK) (fun f (_:Unit)=>Option.bind (idx c.specials (f:Int)) fun e=>if (e.day==b)=true then some (.rt e.shifts) else some (.nx ())) c.specials.length 0 ()=some ((c.specials.find? (fun a=>a.day==b)).elim (.fin ()) fun a=>.rt a.shifts):=by
  refine (zdC c.specials (fun _ (a:Zb) (_:Unit)=>if (a.day==b)=true then some (.rt a.shifts) else some (.nx ())) _ ?_ ()).trans (zqS (fun a:Zb=>a.day==b) (fun a=>a.shifts) c.specials 0)
  intro i j a d
  simp[Zg,d]
 rw[h];unfold zbO;cases hf:c.specials.find? (fun a=>a.day==b) with
 | some a=>rfl
 | none =>
  simp only[Option.elim_none,Option.bind_some,Lp.andThen_fin,zqv b (by omega) (by omega)]
  rw[zmr c.week g.weeks b (b % 7) _ (by
   intro i j a d
   simp only[Zg,d,Option.bind_some])]
  rfl}
theorem zrW(n:Nat)(f:n≤1000):Option.bind (shr .u64 (IntKind.wrap .u64 (w64 (n:Int))) 1) (fun d=>some (IntKind.wrap .i64 d))=some ((n / 2:Nat):Int):=by{
 have a:w64 (n:Int)=(n:Int):=ZB (by omega) (by omega)
 have b:IntKind.wrap .u64 (n:Int)=(n:Int):=by
  simp only[IntKind.wrap,IntKind.bits,IntKind.signed]
  simp
  omega
 have c:IntKind.wrap .i64 ((n:Int).fdiv 2)=((n / 2:Nat):Int):=by
  have:(n:Int).fdiv 2=((n / 2:Nat):Int):=by
   rw[Int.fdiv_eq_ediv_of_nonneg _ (by decide)]
   omega
  rw[this]
  exact ZB (by omega) (by omega)
 rw[a,b,shr,if_neg (by decide)];have e:(2:Int)^(min (1:Int).toNat IntKind.u64.bits)=2:=by decide
 rw[e];simp only[Option.bind_some,c]}
theorem zpR{l:List Zb}(P:l.length≤200)(K:l.Pairwise fun b h=>b.day<h.day)(f:Int):
  ∃a:Nat,a≤l.length∧qe l f (fun B D=>QN B D)=some ((a:Int),decide (∃b,l[a]?=some b∧b.day=f))∧(∀c b,c<a→l[c]?=some b→b.day<f)∧∀c b,a≤c→l[c]?=some b→f≤b.day:=by{
 have y:∀(o c:Nat) (b h:Zb),o<c→l[o]?=some b→l[c]?=some h→b.day<h.day:=fun o c b h E e g=>by
  obtain⟨m,rfl⟩:=List.getElem?_eq_some_iff.1 e
  obtain⟨n,rfl⟩:=List.getElem?_eq_some_iff.1 g
  exact List.pairwise_iff_getElem.1 K o c m n E
 unfold qe
 obtain⟨A,L,a,rfl,M,H,I⟩:=zey (R:=Int×Bool) (body:=fun i:Int×Int=>if (decide (i.1<i.2))=true then Option.bind (Option.bind (shr .u64 (IntKind.wrap .u64 (w64 (i.1+i.2))) 1) fun q=>Option.bind (idx l (IntKind.wrap .i64 q)) fun F=>Option.bind (QN F f) fun G=>Option.bind (if (decide (G<0))=true then some (w64 ((IntKind.wrap .i64 q)+1),i.2) else some (i.1,IntKind.wrap .i64 q)) fun t=>some (t.1,t.2)) fun u=>some (.nx (u.1,u.2)) else some (.bk (i.1,i.2)))
  (fun p=>∃a d:Nat,p=((a:Int),(d:Int))∧a≤d∧d≤l.length∧(∀c b,c<a→l[c]?=some b→b.day<f)∧∀c b,d≤c→l[c]?=some b→f≤b.day) (fun p=>(p.2-p.1).toNat)
  (fun A=>∃a:Nat,A=.fin ((a:Int),(a:Int))∧a≤l.length∧(∀c b,c<a→l[c]?=some b→b.day<f)∧∀c b,a≤c→l[c]?=some b→f≤b.day) (s:=(0,(l.length:Int)))
  ⟨0,l.length,rfl,Nat.zero_le _,Nat.le_refl _,fun c b j=>absurd j (Nat.not_lt_zero _),fun c b j e=>absurd (List.getElem?_eq_some_iff.1 e).1 (by omega)⟩ (by
  rintro _⟨a,d,rfl,O,z,m,n⟩
  simp only
  by_cases w:(a:Int)<(d:Int)
  ·have k:=zrW (a+d) (by omega)
   cases hsh:shr .u64 (IntKind.wrap .u64 (w64 ((a:Int)+(d:Int)))) 1 with
   | none=>rw[show ((a+d:Nat):Int)=(a:Int)+(d:Int) by omega,hsh]at k;simp at k
   | some v =>
    rw[show ((a+d:Nat):Int)=(a:Int)+(d:Int) by omega,hsh]at k
    simp only[Option.bind_some,Option.some.injEq]at k
    have J:(a+d) / 2<l.length:=by omega
    have e:l[(a+d) / 2]?=some l[(a+d) / 2]:=List.getElem?_eq_getElem J
    generalize l[(a+d) / 2]=b at e
    simp only[w,decide_true,if_true,Option.bind_some,k,Zg,e,QN,zbR]
    by_cases r:b.day<f
    ·simp only[r,if_true,show (-1:Int)<0 by decide,decide_true,Option.bind_some]
     rw[ZB (by omega) (by omega)]
     refine⟨_,rfl,⟨(a+d) / 2+1,d,by congr 1,by omega,z,fun c h s g=>?_,n⟩,by simp only;omega⟩
     rcases Nat.lt_or_eq_of_le (Nat.le_of_lt_succ s)with j|rfl
     ·have:=y c _ h b j g e;omega
     ·rw[e]at g;cases g;exact r
    ·have N:¬(if b.day<f then (-1:Int) else if f<b.day then 1 else 0)<0:=by
      rw[if_neg r];split <;> omega
     simp only[N,decide_false,Bool.false_eq_true,if_false,Option.bind_some]
     refine⟨_,rfl,⟨a,(a+d) / 2,rfl,by omega,by omega,m,fun c h s g=>?_⟩,by simp only;omega⟩
     rcases Nat.lt_or_eq_of_le s with j|rfl
     ·have:=y _ c b h j e g;omega
     ·rw[e]at g;cases g;omega
  ·simp only[w,decide_false,Bool.false_eq_true,if_false]
   obtain rfl:a=d:=by omega
   exact⟨_,rfl,a,rfl,z,m,n⟩)
 rw[L];refine⟨a,M,?_,H,I⟩;simp only[Option.bind_some,Lp.andThen_fin];by_cases x:(a:Int)<(l.length:Int);have e:l[a]?=some l[a]:=List.getElem?_eq_getElem (by omega);generalize l[a]=b at e;simp only[x,decide_true,if_true,Zg,e,Option.bind_some,QN,zbR];congr 2;rw[Bool.eq_iff_iff];simp only[beq_iff_eq,decide_eq_true_eq,Option.some.injEq,exists_eq_left'];split;omega;split <;> omega
 simp only[x,decide_false,Bool.false_eq_true,if_false,Option.bind_some];congr 2;have:l[a]?=none:=List.getElem?_eq_none (by omega);simp[this]}
theorem znM{c:zi}(h:zbB c)(b:Int)(D : -100000≤b)(z:b≤100000):zan c b=some (zbO c b):=by{
 unfold zan;have o:c.specials.Pairwise fun a l=>a.day<l.day:=zei (R:=fun a l:Zb=>a.day<l.day) (fun d E c e g=>Int.lt_trans e g) _ h.rising;obtain⟨d,A,x,n,r⟩:=zpR h.specials o b;rw[x];simp only[Option.bind_some];unfold zbO;by_cases f:∃a,c.specials[d]?=some a∧a.day=b;simp only[f,decide_true,if_true];obtain⟨a,i,s⟩:=f
 have j:c.specials.find? (fun a=>a.day==b)=some a:=by
  obtain⟨e,g⟩:=List.getElem?_eq_some_iff.1 i
  refine List.find?_eq_some_iff_getElem.2 ⟨by simpa using s,d,e,g,fun y u=>?_⟩
  have:=n y _ u (List.getElem?_eq_getElem (by omega))
  simp
  omega
 rw[j,Zg,i];obtain⟨_,_,p,_,_⟩:=h.special d a i;unfold Zp;simp only[Option.bind_some];rw[zC,if_pos (by simp;omega)];rfl;simp only[f,decide_false,Bool.false_eq_true,if_false]
 have j:c.specials.find? (fun a=>a.day==b)=none:=by
  refine List.find?_eq_none.2 fun a v=>?_
  obtain⟨m,k⟩:=List.mem_iff_getElem?.1 v
  intro q
  simp only[beq_iff_eq]at q
  rcases Nat.lt_or_ge m d with e|e
  have:=n m a e k;omega
  rcases Nat.lt_or_eq_of_le e with g|rfl
  obtain⟨p,w⟩:=List.getElem?_eq_some_iff.1 k
  have t:c.specials[d]?=some c.specials[d]:=List.getElem?_eq_getElem (by omega)
  have:=List.pairwise_iff_getElem.1 o d m (by omega) p g
  have B:=r d _ (Nat.le_refl _) t
  rw[w]at this
  omega
  exact f ⟨a,k,q⟩
 rw[j];simp only
 rw[zmr c.week h.weeks b (b % 7) _ (by
  intro F G a f
  simp only[Zg,f,Option.bind_some,zsJ b (by omega) (by omega)]
  rw[ZB (n:=7*(b / 7)) (by omega) (by omega),ZB (by omega) (by omega),show b-7*(b / 7)=b % 7 by omega])]
 rfl}
def Opn(c:zi)(m:Int):Prop:=∃day s,s∈zbO c day∧day*1440+s.from_≤m+off c.zone m∧m+off c.zone m<day*1440+s.to_
theorem zpT{c:zi}(e:zbB c)(m:Int)(q:0≤m)(r:m≤3000000):∃i,QL c m=some i∧(i=true↔Opn c m):=by{
 have s:=zqa e.zone m;unfold QL zdp zaq;simp only[znF,Option.bind_some];rw[ZB (n:=m+off c.zone m) (by omega) (by omega),znq _ (by omega) (by omega)];simp only[Option.bind_some];rw[ZB (n:=(m+off c.zone m) / 1440-1) (by omega) (by omega),ZB (n:=(m+off c.zone m) % 1440+1440) (by omega) (by omega)];rw[zjv e _ (by omega) (by omega),zjv e _ (by omega) (by omega)];simp only[Option.bind_some]
 have k:Opn c m↔(zbO c ((m+off c.zone m) / 1440)).any (fun a=>decide (a.from_≤(m+off c.zone m) % 1440)&&decide ((m+off c.zone m) % 1440<a.to_))=true∨(zbO c ((m+off c.zone m) / 1440-1)).any (fun a=>decide (a.from_≤(m+off c.zone m) % 1440+1440)&&decide ((m+off c.zone m) % 1440+1440<a.to_))=true:=by
  simp only[List.any_eq_true,Bool.and_eq_true,decide_eq_true_eq]
  generalize l:m+off c.zone m=j
  constructor
  rintro⟨f,d,b,g,h⟩
  rw[l]at g h
  obtain⟨t,u,o3,o4⟩:=(zfv e f).1 d b
  by_cases n:f=j / 1440
  subst n
  exact .inl ⟨d,b,by omega,by omega⟩
  have:f=j / 1440-1:=by omega
  subst this
  exact .inr ⟨d,b,by omega,by omega⟩
  rintro (⟨d,b,g,h⟩|⟨d,b,g,h⟩)
  exact⟨_,d,b,by omega,by omega⟩
  exact⟨_,d,b,by omega,by omega⟩
 rw[ziw (zbO c ((m+off c.zone m) / 1440)) (fun a=>decide (a.from_≤(m+off c.zone m) % 1440)&&decide ((m+off c.zone m) % 1440<a.to_)) true];rw[ziw (zbO c ((m+off c.zone m) / 1440-1)) (fun a=>decide (a.from_≤(m+off c.zone m) % 1440+1440)&&decide ((m+off c.zone m) % 1440+1440<a.to_)) true];rw[k];generalize (zbO c ((m+off c.zone m) / 1440)).any _=o;generalize (zbO c ((m+off c.zone m) / 1440-1)).any _=p;cases o <;> cases p <;> simp[Lp.andThen]}
end Go.Proofs.YtdpmeckhhcjoiaaGreatDoor.M
namespace Go.Proofs.YtdpmeckhhcjoiaaGreatDoor.M
open Go Go.Pu
set_option linter.unusedSimpArgs false
set_option linter.unusedVariables false
def prt(z:Zy)(k:Nat):Zr:=⟨fr z k,fr z (k+1),ofs z k⟩
theorem zqQ(z:Zy)(s:z.changes.length≤60):zcU z=some ((List.range (z.changes.length+1)).map (prt z)):=by{
 unfold zcU
 obtain⟨t,q,rfl⟩:=ZU (R:=List Zr) (b:=fun h b=>Option.bind (idx z.changes (h:Int)) fun d=>Option.bind (idx b (w64 ((b.length:Int)-1))) fun i=>Option.bind (setI b (w64 ((b.length:Int)-1)) ({ (i:Zr)with to_:=d.at_ })) fun j=>Option.bind (zC 5864062014805 j ([(⟨d.at_,3000001,d.offset⟩:Zr)]:List Zr)) fun k=>some (.nx k)) z.changes.length
  (fun a r=>r=(List.range a).map (prt z)++[⟨fr z a,3000001,ofs z a⟩]) (s := [(⟨0,3000001,z.offset⟩:Zr)]) rfl (by
   rintro a _ f rfl
   have e:z.changes[a]?=some z.changes[a]:=List.getElem?_eq_getElem f
   rw[zdx _ _ f]
   generalize z.changes[a]=c at e
   have hlen:(((List.range a).map (prt z)++[(⟨fr z a,3000001,ofs z a⟩:Zr)]).length:Int)-1=(a:Int):=by simp
   have l:w64 ((((List.range a).map (prt z)++[(⟨fr z a,3000001,ofs z a⟩:Zr)]).length:Int)-1)=(a:Int):=by rw[hlen];exact ZB (by omega) (by omega)
   rw[l,Zg]
   have m:((List.range a).map (prt z)++[(⟨fr z a,3000001,ofs z a⟩:Zr)])[a]?=some ⟨fr z a,3000001,ofs z a⟩:=by
    rw[List.getElem?_append_right (by simp)]
    simp
   rw[m]
   have n:setI ((List.range a).map (prt z)++[(⟨fr z a,3000001,ofs z a⟩:Zr)]) (a:Int) (⟨fr z a,c.at_,ofs z a⟩:Zr)=some ((List.range a).map (prt z)++[(⟨fr z a,c.at_,ofs z a⟩:Zr)]):=by
    rw[setI,if_pos ⟨by omega,by simp⟩]
    congr 1
    rw[Int.toNat_natCast,List.set_append_right _ _ (by simp)]
    simp
   simp only[Option.bind_some,n]
   have o:zC 5864062014805 ((List.range a).map (prt z)++[(⟨fr z a,c.at_,ofs z a⟩:Zr)]) [(⟨c.at_,3000001,c.offset⟩:Zr)]=some (((List.range a).map (prt z)++[(⟨fr z a,c.at_,ofs z a⟩:Zr)])++[(⟨c.at_,3000001,c.offset⟩:Zr)]):=by
    rw[zC,if_pos (by simp;omega)]
   rw[o]
   refine⟨_,rfl,?_⟩
   have g:fr z (a+1)=c.at_:=by rw[fr,e]
   have p:ofs z (a+1)=c.offset:=by rw[ofs,e]
   rw[List.range_succ,List.map_append,g,p]
   simp[prt,g])
 rw[q];simp only[Option.bind_some,Lp.andThen_fin];congr 1;rw[List.range_succ,List.map_append];simp[prt,zlN]}
def jH{X S:Type}(y:X→S→Option (Bool×S)):List X→S→Option (Bool×S)
 | [],s=>some (true,s)
 | x::l,s=>Option.bind (y x s) fun r=>if r.1=true then jH y l r.2 else some (false,r.2)
theorem zjI{X c:Type}(y:X→c→Option (Bool×c))(l m:List X)(s:c):jH y (l++m) s=Option.bind (jH y l s) fun a=>if a.1=true then jH y m a.2 else some (false,a.2):=by{
 induction l generalizing s with
 | nil=>simp[jH]
 | cons x l ih =>
  rw[List.cons_append,jH,jH]
  cases y x s with
  | none=>rfl
  | some a =>
   simp only[Option.bind_some]
   by_cases b:a.1=true
   rw[if_pos b,if_pos b,ih]
   rw[if_neg b,if_neg b];simp}
theorem zbU{e R:Type}(body:e→Option (Ctl e R))(s:e):Jr body s=Option.bind (body s) fun c=>match c with
  | .nx s'=>Jr body s'
  | .bk s'=>some (.fin s')
  | .rt r=>some (.rt r):=by{
 ext r;rw[zeW];constructor;rintro⟨d,a⟩;cases d with
 | zero=>simp[zac]at a
 | succ d =>
  rw[zac]at a
  cases hb:body s with
  | none=>rw[hb]at a;cases a
  | some c =>
   rw[hb]at a
   cases c with
   | nx s'=>exact zeW.2 ⟨d,a⟩
   | bk s'=>exact a
   | rt r=>exact a
 intro b;cases hb:body s with
 | none=>rw[hb]at b;cases b
 | some c =>
  rw[hb]at b
  cases c with
  | nx s' =>
   obtain⟨d,a⟩:=zeW.1 b
   exact⟨d+1,by rw[zac,hb];exact a⟩
  | bk s'=>exact⟨1,by rw[zac,hb];exact b⟩
  | rt r=>exact⟨1,by rw[zac,hb];exact b⟩}
def zak(o a b day:Int)(s:zK):zT:=⟨if a<day*1440-o+s.from_ then day*1440-o+s.from_ else a,if day*1440-o+s.to_<b then day*1440-o+s.to_ else b⟩
def zgq(c:zi)(o a b day:Int):List zT:=((zbO c day).map (zak o a b day)).filter fun x=>decide (x.from_<x.to_)
theorem zqP{c:zi}(p:zbB c)(e:Zr)(a b d:Int){n:Type}(y:zT→n→Option (Bool×n))(s:n)(z : -10000≤d)(u:d≤10000)(v : -1440≤e.offset∧e.offset≤1440):
  jR d c e a b y s=jH y (zgq c e.offset a b d) s:=by{
 unfold jR zgq;rw[znM p d (by omega) (by omega)];have i:=(zfv p d).1;simp only[Option.bind_some];rw[ZB (n:=d*1440) (by omega) (by omega),ZB (n:=d*1440-e.offset) (by omega) (by omega)];generalize zbO c d=l at i
 rw[zdC l (fun _ j k=>Option.bind (if (decide ((zak e.offset a b d j).from_<(zak e.offset a b d j).to_))=true then (Option.bind (y (zak e.offset a b d j) k) fun o=>some (!o.1,o.2)) else (some (false,k))) fun m=>if m.1=true then some (.rt (false,m.2)) else some (.nx m.2)) _ (by
  intro h k g f
  obtain⟨w,x,o3,o4⟩:=i g (List.mem_of_getElem? f)
  simp only[Zg,f,Option.bind_some]
  rw[ZB (n:=d*1440-e.offset+g.from_) (by omega) (by omega),ZB (n:=d*1440-e.offset+g.to_) (by omega) (by omega)]
  rfl)]
 clear i;generalize 0=h;induction l generalizing h s with
 | nil=>rfl
 | cons g l ih =>
  rw[forL,List.map_cons]
  by_cases f:(zak e.offset a b d g).from_<(zak e.offset a b d g).to_
  rw[List.filter_cons_of_pos (by simpa using f),jH]
  simp only[f,decide_true,if_true]
  cases y (zak e.offset a b d g) s with
  | none=>rfl
  | some r =>
   obtain⟨q,t⟩:=r
   cases q with
   | true =>
    simp only[Option.bind_some,Bool.not_true,Bool.false_eq_true,if_false,if_true]
    exact ih t (h+1)
   | false=>simp[Lp.andThen]
  rw[List.filter_cons_of_neg (by simpa using f)]
  simp only[f,decide_false,Bool.false_eq_true,if_false,Option.bind_some]
  exact ih s (h+1)}
def zfe(c:zi)(o a b:Int):Int→Nat→List zT
 | _,0=>[]
 | d,n+1=>zgq c o a b d++zfe c o a b (d+1) n
theorem zrj{c:zi}(l:zbB c)(e:Zr)(a b hi:Int){i:Type}(y:zT→i→Option (Bool×i))(m : -1440≤e.offset∧e.offset≤1440)(u:0≤b∧b≤4000000)(k:hi=(b-1+e.offset) / 1440):
  ∀(n:Nat) (d:Int) (s:i), -5000≤d→d+n=hi+1→
   Jr (fun f=>Option.bind (zbo (w64 ((w64 (b-1))+e.offset)) 1440) fun j=>if (decide (f.1≤j))=true then Option.bind (jR f.1 c e a b y f.2) fun h=>if (!h.1)=true then some (.rt h.2) else some (.nx (w64 (f.1+1),h.2)) else some (.bk (f.1,f.2))) (d,s) =
    Option.bind (jH y (zfe c e.offset a b d n) s) fun g=>some (if g.1=true then Lp.fin (hi+1,g.2) else Lp.rt g.2):=by{
 have o:zbo (w64 ((w64 (b-1))+e.offset)) 1440=some hi:=by
  rw[ZB (n:=b-1) (by omega) (by omega),ZB (by omega) (by omega),zlZ _ (by omega) (by omega),k]
 simp only[o,Option.bind_some];intro n;induction n with
 | zero =>
  intro d s p q
  rw[zbU]
  have:¬d≤hi:=by omega
  simp only[this,decide_false,Bool.false_eq_true,if_false,zfe,jH,Option.bind_some,if_true]
  rw[show d=hi+1 by omega]
 | succ n ih =>
  intro d s p q
  rw[zbU]
  have:d≤hi:=by omega
  simp only[this,decide_true,if_true]
  rw[zqP l e a b d y s (by omega) (by omega) m,zfe,zjI]
  cases jH y (zgq c e.offset a b d) s with
  | none=>rfl
  | some g =>
   obtain⟨r,t⟩:=g
   cases r with
   | true =>
    simp only[Option.bind_some,Bool.not_true,Bool.false_eq_true,if_false,if_true]
    rw[ZB (by omega) (by omega)]
    exact ih (d+1) t (by omega) (by omega)
   | false=>simp}
def zhT(c:zi)(o a b:Int):List zT:=if b≤a then [] else zfe c o a b ((a+o) / 1440-1) (((b-1+o) / 1440-(a+o) / 1440+2).toNat)
def ziD(c:zi)(from_ to_:Int)(p:Zr):List zT:=zhT c p.offset (if from_<p.from_ then p.from_ else from_) (if p.to_<to_ then p.to_ else to_)
def shL(c:zi)(from_ to_:Int):List zT:=((List.range (c.zone.changes.length+1)).map (prt c.zone)).flatMap (ziD c from_ to_)
theorem zpv{c:zi}(j:zbB c)(e f:Int)(z:0≤e∧e≤3000001)(A:0≤f∧f≤3000001){o:Type}(y:zT→o→Option (Bool×o))(s:o):
  zal y s c e f=(jH y (shL c e f) s).map (·.2):=by{
 unfold zal shL;rw[zqQ _ j.changes];simp only[Option.bind_some]
 have k:∀g∈(List.range (c.zone.changes.length+1)).map (prt c.zone),(0≤g.from_∧g.from_≤3000001)∧(0≤g.to_∧g.to_≤3000001)∧(-1440≤g.offset∧g.offset≤1440):=by
  intro g k
  obtain⟨h,v,rfl⟩:=List.mem_map.1 k
  have x:=List.mem_range.1 v
  exact⟨ziL j.zone h (by omega),ziL j.zone (h+1) (by omega),zmt j.zone h⟩
 generalize (List.range (c.zone.changes.length+1)).map (prt c.zone)=l at k
 rw[zdC l (fun _ d s=>Option.bind (jH y (ziD c e f d) s) fun i=>if i.1=true then some (.nx i.2) else some (.rt i.2)) _ (by
  intro h p d q
  obtain⟨B,D,w⟩:=k d (List.mem_of_getElem? q)
  simp only[Zg,q,Option.bind_some,ziD,zhT]
  by_cases m:(if d.to_<f then d.to_ else f)≤(if e<d.from_ then d.from_ else e)
  simp only[m,decide_true,if_true,Option.bind_some,Lp.andThen_fin,jH]
  simp only[m,decide_false,Bool.false_eq_true,if_false]
  generalize t:(if e<d.from_ then d.from_ else e)=a at m
  generalize u:(if d.to_<f then d.to_ else f)=b at m
  have E:0≤a∧a≤3000001:=by split at t <;> omega
  have F:0≤b∧b≤3000001:=by split at u <;> omega
  rw[ZB (n:=a+d.offset) (by omega) (by omega),zlZ _ (by omega) (by omega)]
  simp only[Option.bind_some]
  rw[ZB (n:=(a+d.offset) / 1440-1) (by omega) (by omega)]
  rw[zrj j d a b ((b-1+d.offset) / 1440) y w (by omega) rfl (((b-1+d.offset) / 1440-(a+d.offset) / 1440+2).toNat) ((a+d.offset) / 1440-1) p (by omega) (by omega)]
  cases jH y (zfe c d.offset a b ((a+d.offset) / 1440-1) (((b-1+d.offset) / 1440-(a+d.offset) / 1440+2).toNat)) p with
  | none=>rfl
  | some i =>
   obtain⟨n,r⟩:=i
   cases n <;> simp[Lp.andThen])]
 clear k;generalize 0=h;induction l generalizing h s with
 | nil=>rfl
 | cons d l ih =>
  rw[forL,List.flatMap_cons,zjI]
  cases jH y (ziD c e f d) s with
  | none=>rfl
  | some i =>
   obtain⟨n,r⟩:=i
   cases n with
   | true =>
    simp only[Option.bind_some,if_true]
    exact ih r (h+1)
   | false=>simp[Lp.andThen]}
theorem ziK(c:zi)(o a b:Int)(x:zT):∀(n:Nat) (d:Int),x∈zfe c o a b d n↔∃day s,d≤day∧day<d+n∧s∈zbO c day∧x=zak o a b day s∧x.from_<x.to_
 | 0,d=>by
  simp only[zfe,List.not_mem_nil,false_iff]
  rintro⟨day,s,h1,h2,_⟩
  omega
 | n+1,d=>by
  rw[zfe,List.mem_append,ziK c o a b x n (d+1)]
  simp only[zgq,List.mem_filter,List.mem_map,decide_eq_true_eq]
  constructor
  ·rintro (⟨⟨s,hs,rfl⟩,h⟩ | ⟨day,s,h1,h2,h3,h4,h5⟩)
   ·exact⟨d,s,by omega,by omega,hs,rfl,h⟩
   ·exact⟨day,s,by omega,by omega,h3,h4,h5⟩
  ·rintro⟨day,s,h1,h2,h3,rfl,h5⟩
   by_cases hd:day=d
   ·subst hd
    exact .inl ⟨⟨s,h3,rfl⟩,h5⟩
   ·exact .inr ⟨day,s,by omega,by omega,h3,rfl,h5⟩
theorem zku{c:zi}(e:zbB c)(o a b:Int):∀(n:Nat) (d:Int),(zfe c o a b d n).Pairwise fun g f=>g.from_≤f.from_
 | 0,d=>.nil
 | n+1,d=>by
  rw[zfe,List.pairwise_append]
  refine⟨?_,zku e o a b n (d+1),?_⟩
  ·unfold zgq
   refine List.Pairwise.filter _ (List.pairwise_map.2 ((zfv e d).2.1.imp fun {h i} y=>?_))
   simp only[zak]
   split <;> split <;> omega
  ·intro g hx f hy
   simp only[zgq,List.mem_filter,List.mem_map]at hx
   obtain⟨⟨h,hs,rfl⟩,_⟩:=hx
   obtain⟨j,i,p,_,k,rfl,_⟩:=(ziK c o a b f n (d+1)).1 hy
   have l:=(zfv e d).1 h hs
   have m:=(zfv e j).1 i k
   obtain⟨q,r,s,t⟩:=l
   obtain⟨u,v,w,x⟩:=m
   simp only[zak]
   split <;> split <;> omega
theorem zit{c:zi}(p:zbB c)(h i:Int)(d:Zr)(x:zT)(g:x∈ziD c h i d):h≤x.from_∧d.from_≤x.from_∧x.from_<x.to_∧x.to_≤i∧x.to_≤d.to_∧∃e f,f∈zbO c e∧e*1440-d.offset+f.from_≤x.from_∧x.to_≤e*1440-d.offset+f.to_:=by{
 unfold ziD at g;generalize l:(if h<d.from_ then d.from_ else h)=a at g;generalize m:(if d.to_<i then d.to_ else i)=b at g;have q:h≤a∧d.from_≤a:=by split at l <;> omega
 have r:b≤i∧b≤d.to_:=by split at m <;> omega
 unfold zhT at g;by_cases j:b≤a;rw[if_pos j]at g;simp at g;rw[if_neg j]at g;obtain⟨e,f,s,t,n,rfl,o⟩:=(ziK ..).1 g
 have k:a≤(zak d.offset a b e f).from_∧(zak d.offset a b e f).to_≤b∧e*1440-d.offset+f.from_≤(zak d.offset a b e f).from_∧(zak d.offset a b e f).to_≤e*1440-d.offset+f.to_:=by
  simp only[zak]
  refine⟨by split <;> omega,by split <;> omega,by split <;> omega,by split <;> omega⟩
 exact⟨by omega,by omega,o,by omega,by omega,e,f,n,k.2.2.1,k.2.2.2⟩}
theorem zsd{z:Zy}(i:zex z)(m:Int)(j:0≤m)(g:m<3000001):∃a,a≤z.changes.length∧fr z a≤m∧m<fr z (a+1):=by{
 have f:∀b,b≤z.changes.length+1→m<fr z b→∃a,a<b∧fr z a≤m∧m<fr z (a+1):=by
  intro b
  induction b with
  | zero=>intro _ d;simp only[fr]at d;omega
  | succ b ih =>
   intro k d
   rcases Int.lt_or_le m (fr z b)with c|c
   obtain⟨a,e,h⟩:=ih (by omega) c
   exact⟨a,by omega,h⟩
   exact⟨b,by omega,c,d⟩
 obtain⟨a,c,e⟩:=f (z.changes.length+1) (Nat.le_refl _) (by rw[zlN];exact g);exact⟨a,by omega,e⟩}
theorem zoO{c:zi}(f:zbB c)(b d:Int)(M:0≤b∧b≤3000001)(N:0≤d∧d≤3000001):
  (∀e∈shL c b d,b≤e.from_∧e.from_<e.to_∧e.to_≤d)∧(shL c b d).Pairwise (fun e s=>e.from_≤s.from_)∧
   ∀g,b≤g→g<d→(Opn c g↔∃e∈shL c b d,e.from_≤g∧g<e.to_):=by{
 refine⟨fun e h=>?_,?_,fun g O P=>⟨?_,?_⟩⟩;obtain⟨i,v,h⟩:=List.mem_flatMap.1 h;obtain⟨o,r,w,y,_⟩:=zit f b d i e h;exact⟨o,w,y⟩;unfold shL;rw[List.pairwise_flatMap];refine⟨fun i _=>?_,?_⟩;unfold ziD zhT;generalize (if i.to_<d then i.to_ else d)=m;generalize (if b<i.from_ then i.from_ else b)=n;split;exact .nil;exact zku f _ _ _ _ _;refine List.pairwise_map.2 (List.Pairwise.imp_of_mem ?_ List.pairwise_lt_range);intro q a Q l J e h s z;obtain⟨_,_,w,_,A,_⟩:=zit f b d _ e h;obtain⟨_,B,_⟩:=zit f b d _ s z;have x:=List.mem_range.1 l;have:=zlu f.zone (q+1) (a-(q+1)) (by omega);rw[show q+1+(a-(q+1))=a by omega]at this;simp only[prt]at A B;omega;rintro⟨j,k,p,o,r⟩;obtain⟨a,l,D,E⟩:=zsd f.zone g (by omega) (by omega);rw[zkz f.zone a l g D E]at o r;obtain⟨R,S,o3,o4⟩:=(zfv f j).1 k p;have T:=zmt f.zone a;have U:=ziL f.zone a (by omega);have K:=ziL f.zone (a+1) (by omega);generalize t:(if b<fr c.zone a then fr c.zone a else b)=n;generalize u:(if fr c.zone (a+1)<d then fr c.zone (a+1) else d)=m;have W:n≤g∧0≤n:=by split at t <;> omega
 have L:g<m∧m≤3000001:=by split at u <;> omega
 refine⟨zak (ofs c.zone a) n m j k,List.mem_flatMap.2 ⟨prt c.zone a,List.mem_map.2 ⟨a,List.mem_range.2 (by omega),rfl⟩,?_⟩,?_,?_⟩;show zak (ofs c.zone a) n m j k∈zhT c (ofs c.zone a) (if b<fr c.zone a then fr c.zone a else b) (if fr c.zone (a+1)<d then fr c.zone (a+1) else d);rw[t,u,zhT,if_neg (by omega)];refine (ziK ..).2 ⟨j,k,by omega,by omega,p,rfl,?_⟩;simp only[zak];split <;> split <;> omega
 simp only[zak];split <;> omega
 simp only[zak];split <;> omega
 rintro⟨e,h,o,r⟩;obtain⟨i,v,h⟩:=List.mem_flatMap.1 h;obtain⟨a,l,rfl⟩:=List.mem_map.1 v;have x:=List.mem_range.1 l;obtain⟨X,F,Z,a0,G,j,k,p,H,I⟩:=zit f b d _ e h;simp only[prt]at F G H I;refine⟨j,k,p,?_,?_⟩;rw[zkz f.zone a (by omega) g (by omega) (by omega)];omega;rw[zkz f.zone a (by omega) g (by omega) (by omega)];omega}
def zdg:zT→List zT→List zT
 | last, []=>[last]
 | last,x::l=>if x.from_≤last.to_ then zdg ⟨last.from_,if last.to_<x.to_ then x.to_ else last.to_⟩ l else last::zdg x l
def zka:List zT→List zT
 | []=>[]
 | x::l=>zdg x l
structure zpq(O:Int→Prop)(from_ to_:Int)(l:List zT):Prop where
 each:∀x∈l,from_≤x.from_∧x.from_<x.to_∧x.to_≤to_
 apart:l.Pairwise fun x y=>x.to_<y.from_
 all:∀m,from_≤m→m<to_→(O m↔∃x∈l,x.from_≤m∧m<x.to_)
theorem ziC(m i:Int):∀(l:List zT) (d:zT),(∀b∈d::l,m≤b.from_∧b.from_<b.to_∧b.to_≤i)→(d::l).Pairwise (fun b c=>b.from_≤c.from_)→
  (∀b∈zdg d l,d.from_≤b.from_∧b.from_<b.to_∧b.to_≤i)∧(zdg d l).Pairwise (fun b c=>b.to_<c.from_)∧
   (∀g,(∃b∈d::l,b.from_≤g∧g<b.to_)↔∃b∈zdg d l,b.from_≤g∧g<b.to_)
 | [],d,h,_=>by
  refine⟨fun b t=>?_,by simp[zdg],fun g=>by simp[zdg]⟩
  simp only[zdg,List.mem_singleton]at t
  subst t
  have:=h b (by simp)
  omega
 | b::l,d,h,hs=>by
  have x:=h d (by simp)
  have y:=h b (by simp)
  obtain⟨r,s⟩:=List.pairwise_cons.1 hs
  obtain⟨w,u⟩:=List.pairwise_cons.1 s
  have z:=r b (by simp)
  rw[zdg]
  split
  ·rename_i hle
   obtain⟨j,n,k⟩:=ziC m i l ⟨d.from_,if d.to_<b.to_ then b.to_ else d.to_⟩ (fun c a=>by
    rcases List.mem_cons.1 a with rfl|a
    ·simp only
     split <;> omega
    ·exact h c (by simp[a])) (List.pairwise_cons.2 ⟨fun c a=>by
     have:=r c (by simp[a])
     exact this,u⟩)
   refine⟨j,n,fun g=>?_⟩
   rw[← k g]
   constructor
   ·rintro⟨c,a,e,f⟩
    rcases List.mem_cons.1 a with rfl|a
    ·exact⟨_,List.mem_cons_self,e,by simp only;split <;> omega⟩
    ·rcases List.mem_cons.1 a with rfl|a
     ·exact⟨_,List.mem_cons_self,by simp only;omega,by simp only;split <;> omega⟩
     ·exact⟨c,List.mem_cons_of_mem _ a,e,f⟩
   ·rintro⟨c,a,e,f⟩
    rcases List.mem_cons.1 a with rfl|a
    ·simp only at e f
     by_cases v:g<d.to_
     ·exact⟨d,by simp,e,v⟩
     ·refine⟨b,by simp,by omega,?_⟩
      split at f <;> omega
    ·exact⟨c,by simp[a],e,f⟩
  ·rename_i hle
   obtain⟨j,n,k⟩:=ziC m i l b (fun c a=>h c (by simp at a ⊢;exact .inr a)) s
   refine⟨fun c a=>?_,List.pairwise_cons.2 ⟨fun c a=>?_,n⟩,fun g=>?_⟩
   ·rcases List.mem_cons.1 a with rfl|a
    ·omega
    ·have:=j c a;omega
   ·have:=j c a;omega
   ·constructor
    ·rintro⟨c,a,e,f⟩
     rcases List.mem_cons.1 a with rfl|a
     ·exact⟨_,List.mem_cons_self,e,f⟩
     ·obtain⟨q,o,p⟩:=(k g).1 ⟨c,a,e,f⟩
      exact⟨q,List.mem_cons_of_mem _ o,p⟩
    ·rintro⟨c,a,e,f⟩
     rcases List.mem_cons.1 a with rfl|a
     ·exact⟨_,List.mem_cons_self,e,f⟩
     ·obtain⟨q,o,p⟩:=(k g).2 ⟨c,a,e,f⟩
      exact⟨q,List.mem_cons_of_mem _ o,p⟩
def ziE(c:zi)(from_ to_:Int):List zT:=zka (shL c from_ to_)
theorem zjK{c:zi}(k:zbB c)(a b:Int)(m:0≤a∧a≤3000001)(n:0≤b∧b≤3000001):zpq (Opn c) a b (ziE c a b):=by{
 obtain⟨f,j,d⟩:=zoO k a b m n;unfold ziE;cases hl:shL c a b with
 | nil =>
  rw[hl]at d
  exact⟨fun i o=>by simp[zka]at o,.nil,fun e g h=>by rw[d e g h];simp[zka]⟩
 | cons i l =>
  rw[hl]at f j d
  obtain⟨g,h,p⟩:=ziC a b l i f j
  have:=f i (by simp)
  exact⟨fun t q=>by have:=g t q;omega,h,fun e r s=>by rw[d e r s];exact p e⟩}
theorem zkx{c:zi}(A:zbB c)(f g:Int)(B:0≤f∧f≤3000001)(D:0≤g∧g≤3000001){j:Type}(y:zT→j→Option (Bool×j))(s:j):
  Jh y s c f g=(jH y (ziE c f g) s).map (·.2):=by{
 unfold Jh zcp;simp only[Option.bind_some];rw[zpv A f g B D];obtain⟨n,O,P⟩:=zoO A f g B D;unfold ziE
 have J:∀(e:List zT) (a:zT) (s:j),0≤a.from_→(∀b∈e,0≤b.from_)→
   (Option.bind ((jH (zaB (fun (i:zT) (d:(zT×j))=>Option.bind (α:=Lp _ _) (Option.bind (α:=Lp _ _) (Option.bind (α:=Lp _ _) (if (decide (d.1.from_<0))=true then some (.fin (i,d.2)) else Option.bind (α:=Lp _ _) (if (decide (i.from_≤d.1.to_))=true then some (.fin ((⟨d.1.from_,(if d.1.to_<i.to_ then i.to_ else d.1.to_)⟩:zT),d.2)) else Option.bind (y d.1 d.2) fun m=>if (!m.1)=true then some (.rt ((d.1,m.2),some 0)) else some (.fin (i,m.2))) fun K=>K.andThen (fun y=>some (.rt y)) fun t=>some (.fin (t.1,t.2))) fun L=>L.andThen (fun y=>some (.rt y)) fun u=>some (.fin (u.1,u.2))) fun M=>M.andThen (fun y=>some (.rt y)) fun v=>some (.fin (v.1,v.2))) fun N=>N.andThen (fun y=>some y) fun w=>some ((w.1,w.2),none))) e ((a,s),none)).map (·.2)) fun h =>
    if h.2=some 0 then (some h.1.2) else Option.bind (if (decide ((0:Int)≤h.1.1.from_))=true then Option.bind (y h.1.1 h.1.2) fun H=>some H.2 else some h.1.2) fun I=>some I)=(jH y (zdg a e) s).map (·.2):=by
  intro e
  induction e with
  | nil =>
   intro a s l _
   simp only[jH,zdg,Option.map_some,Option.bind_some,reduceCtorEq,if_false,l,decide_true,if_true]
   cases y a s with
   | none=>rfl
   | some r =>
    obtain⟨o,E⟩:=r
    cases o <;> simp
  | cons b e ih =>
   intro a s l F
   have G:¬a.from_<0:=by omega
   have x:=F b (by simp)
   have z:∀b∈e,0≤b.from_:=fun q p=>F q (by simp[p])
   rw[jH,zdg]
   by_cases k:b.from_≤a.to_
   ·rw[if_pos k]
    rw[← ih ⟨a.from_,if a.to_<b.to_ then b.to_ else a.to_⟩ s l z]
    simp only[zaB,Option.isNone_none,if_true,G,decide_false,Bool.false_eq_true,if_false,k,decide_true,Option.bind_some,Lp.andThen_fin]
   ·rw[if_neg k]
    conv=>rhs;rw[jH]
    simp only[zaB,Option.isNone_none,if_true,G,decide_false,Bool.false_eq_true,if_false,k,Option.bind_some]
    cases y a s with
    | none=>rfl
    | some r =>
     obtain⟨o,E⟩:=r
     cases o with
     | true =>
      simp only[Option.bind_some,Bool.not_true,Bool.false_eq_true,if_false,if_true,Lp.andThen_fin,Option.isNone_none]
      exact ih b E x z
     | false=>simp[Lp.andThen]
 cases hl:shL c f g with
 | nil=>simp[jH,zka]
 | cons b e =>
  rw[hl]at n
  have x:=n b (by simp)
  have:=J e b s (by omega) fun q p=>by have:=n q (by simp[p]);omega
  rw[jH,zka, ← this]
  simp[zaB,Lp.andThen]}
end Go.Proofs.YtdpmeckhhcjoiaaGreatDoor.M
