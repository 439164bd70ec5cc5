import Derived.Test.YtdpmeckhhcjoiaaGreatDoorRouteRunsM
import Derived.Test.YtdpmeckhhcjoiaaGreatDoorPu
import Derived.Lib.SlTrimSet
import Derived.KernelRfl
import Derived.Test.YtdpmeckhhcjoiaaGreatDoorRouteRunsRnA
import Derived.Lib.Bytealg
namespace Go.Proofs.YtdpmeckhhcjoiaaGreatDoor.M
open Go Go.Pu
set_option linter.unusedSimpArgs false
set_option linter.unusedVariables false
theorem zrr(s:ByteArray)(k:Nat):s[k]?=s.data.toList[k]?:=by{by_cases a:k<s.size;rw[getElem?_pos s k a];have b:k<s.data.toList.length:=a;rw[List.getElem?_eq_getElem b];rfl;rw[getElem?_neg s k a,List.getElem?_eq_none (by simpa using a)]}
theorem zni(s:ByteArray)(k:Nat):idxS s (k:Int)=s.data.toList[k]?:=by{unfold idxS;rw[if_pos (by omega),Int.toNat_natCast,zrr]}
theorem zmi(x:ByteArray):qi x (⟨#[]⟩:ByteArray)=(x.data.toList == []):=by{unfold qi;rw[ByteArray.toList_eq,ByteArray.toList_eq]}
theorem zjc{α:Type}(p:α→Bool):∀l:List α,l.dropWhile p=[]↔∀x∈l,p x=true
 | []=>by simp
 | x::l=>by
  by_cases h:p x=true
  ·simp[List.dropWhile,h,zjc p l]
  ·simp[List.dropWhile,h]
theorem zqK(l cs:List UInt8):Go.Lib.trimS l cs=[]↔∀a∈l,cs.contains a=true:=by{
 unfold Go.Lib.trimS Go.Lib.trimLeftS Go.Lib.trimRightS;rw[zjc];constructor;intro b a e;by_cases g:cs.contains a=true;exact g;have h:a∈l.reverse:=by simpa using e
 have i:∀c:List UInt8,a∈c→a∈c.dropWhile (cs.contains ·):=by
  intro c
  induction c with
  | nil=>intro b;cases b
  | cons y c ih =>
   intro d
   by_cases f:cs.contains y=true
   rw[List.dropWhile_cons_of_pos f]
   rcases List.mem_cons.1 d with rfl|d
   exact absurd f g
   exact ih d
   rw[List.dropWhile_cons_of_neg f]
   exact d
 exact b a (by simpa using i l.reverse h);intro b a e
 have:a∈l:=by
  have j:a∈l.reverse.dropWhile (cs.contains ·):=by simpa using e
  have:=(List.dropWhile_sublist (cs.contains ·)).subset j
  simpa using this
 exact b a this}
def okB(b:UInt8):Bool := !(((!((decide ((97:Int)≤(b.toNat:Int)))&&(decide ((b.toNat:Int)≤122))))&&(!((decide ((48:Int)≤(b.toNat:Int)))&&(decide ((b.toNat:Int)≤57)))))&&((b.toNat:Int) != 95))
def nameSet:List UInt8 := [97,98,99,100,101,102,103,104,105,106,107,108,109,110,111,112,113,114,115,116,117,118,119,120,121,122,48,49,50,51,52,53,54,55,56,57,95]
theorem zrT:((List.range 256).all fun a=>okB (UInt8.ofNat a)==nameSet.contains (UInt8.ofNat a))=true:=by kernel_rfl
theorem zoX(b:UInt8):okB b=nameSet.contains b:=by{have a:=List.all_eq_true.1 zrT b.toNat (List.mem_range.2 b.toNat_lt);rw[UInt8.ofNat_toNat]at a;simpa using a}
theorem zrf(s:ByteArray)(x:s.size≤9223372036854775807):zaF s=some (s.data.toList.all okB&&((!(qi s (⟨#[]⟩:ByteArray)))&&(decide ((s.size:Int)≤20)))):=by{
 unfold zaF;have v:s.data.toList.length=s.size:=rfl
 obtain⟨l,q,r⟩:=zey (R:=Bool) (body:=fun (h:Int)=>if (decide (h<(s.size:Int)))=true then Option.bind (idxS s h) fun g=>if (((!((decide ((97:Int)≤(g.toNat:Int)))&&(decide ((g.toNat:Int)≤122))))&&(!((decide ((48:Int)≤(g.toNat:Int)))&&(decide ((g.toNat:Int)≤57)))))&&((g.toNat:Int) != 95))=true then some (.rt false) else some (.nx (w64 (h+1))) else some (.bk h))
  (fun m=>∃b:Nat,m=(b:Int)∧b≤s.size∧∀d a,d<b→s.data.toList[d]?=some a→okB a=true) (fun m=>s.size-m.toNat)
  (fun l=>(l=.rt false∧s.data.toList.all okB=false)∨(∃p,l=.fin p∧s.data.toList.all okB=true)) (s:=0)
  ⟨0,rfl,Nat.zero_le _,fun d a e=>absurd e (Nat.not_lt_zero _)⟩
  (by
   rintro _⟨b,rfl,y,o⟩
   by_cases w:b<s.size
   ·have n:decide ((b:Int)<(s.size:Int))=true:=decide_eq_true (by omega)
    have f:s.data.toList[b]?=some (s.data.toList[b]'(by omega)):=List.getElem?_eq_getElem (by omega)
    generalize s.data.toList[b]'(by omega)=a at f
    have t:w64 ((b:Int)+1)=((b+1:Nat):Int):=by rw[ZB (by omega) (by omega)];omega
    simp only[n,if_true,zni,f,Option.bind_some,t]
    by_cases c:okB a=true
    ·have i:(((!((decide ((97:Int)≤(a.toNat:Int)))&&(decide ((a.toNat:Int)≤122))))&&(!((decide ((48:Int)≤(a.toNat:Int)))&&(decide ((a.toNat:Int)≤57)))))&&((a.toNat:Int) != 95))=false:=by
      unfold okB at c
      rw[Bool.not_eq_true']at c
      exact c
     rw[i]
     refine⟨_,rfl,⟨b+1,rfl,by omega,fun d u j k=>?_⟩,by simp only[Int.toNat_natCast];omega⟩
     rcases Nat.lt_or_eq_of_le (Nat.le_of_lt_succ j)with e|rfl
     ·exact o d u e k
     ·rw[f]at k;cases k;exact c
    ·have i:(((!((decide ((97:Int)≤(a.toNat:Int)))&&(decide ((a.toNat:Int)≤122))))&&(!((decide ((48:Int)≤(a.toNat:Int)))&&(decide ((a.toNat:Int)≤57)))))&&((a.toNat:Int) != 95))=true:=by
      rw[Bool.not_eq_true]at c
      unfold okB at c
      rw[Bool.not_eq_false']at c
      exact c
     rw[i]
     refine⟨_,rfl,.inl ⟨rfl,?_⟩⟩
     rw[List.all_eq_false]
     exact⟨a,List.mem_of_getElem? f,c⟩
   ·have n:decide ((b:Int)<(s.size:Int))=false:=decide_eq_false (by omega)
    simp only[n,Bool.false_eq_true,if_false]
    refine⟨_,rfl,.inr ⟨_,rfl,?_⟩⟩
    rw[List.all_eq_true]
    intro a f
    obtain⟨d,j,rfl⟩:=List.mem_iff_getElem.1 f
    exact o d _ (by omega) (List.getElem?_eq_getElem j))
 rw[q];rcases r with ⟨rfl,e⟩|⟨p,rfl,e⟩;rw[e];rfl;rw[e];simp only[Option.bind_some,Lp.andThen_fin,Bool.true_and]}
theorem zpI(s:ByteArray):zbz s=some (s.data.toList.all okB&&((!(qi s (⟨#[]⟩:ByteArray)))&&(decide ((s.size:Int)≤20)))):=by{
 unfold zbz
 have g:qi s (⟨#[]⟩:ByteArray)=decide ((s.size:Int)=0):=by
  rw[zmi,Bool.eq_iff_iff,beq_iff_eq,decide_eq_true_eq]
  have e:s.data.toList.length=s.size:=rfl
  constructor
  intro a
  rw[a]at e
  simp at e
  omega
  intro a
  exact List.eq_nil_of_length_eq_zero (by omega)
 rw[g];by_cases b:(1:Int)≤(s.size:Int);by_cases f:(s.size:Int)≤20;simp only[decide_eq_true b,decide_eq_true f,if_true]
 have h:zdP s (⟨#[97,98,99,100,101,102,103,104,105,106,107,108,109,110,111,112,113,114,115,116,117,118,119,120,121,122,48,49,50,51,52,53,54,55,56,57,95]⟩:ByteArray)=some ⟨(Go.Lib.trimS s.data.toList nameSet).toArray⟩:=by
  unfold zdP
  rw[if_pos ⟨by omega,by decide,by decide⟩]
  rfl
 rw[h];simp only[Option.bind_some,zmi];congr 1;rw[decide_eq_false (by omega),Bool.not_false,Bool.true_and,Bool.and_true,Bool.eq_iff_iff,beq_iff_eq,zqK,List.all_eq_true];exact⟨fun a d c=>by rw[zoX];exact a d c,fun a d c=>by rw[← zoX];exact a d c⟩;simp only[decide_eq_true b,decide_eq_false f,if_true,Bool.false_eq_true,if_false,Option.bind_some,Bool.and_false];have i:(s.size:Int)=0:=by omega
 simp only[decide_eq_false b,Bool.false_eq_true,if_false,Option.bind_some,decide_eq_true i,Bool.not_true,Bool.false_and,Bool.and_false]}
theorem zlY(l:List zm)(q:∀b∈l,b.name.size≤9223372036854775807):∃e,Qq l=some e∧jn l=some e:=by{
 unfold Qq jn;by_cases n:(12:Int)<(l.length:Int);simp only[decide_eq_true n,if_true];exact⟨4,rfl,rfl⟩;simp only[decide_eq_false n,Bool.false_eq_true,if_false]
 rcases zcE (R:=Int) (b:=fun c (_:Unit)=>Option.bind (idx l (c:Int)) fun a=>Option.bind (zaF a.name) fun f=>if (!f)=true then some (.rt 3) else Option.bind (if (decide ((0:Int)<(c:Int)))=true then (Option.bind (idx l (w64 ((c:Int)-1))) fun d=>some (zfA a.name d.name||qi a.name d.name)) else (some false)) fun o=>if o=true then some (.rt 5) else if (!(zw a.rank 1 9))=true then some (.rt 2) else some (.nx ()))
  (b':=fun c (_:Unit)=>Option.bind (idx l (c:Int)) fun a=>Option.bind (zbz a.name) fun f=>if (!f)=true then some (.rt 3) else Option.bind (if (decide ((0:Int)<(c:Int)))=true then (Option.bind (idx l (w64 ((c:Int)-1))) fun h=>some (zfA a.name h.name||qi a.name h.name)) else (some false)) fun p=>if p=true then some (.rt 5) else if ((decide (a.rank<1))||(decide ((9:Int)<a.rank)))=true then some (.rt 2) else some (.nx ())) l.length (fun _=>True) (fun _ _ _=>True) (s:=()) (s':=()) trivial
  (by
   rintro b _ _ j _
   have k:l[b]?=some l[b]:=List.getElem?_eq_getElem j
   have i:=q _ (List.getElem_mem j)
   generalize l[b]=x at k i
   have r:(!(zw x.rank 1 9))=((decide (x.rank<1))||(decide ((9:Int)<x.rank))):=by
    rw[Bool.eq_iff_iff]
    simp only[zw,Bool.not_eq_true',Bool.and_eq_false_iff,decide_eq_false_iff_not,Bool.or_eq_true,decide_eq_true_eq]
    omega
   simp only[Zg,k,Option.bind_some,zrf _ i,zpI,r]
   generalize (x.name.data.toList.all okB&&((!(qi x.name (⟨#[]⟩:ByteArray)))&&(decide ((x.name.size:Int)≤20))))=s
   cases s with
   | false=>exact .inl ⟨3,rfl,rfl,trivial⟩
   | true =>
    simp only[Bool.not_true,Bool.false_eq_true,if_false]
    obtain⟨g,t⟩:∃g:Bool,(if (decide ((0:Int)<(b:Int)))=true then (Option.bind (idx l (w64 ((b:Int)-1))) fun d=>some (zfA x.name d.name||qi x.name d.name)) else (some false))=some g:=by
     by_cases m:(0:Int)<(b:Int)
     ·have u:w64 ((b:Int)-1)=((b-1:Nat):Int):=by rw[ZB (by omega) (by omega)];omega
      rw[if_pos (by simpa using m),u,zdx _ _ (by omega)]
      exact⟨_,rfl⟩
     ·rw[if_neg (by simpa using m)]
      exact⟨_,rfl⟩
    rw[t]
    cases g with
    | true=>exact .inl ⟨5,rfl,rfl,trivial⟩
    | false =>
     simp only[Option.bind_some,Bool.false_eq_true,if_false]
     generalize ((decide (x.rank<1))||(decide ((9:Int)<x.rank)))=v
     cases v with
     | true=>exact .inl ⟨2,rfl,rfl,trivial⟩
     | false=>exact .inr ⟨(),(),rfl,rfl,trivial⟩)with ⟨e,h1,h2,_⟩|⟨_,_,h1,h2,_⟩
 rw[h1,h2];exact⟨e,rfl,rfl⟩;rw[h1,h2];exact⟨0,rfl,rfl⟩}
def zay(l:List ze):Prop:=l.length≤40∧∀(j:Nat) (p:ze),l[j]?=some p→(1≤p.no∧p.no≤40)∧(0≤p.capacity∧p.capacity≤100)∧(0≤p.calendar∧p.calendar≤19)∧∀(i:Nat) (q:ze),i<j→l[i]?=some q→q.no<p.no
theorem zqh(l:List ze)(M:∀b∈l,∀a∈b.skills,a.name.size≤9223372036854775807):∃e,jG l=some e∧zaw l=some e∧(e=0→zay l):=by{
 unfold jG zaw;by_cases g:(40:Int)<(l.length:Int);simp only[decide_eq_true g,if_true];exact⟨4,rfl,rfl,fun g=>absurd g (by decide)⟩;simp only[decide_eq_false g,Bool.false_eq_true,if_false]
 rcases zcE (R:=Int) (b:=fun j (_:Unit)=>Option.bind (idx l (j:Int)) fun c=>if (!(zw c.no 1 40))=true then some (.rt 2) else Option.bind (if (decide ((0:Int)<(j:Int)))=true then (Option.bind (idx l (w64 ((j:Int)-1))) fun s=>some (decide (c.no≤s.no))) else (some false)) fun F=>if F=true then some (.rt 5) else if ((!(zw c.capacity 0 100))||(!(zw c.calendar 0 19)))=true then some (.rt 2) else Option.bind (Qq c.skills) fun z=>if (z != 0)=true then some (.rt z) else some (.nx ()))
  (b':=fun j (_:Unit)=>Option.bind (idx l (j:Int)) fun c=>if ((decide (c.no<1))||(decide ((40:Int)<c.no)))=true then some (.rt 2) else Option.bind (if (decide ((0:Int)<(j:Int)))=true then (Option.bind (idx l (w64 ((j:Int)-1))) fun G=>some (decide (c.no≤G.no))) else (some false)) fun H=>if H=true then some (.rt 5) else if ((((decide (c.capacity<0))||(decide ((100:Int)<c.capacity)))||(decide (c.calendar<0)))||(decide ((20:Int)≤c.calendar)))=true then some (.rt 2) else Option.bind (jn c.skills) fun A=>if (A != 0)=true then some (.rt A) else some (.nx ())) l.length (fun e=>e≠0) (fun a _ _=>∀(h:Nat) (b:ze),h<a→l[h]?=some b→(1≤b.no∧b.no≤40)∧(0≤b.capacity∧b.capacity≤100)∧(0≤b.calendar∧b.calendar≤19)∧∀(f:Nat) (i:ze),f<h→l[f]?=some i→i.no<b.no) (s:=()) (s':=()) (fun h b g=>absurd g (Nat.not_lt_zero _))
  (by
   rintro a _ _ D q
   have t:l[a]?=some l[a]:=List.getElem?_eq_getElem D
   have B:=M _ (List.getElem_mem D)
   generalize l[a]=x at t B
   have u:(!(zw x.no 1 40))=((decide (x.no<1))||(decide ((40:Int)<x.no))):=by
    rw[Bool.eq_iff_iff]
    simp only[zw,Bool.not_eq_true',Bool.and_eq_false_iff,decide_eq_false_iff_not,Bool.or_eq_true,decide_eq_true_eq]
    omega
   have I:((!(zw x.capacity 0 100))||(!(zw x.calendar 0 19)))=((((decide (x.capacity<0))||(decide ((100:Int)<x.capacity)))||(decide (x.calendar<0)))||(decide ((20:Int)≤x.calendar))):=by
    rw[Bool.eq_iff_iff]
    simp only[zw,Bool.not_eq_true',Bool.and_eq_false_iff,decide_eq_false_iff_not,Bool.or_eq_true,decide_eq_true_eq]
    omega
   simp only[Zg,t,Option.bind_some,u,I]
   by_cases o:((decide (x.no<1))||(decide ((40:Int)<x.no)))=true
   ·simp only[o,if_true]
    exact .inl ⟨2,rfl,rfl,by decide⟩
   rw[Bool.not_eq_true]at o
   simp only[o,Bool.false_eq_true,if_false]
   have E:1≤x.no∧x.no≤40:=by
    simp only[Bool.or_eq_false_iff,decide_eq_false_iff_not]at o
    omega
   obtain⟨r,N,J⟩:∃r:Bool,(if (decide ((0:Int)<(a:Int)))=true then (Option.bind (idx l (w64 ((a:Int)-1))) fun s=>some (decide (x.no≤s.no))) else (some false))=some r∧(r=false→∀(f:Nat) (i:ze),f<a→l[f]?=some i→i.no<x.no):=by
    by_cases k:(0:Int)<(a:Int)
    ·have O:w64 ((a:Int)-1)=((a-1:Nat):Int):=by rw[ZB (by omega) (by omega)];omega
     have d:l[a-1]?=some l[a-1]:=List.getElem?_eq_getElem (by omega)
     generalize l[a-1]=y at d
     rw[if_pos (by simpa using k),O,Zg,d]
     refine⟨_,rfl,fun P f i Q v=>?_⟩
     have K:y.no<x.no:=by
      have:=of_decide_eq_false P
      omega
     by_cases L:f=a-1
     ·subst L
      rw[d]at v
      cases v
      exact K
     ·have:=(q (a-1) y (by omega) d).2.2.2 f i (by omega) v
      omega
    ·rw[if_neg (by simpa using k)]
     exact⟨_,rfl,fun _ f i Q=>by omega⟩
   rw[N]
   cases r with
   | true=>exact .inl ⟨5,rfl,rfl,by decide⟩
   | false =>
    simp only[Option.bind_some,Bool.false_eq_true,if_false]
    by_cases p:((((decide (x.capacity<0))||(decide ((100:Int)<x.capacity)))||(decide (x.calendar<0)))||(decide ((20:Int)≤x.calendar)))=true
    ·simp only[p,if_true]
     exact .inl ⟨2,rfl,rfl,by decide⟩
    rw[Bool.not_eq_true]at p
    simp only[p,Bool.false_eq_true,if_false]
    have w:(0≤x.capacity∧x.capacity≤100)∧(0≤x.calendar∧x.calendar≤19):=by
     simp only[Bool.or_eq_false_iff,decide_eq_false_iff_not]at p
     omega
    obtain⟨e,m,n⟩:=zlY x.skills B
    simp only[m,n,Option.bind_some]
    by_cases k:e=0
    ·subst k
     refine .inr ⟨(),(),rfl,rfl,fun h b R d=>?_⟩
     rcases Nat.lt_or_eq_of_le (Nat.le_of_lt_succ R)with S|rfl
     ·exact q h b S d
     ·rw[t]at d
      cases d
      exact⟨E,w.1,w.2,J rfl⟩
    ·have:(e != 0)=true:=by simpa using k
     simp only[this,if_true]
     exact .inl ⟨e,rfl,rfl,k⟩)with ⟨e,m,n,u⟩|⟨_,_,m,n,q⟩
 rw[m,n];exact⟨e,rfl,rfl,fun g=>absurd g u⟩;rw[m,n];exact⟨0,rfl,rfl,fun _=>⟨by omega,fun h b d=>q h b (List.getElem?_eq_some_iff.1 d).1 d⟩⟩}
end Go.Proofs.YtdpmeckhhcjoiaaGreatDoor.M
namespace Go.Proofs.YtdpmeckhhcjoiaaGreatDoor.M
open Go Go.Pu
set_option linter.unusedSimpArgs false
set_option linter.unusedVariables false
theorem zqH(cals:List zi)(l:cals.length≤1000):zbH cals=some ⟨cals⟩:=by{
 unfold zbH
 obtain⟨m,i,j⟩:=ZU (R:=JE) (b:=fun d e=>Option.bind (idx cals (d:Int)) fun f=>Option.bind (zcQ f) fun g=>Option.bind (zC 17592186044416 e.clocks [g]) fun h=>some (.nx (⟨h⟩:JE))) cals.length (fun b c=>c=⟨cals.take b⟩) (s:=⟨[]⟩) (by simp) (by
  rintro b c k rfl
  refine⟨_,?_,rfl⟩
  have a:=List.getElem?_eq_getElem k
  rw[Zg,a]
  simp only[Option.bind_some,zcQ]
  unfold zC
  rw[if_pos (by simp;omega)]
  rw[List.take_add_one,a]
  rfl)
 rw[i,j];simp[Lp.andThen]}
theorem zrm(people:List ze)(cals:List zi)(a:cals.length≤1000):zci people cals=some ⟨people,cals, []⟩:=by{unfold zci;rw[zqH cals a];rfl}
structure zgN(people:List ze)(cals:List zi):Prop where
 ppl:zay people
 most:cals.length≤20
 each:∀(k:Nat) (c:zi),cals[k]?=some c→zbB c∧ZY c=some 0
 has:∀(k:Nat) (p:ze),people[k]?=some p→0≤p.calendar∧p.calendar<(cals.length:Int)
theorem zsj(cals:List zi):(∃e,zS (R:=Int) (fun b (_:Unit)=>Option.bind (idx cals (b:Int)) fun d=>Option.bind (ZY d) fun a=>if (a != 0)=true then some (.rt a) else some (.nx ())) cals.length 0 ()=some (.rt e)∧zS (R:=Int) (fun b (_:Unit)=>Option.bind (idx cals (b:Int)) fun d=>Option.bind (QV d) fun a=>if (a != 0)=true then some (.rt a) else some (.nx ())) cals.length 0 ()=some (.rt e)∧e≠0)∨
  (zS (R:=Int) (fun b (_:Unit)=>Option.bind (idx cals (b:Int)) fun d=>Option.bind (ZY d) fun a=>if (a != 0)=true then some (.rt a) else some (.nx ())) cals.length 0 ()=some (.fin ())∧zS (R:=Int) (fun b (_:Unit)=>Option.bind (idx cals (b:Int)) fun d=>Option.bind (QV d) fun a=>if (a != 0)=true then some (.rt a) else some (.nx ())) cals.length 0 ()=some (.fin ())∧∀(k:Nat) (c:zi),cals[k]?=some c→zbB c∧ZY c=some 0):=by{
 rcases zcE (R:=Int) (b:=fun b (_:Unit)=>Option.bind (idx cals (b:Int)) fun d=>Option.bind (ZY d) fun a=>if (a != 0)=true then some (.rt a) else some (.nx ()))
  (b':=fun b (_:Unit)=>Option.bind (idx cals (b:Int)) fun d=>Option.bind (QV d) fun a=>if (a != 0)=true then some (.rt a) else some (.nx ())) cals.length (fun e=>e≠0) (fun k _ _=>∀(f:Nat) (c:zi),f<k→cals[f]?=some c→zbB c∧ZY c=some 0) (s:=()) (s':=()) (fun f c g=>absurd g (Nat.not_lt_zero f))
  (by
   intro k u r n i
   have j:cals[k]?=some cals[k]:=List.getElem?_eq_getElem n
   generalize cals[k]=c at j
   obtain⟨e,m,o,p⟩:=zqo c
   simp only[Zg,j,Option.bind_some,m,o]
   by_cases h:e=0
   ·subst h
    simp only[bne_self_eq_false,Bool.false_eq_true,if_false]
    refine .inr ⟨(),(),by trivial,by trivial,fun f q s l=>?_⟩
    by_cases g:f=k
    ·subst g
     rw[j]at l
     cases l
     exact⟨p rfl,m⟩
    ·exact i f q (by omega) l
   ·have:(e != 0)=true:=by simpa using h
    simp only[this,if_true]
    exact .inl ⟨e,rfl,rfl,h⟩)with ⟨e,g1,g2,h⟩|⟨t,t',g1,g2,i⟩
 exact .inl ⟨e,g1,g2,h⟩;refine .inr ⟨g1,g2,fun k c g=>i k c ?_ g⟩;have:=List.getElem?_eq_some_iff.1 g;exact this.1}
theorem zrY(people:List ze)(cals:List zi)(p:∀e∈people,∀j∈e.skills,j.name.size≤9223372036854775807):
  ∃b,jN people cals=some b∧zbt people cals=some b∧(b=0→zgN people cals):=by{
 obtain⟨b,q,r,s⟩:=zqh people p;unfold jN zbt zcC;simp only[q,r,Option.bind_some];by_cases d:b=0;rotate_left;have:(b != 0)=true:=by simpa using d
 simp only[this,if_true];exact⟨b,rfl,rfl,fun c=>absurd c d⟩;subst d;have l:=s rfl;simp only[bne_self_eq_false,Bool.false_eq_true,if_false];by_cases k:(20:Int)<(cals.length:Int);simp only[decide_eq_true k,if_true,Option.bind_some];exact⟨4,rfl,rfl,fun c=>absurd c (by decide)⟩;simp only[decide_eq_false k,Bool.false_eq_true,if_false];rcases zsj cals with ⟨b,f,g,d⟩|⟨f,g,t⟩;rw[f,g];have:(b != 0)=true:=by simpa using d
 simp only[Option.bind_some,Lp.andThen,this,if_true];exact⟨b,rfl,rfl,fun c=>absurd c d⟩;rw[f,g];simp only[Option.bind_some,Lp.andThen,bne_self_eq_false,Bool.false_eq_true,if_false];rw[ziw people (fun a=>decide ((cals.length:Int)≤a.calendar)) (7:Int)];unfold Qk ZC zaC;rw[zch people (fun a=>decide ((cals.length:Int)≤a.calendar))];cases hf:people.findIdx? (fun a=>decide ((cals.length:Int)≤a.calendar)) with
 | none =>
  have m:=List.findIdx?_eq_none_iff.1 hf
  have h:people.any (fun a=>decide ((cals.length:Int)≤a.calendar))=false:=by
   rw[List.any_eq_false]
   intro a u
   simpa using m a u
  simp only[h,Bool.false_eq_true,if_false,Option.bind_some]
  refine⟨0,rfl,rfl,fun _=>⟨l,by omega,t,fun j e c=>?_⟩⟩
  have i:=m e (List.mem_of_getElem? c)
  have n:=(l.2 j e c).2.2.1
  simp at i
  omega
 | some o =>
  have h:people.any (fun a=>decide ((cals.length:Int)≤a.calendar))=true:=by
   obtain⟨i,n,_⟩:=List.findIdx?_eq_some_iff_getElem.1 hf
   exact List.any_eq_true.2 ⟨_,List.getElem_mem i,n⟩
  simp only[h,if_true,Option.bind_some]
  refine⟨7,rfl,?_,fun c=>absurd c (by decide)⟩
  show (if decide ((0:Int)≤(o:Int))=true then some (7:Int) else some 0)=some 7
  rw[if_pos (decide_eq_true (Int.natCast_nonneg o))]}
theorem zlQ(a b:Int):Jq [a,b]=some (if a≠0 then a else b):=zss a b
theorem zjt{m:Int}(a:0≤m∧m≤3000000):qL m=0:=by{unfold qL;rw[if_neg];simp[Zo];omega}
end Go.Proofs.YtdpmeckhhcjoiaaGreatDoor.M
namespace Go.Proofs.YtdpmeckhhcjoiaaGreatDoor.M
open Go Go.Pu
set_option linter.unusedSimpArgs false
set_option linter.unusedVariables false
theorem zke{a b:UInt8}:a<b↔a.toNat<b.toNat:=UInt8.lt_iff_toNat_lt
theorem zma:∀a b:List UInt8,Go.Lib.compareBytes a b=0↔a=b
 | [], []=>by simp[Go.Lib.compareBytes]
 | [],_::_=>by simp[Go.Lib.compareBytes]
 | _::_, []=>by simp[Go.Lib.compareBytes]
 | a::a1s,b::bs=>by
  rw[Go.Lib.compareBytes]
  by_cases h1:a<b
  ·rw[if_pos h1]
   constructor
   ·intro h;cases h
   ·intro h;cases h;rw[zke]at h1;omega
  ·rw[if_neg h1]
   by_cases h2:b<a
   ·rw[if_pos h2]
    constructor
    ·intro h;cases h
    ·intro h;cases h;rw[zke]at h2;omega
   ·rw[if_neg h2,zma a1s bs]
    rw[zke]at h1 h2
    have:a=b:=UInt8.toNat_inj.1 (by omega)
    simp[this]
theorem zmo:∀a b:List UInt8,Go.Lib.compareBytes a b = -Go.Lib.compareBytes b a
 | [], []=>by simp[Go.Lib.compareBytes]
 | [],_::_=>by simp[Go.Lib.compareBytes]
 | _::_, []=>by simp[Go.Lib.compareBytes]
 | a::a1s,b::bs=>by
  rw[Go.Lib.compareBytes,Go.Lib.compareBytes,zmo a1s bs]
  simp only[zke]
  split <;> split <;> omega
theorem zlo:∀a b c:List UInt8,Go.Lib.compareBytes a b<0→Go.Lib.compareBytes b c<0→Go.Lib.compareBytes a c<0
 | [],b, [],h1,h2=>by
  cases b with
  | nil=>exact h1
  | cons b bs=>simp[Go.Lib.compareBytes]at h2
 | [],_,_::_,_,_=>by simp[Go.Lib.compareBytes]
 | _::_, [],_,h1,_=>by simp[Go.Lib.compareBytes]at h1
 | _::_,_::_, [],_,h2=>by simp[Go.Lib.compareBytes]at h2
 | a::a1s,b::bs,c::cs,h1,h2=>by
  rw[Go.Lib.compareBytes]at h1 h2 ⊢
  simp only[zke]at h1 h2 ⊢
  by_cases h3:a.toNat<b.toNat
  ·by_cases h4:b.toNat<c.toNat
   ·rw[if_pos (by omega)];decide
   ·rw[if_neg h4]at h2
    by_cases h5:c.toNat<b.toNat
    ·rw[if_pos h5]at h2;omega
    ·rw[if_pos (by omega)];decide
  ·rw[if_neg h3]at h1
   by_cases h4:b.toNat<a.toNat
   ·rw[if_pos h4]at h1;omega
   ·rw[if_neg h4]at h1
    by_cases h5:b.toNat<c.toNat
    ·rw[if_pos (by omega)];decide
    ·rw[if_neg h5]at h2
     by_cases h6:c.toNat<b.toNat
     ·rw[if_pos h6]at h2;omega
     ·rw[if_neg h6]at h2
      rw[if_neg (by omega),if_neg (by omega)]
      exact zlo a1s bs cs h1 h2
theorem zoa:∀a b:List UInt8,Op.bytesLess a b=decide (Go.Lib.compareBytes a b<0)
 | [], []=>by simp[Go.Lib.compareBytes,Op.bytesLess]
 | [],_::_=>by simp[Go.Lib.compareBytes,Op.bytesLess]
 | _::_, []=>by simp[Go.Lib.compareBytes,Op.bytesLess]
 | a::a1s,b::bs=>by
  rw[Go.Lib.compareBytes,Op.bytesLess,zoa a1s bs]
  simp only[zke]
  by_cases h1:a.toNat<b.toNat
  ·simp[h1]
  ·by_cases h2:b.toNat<a.toNat
   ·have:a≠b:=fun c=>by subst c;omega
    simp[h1,h2,this]
   ·have:a=b:=UInt8.toNat_inj.1 (by omega)
    simp[h1,h2,this]
def cmpS(a b:ByteArray):Int:=Go.Lib.compareBytes a.data.toList b.data.toList
theorem zqe(a b:ByteArray):cmpS a b=0↔a=b:=by{unfold cmpS;rw[zma];constructor;intro c;apply ByteArray.ext;rw[← Array.toList_inj];exact c;rintro rfl;rfl}
theorem zqd(a b:ByteArray):cmpS a b = -cmpS b a:=zmo _ _
theorem zpp{a b c:ByteArray}(d:cmpS a b<0)(e:cmpS b c<0):cmpS a c<0:=zlo _ _ _ d e
theorem zqL(a b:ByteArray):zfA a b=decide (cmpS a b<0):=by{unfold zfA cmpS;rw[ByteArray.toList_eq,ByteArray.toList_eq,zoa]}
theorem zqT(a b:ByteArray):qi a b=decide (a=b):=by{unfold qi;rw[ByteArray.toList_eq,ByteArray.toList_eq,Bool.eq_iff_iff,beq_iff_eq,decide_eq_true_eq];constructor;intro c;apply ByteArray.ext;rw[← Array.toList_inj];exact c;rintro rfl;rfl}
end Go.Proofs.YtdpmeckhhcjoiaaGreatDoor.M
namespace Go.Proofs.YtdpmeckhhcjoiaaGreatDoor.M
open Go Go.Pu
set_option linter.unusedSimpArgs false
set_option linter.unusedVariables false
theorem zkQ{R:Type}{b:Nat→Unit→Option (Ctl Unit R)}(n:Nat)(d:Nat→Prop)(Q:R→Prop)(e:∀a,a<n→(d a∧b a ()=some (.nx ()))∨(¬d a∧∃c,Q c∧b a ()=some (.rt c))):
  ((∀a,a<n→d a)∧zS b n 0 ()=some (.fin ()))∨((¬∀a,a<n→d a)∧∃c,Q c∧zS b n 0 ()=some (.rt c)):=by{
 obtain⟨i,h,g⟩:=zdF (body:=b) n (fun a _=>∀f,f<a→d f) (fun i=>(i=.fin ()∧∀a,a<n→d a)∨∃c,i=.rt c∧Q c∧¬∀a,a<n→d a) (s:=()) (fun f e=>absurd e (Nat.not_lt_zero f))
  (by
   rintro a _ m o
   rcases e a m with ⟨j,k⟩|⟨j,c,l,k⟩
   ·refine⟨_,k,fun f p=>?_⟩
    rcases Nat.lt_or_eq_of_le (Nat.le_of_lt_succ p)with h|rfl
    ·exact o f h
    ·exact j
   ·exact⟨_,k,.inr ⟨c,rfl,l,fun e=>j (e a m)⟩⟩)
  (fun _ e=>.inl ⟨rfl,e⟩)
 rcases g with ⟨rfl,g⟩|⟨c,rfl,l,g⟩;exact .inl ⟨g,h⟩;exact .inr ⟨g,c,l,h⟩}
noncomputable def nmOk(s:ByteArray):Bool:=(zaF s).getD false&&decide (s.size≤20)
theorem zsy(s:ByteArray)(m:s.size≤9223372036854775807):zaF s=some (nmOk s):=by{
 suffices a:∃f,zaF s=some f∧(f=true→s.size≤20) by
  obtain⟨f,j,a⟩:=a
  unfold nmOk
  rw[j]
  cases f with
  | false=>rfl
  | true=>rw[decide_eq_true (a rfl)];rfl
 unfold zaF
 suffices a:∀(h:Int→Option (Ctl Int Bool)),(∀e,h e=if (decide (e<(s.size:Int)))=true then Option.bind (idxS s e) fun d=>if (((!((decide ((97:Int)≤(d.toNat:Int)))&&(decide ((d.toNat:Int)≤122))))&&(!((decide ((48:Int)≤(d.toNat:Int)))&&(decide ((d.toNat:Int)≤57)))))&&((d.toNat:Int) != 95))=true then some (.rt false) else some (.nx (w64 (e+1))) else some (.bk e))→∃b,Jr h 0=some b∧(b=.rt false∨∃g,b=.fin g) by
  obtain⟨b,j,a⟩:=a _ fun _=>rfl
  rw[j]
  rcases a with rfl|⟨g,rfl⟩
  exact⟨false,rfl,fun a=>by cases a⟩
  exact⟨_,rfl,fun a=>by simp only[Bool.and_eq_true,decide_eq_true_eq]at a;omega⟩
 intro h i;refine zey (fun k=>∃c:Nat,k=(c:Int)∧c≤s.size) (fun k=>s.size-k.toNat) (fun b=>b=.rt false∨∃g,b=.fin g) ⟨0,rfl,Nat.zero_le _⟩ ?_;rintro _⟨c,rfl,n⟩;rw[i];by_cases l:c<s.size;have o:s.data.toList.length=s.size:=rfl;have i:s.data.toList[c]?=some (s.data.toList[c]'(by omega)):=List.getElem?_eq_getElem (by omega);rw[if_pos (decide_eq_true (by omega)),zni,i,Option.bind_some];split;exact⟨_,rfl,.inl rfl⟩;exact⟨_,rfl,⟨c+1,by rw[ZB (by omega) (by omega)];omega,l⟩,by rw[ZB (by omega) (by omega)];omega⟩;rw[if_neg (by simp;omega)];exact⟨_,rfl,.inr ⟨_,rfl⟩⟩}
theorem zsg{s:ByteArray}(a:nmOk s=true):s.size≤20:=by{unfold nmOk at a;simp only[Bool.and_eq_true,decide_eq_true_eq]at a;exact a.2}
structure SkOK(l:List zm):Prop where
 len:l.length≤12
 name:∀s∈l,nmOk s.name=true
 rank:∀s∈l,1≤s.rank∧s.rank≤9
 rise:l.Pairwise fun a b=>cmpS a.name b.name<0
theorem SkOK.size{l:List zm}(b:SkOK l){s:zm}(a:s∈l):s.name.size≤9223372036854775807:=by{have:=zsg (b.name s a);omega}
theorem zkO(l:List zm)(p:∀b∈l,b.name.size≤9223372036854775807):∃f,Qq l=some f∧(f=0↔SkOK l):=by{
 unfold Qq;by_cases c:(12:Int)<(l.length:Int);simp only[decide_eq_true c,if_true];exact⟨4,rfl,fun c=>absurd c (by decide),fun d=>by have:=d.len;omega⟩;simp only[decide_eq_false c,Bool.false_eq_true,if_false]
 rcases zkQ (R:=Int) (b:=fun q _=>Option.bind (idx l (q:Int)) fun o=>Option.bind (zaF o.name) fun v=>if (!v)=true then some (.rt 3) else Option.bind (if (decide ((0:Int)<(q:Int)))=true then (Option.bind (idx l (w64 ((q:Int)-1))) fun j=>some (zfA o.name j.name||qi o.name j.name)) else (some false)) fun w=>if w=true then some (.rt 5) else if (!(zw o.rank 1 9))=true then some (.rt 2) else some (.nx ())) l.length
  (fun b=>∀a,l[b]?=some a→nmOk a.name=true∧(1≤a.rank∧a.rank≤9)∧∀g,0<b→l[b-1]?=some g→cmpS g.name a.name<0) (fun f=>f≠0)
  (by
   intro b r
   have i:l[b]?=some l[b]:=List.getElem?_eq_getElem r
   have t:=p _ (List.getElem_mem r)
   generalize l[b]=a at i t
   simp only[Zg,i,Option.bind_some,zsy a.name t,Option.some.injEq,forall_eq']
   change (_∧(if (!(nmOk a.name))=true then _ else _)=_)∨(_∧∃f,f≠0∧(if (!(nmOk a.name))=true then _ else _)=_)
   by_cases k:nmOk a.name=true
   rotate_left
   ·rw[Bool.not_eq_true]at k
    rw[k]
    exact .inr ⟨fun c=>by simp at c,3,by decide,rfl⟩
   rw[k]
   simp only[Bool.not_true,Bool.false_eq_true,if_false,true_and]
   obtain⟨h,y,x⟩:∃h:Bool,(if (decide ((0:Int)<(b:Int)))=true then (Option.bind (idx l (w64 ((b:Int)-1))) fun j=>some (zfA a.name j.name||qi a.name j.name)) else (some false))=some h∧(h=false↔∀g,0<b→l[b-1]?=some g→cmpS g.name a.name<0):=by
    by_cases s:(0:Int)<(b:Int)
    ·have z:w64 ((b:Int)-1)=((b-1:Nat):Int):=by rw[ZB (by omega) (by omega)];omega
     have A:=List.getElem?_eq_getElem (l:=l) (i:=b-1) (by omega)
     rw[if_pos (by simpa using s),z,Zg,A]
     refine⟨_,rfl,?_⟩
     generalize l[b-1]=G
     rw[zqL,zqT,Bool.or_eq_false_iff,decide_eq_false_iff_not,decide_eq_false_iff_not, ← zqe,zqd a.name]
     constructor
     ·rintro c g _ ⟨⟩;omega
     ·intro c;have:=c G (by omega) rfl;omega
    ·rw[if_neg (by simpa using s)]
     exact⟨_,rfl,fun _ g c=>absurd c (by omega),fun _=>rfl⟩
   rw[y, ← x]
   cases h with
   | true=>exact .inr ⟨fun c=>by simp at c,5,by decide,rfl⟩
   | false =>
    simp only[Option.bind_some,Bool.false_eq_true,if_false,and_true]
    by_cases d:1≤a.rank∧a.rank≤9
    ·exact .inl ⟨d,by simp[zw,d.1,d.2]⟩
    ·refine .inr ⟨d,2,by decide,?_⟩
     rw[if_pos]
     simp only[zw,Bool.not_eq_true',Bool.and_eq_false_iff,decide_eq_false_iff_not]
     omega)with ⟨hg,e⟩|⟨hg,f,hr,e⟩
 rw[e];refine⟨0,rfl,fun _=>⟨by omega,fun a c=>?_,fun a c=>?_,?_⟩,fun _=>rfl⟩;obtain⟨n,m⟩:=List.mem_iff_getElem?.1 c;exact (hg n (List.getElem?_eq_some_iff.1 m).1 a m).1;obtain⟨n,m⟩:=List.mem_iff_getElem?.1 c;exact (hg n (List.getElem?_eq_some_iff.1 m).1 a m).2.1;refine zei (R:=fun u h:zm=>cmpS u.name h.name<0) (fun u h I k d=>zpp k d) l fun n H a B p=>?_;exact (hg (n+1) (List.getElem?_eq_some_iff.1 p).1 a p).2.2 H (by omega) B;rw[e];refine⟨f,rfl,fun c=>absurd c hr,fun d=>absurd (fun b r a i=>⟨d.name a (List.mem_of_getElem? i),d.rank a (List.mem_of_getElem? i),fun g s D=>?_⟩) hg⟩;obtain⟨E,rfl⟩:=List.getElem?_eq_some_iff.1 D;obtain⟨F,rfl⟩:=List.getElem?_eq_some_iff.1 i;exact List.pairwise_iff_getElem.1 d.rise (b-1) b E F (by omega)}
structure WkOK(w:za):Prop where
 tick:1≤w.ticket∧w.ticket≤400
 wei:1≤w.weight∧w.weight≤20
 urg:0≤w.urgency∧w.urgency≤9
 since:0≤w.since∧w.since≤3000000
 former:0≤w.former∧w.former≤40
 needs:SkOK w.needs
theorem zqU(w:za)(i:∀o∈w.needs,o.name.size≤9223372036854775807):∃c,zaJ [w]=some c∧(c=0↔WkOK w):=by{
 obtain⟨c,j,f⟩:=zkO w.needs i;unfold zaJ;have k:decide ((200:Int)<(([w]:List za).length:Int))=false:=decide_eq_false (by simp);have l:idx [w] ((0:Nat):Int)=some w:=rfl;have h:zcH [w] none (some ((0:Nat):Int))=some []:=by simp[zcH,zif]
 have m:Zc [] (fun p=>JN p w)=some false:=rfl;rw[k];simp only[Bool.false_eq_true,if_false,List.length_singleton,zS,l,Option.bind_some,h,m,j];by_cases d:1≤w.ticket∧w.ticket≤400;rotate_left
 have:(!(zw w.ticket 1 400))=true:=by
  simp only[zw,Bool.not_eq_true',Bool.and_eq_false_iff,decide_eq_false_iff_not];omega
 simp only[this,if_true];exact⟨2,rfl,fun a=>absurd a (by decide),fun a=>absurd a.tick d⟩;have g:(!(zw w.ticket 1 400))=false:=by simp[zw,d.1,d.2]
 by_cases b:((1≤w.weight∧w.weight≤20)∧(0≤w.urgency∧w.urgency≤9))∧(0≤w.since∧w.since≤3000000)∧(0≤w.former∧w.former≤40);rotate_left
 have:((((!(zw w.weight 1 20))||(!(zw w.urgency 0 9)))||(!(zw w.since 0 3000000)))||(!(zw w.former 0 40)))=true:=by
  rw[← Bool.not_eq_false]
  intro a
  simp only[zw,Bool.or_eq_false_iff,Bool.not_eq_false',Bool.and_eq_true,decide_eq_true_eq]at a
  exact b ⟨⟨a.1.1.1,a.1.1.2⟩,a.1.2,a.2⟩
 simp only[g,this,if_true,Bool.false_eq_true,if_false];exact⟨2,rfl,fun a=>absurd a (by decide),fun a=>absurd ⟨⟨a.wei,a.urg⟩,a.since,a.former⟩ b⟩;have n:((((!(zw w.weight 1 20))||(!(zw w.urgency 0 9)))||(!(zw w.since 0 3000000)))||(!(zw w.former 0 40)))=false:=by simp[zw,b.1.1.1,b.1.1.2,b.1.2.1,b.1.2.2,b.2.1.1,b.2.1.2,b.2.2.1,b.2.2.2]
 simp only[g,n,Bool.false_eq_true,if_false];by_cases e:c=0;subst e;exact⟨0,rfl,fun _=>⟨d,b.1.1,b.1.2,b.2.1,b.2.2,f.1 rfl⟩,fun _=>rfl⟩;have:(c != 0)=true:=by simpa using e
 simp only[this,if_true];exact⟨c,rfl,fun a=>absurd a e,fun a=>absurd (f.2 a.needs) e⟩}
def StOK(steps:List zt):Prop:=steps.length≤8∧∀s∈steps,(1≤s.after∧s.after≤3000000)∧(0≤s.lower∧s.lower≤9)
theorem zqO(l:List zt):∃e,jT l=some e∧(e=0→StOK l):=by{
 unfold jT;by_cases b:(8:Int)<(l.length:Int);simp only[decide_eq_true b,if_true];exact⟨4,rfl,fun b=>absurd b (by decide)⟩;simp only[decide_eq_false b,Bool.false_eq_true,if_false]
 obtain⟨o,z,k⟩:=zdF (R:=Int) (body:=fun j (_:Unit)=>Option.bind (idx l (j:Int)) fun h=>if ((!(zw h.after 1 3000000))||(!(zw h.lower 0 9)))=true then some (.rt 2) else Option.bind (if (decide ((0:Int)<(j:Int)))=true then (Option.bind (idx l (w64 ((j:Int)-1))) fun i=>some (decide (h.after≤i.after))) else (some false)) fun r=>if r=true then some (.rt 5) else some (.nx ())) l.length
  (fun c _=>∀d a,d<c→l[d]?=some a→(1≤a.after∧a.after≤3000000)∧(0≤a.lower∧a.lower≤9)) (fun o=>(∃e,o=.rt e∧e≠0)∨(o=.fin ()∧∀a∈l,(1≤a.after∧a.after≤3000000)∧(0≤a.lower∧a.lower≤9))) (s:=()) (fun d a b=>absurd b (Nat.not_lt_zero d))
  (by
   rintro c _ s t
   have m:l[c]?=some l[c]:=List.getElem?_eq_getElem s
   generalize l[c]=a at m
   simp only[Zg,m,Option.bind_some]
   by_cases f:(1≤a.after∧a.after≤3000000)∧(0≤a.lower∧a.lower≤9)
   rotate_left
   ·rw[if_pos (by
     rw[← Bool.not_eq_false]
     intro b
     simp only[zw,Bool.or_eq_false_iff,Bool.not_eq_false',Bool.and_eq_true,decide_eq_true_eq]at b
     exact f b)]
    exact⟨_,rfl,.inl ⟨2,rfl,by decide⟩⟩
   rw[if_neg (by simp[zw,f.1.1,f.1.2,f.2.1,f.2.2])]
   obtain⟨p,u⟩:∃p:Bool,(if (decide ((0:Int)<(c:Int)))=true then (Option.bind (idx l (w64 ((c:Int)-1))) fun i=>some (decide (a.after≤i.after))) else (some false))=some p:=by
    by_cases q:(0:Int)<(c:Int)
    ·have v:w64 ((c:Int)-1)=((c-1:Nat):Int):=by rw[ZB (by omega) (by omega)];omega
     rw[if_pos (by simpa using q),v,Zg,List.getElem?_eq_getElem (by omega)]
     exact⟨_,rfl⟩
    ·rw[if_neg (by simpa using q)]
     exact⟨_,rfl⟩
   rw[u]
   cases p with
   | true=>exact⟨_,rfl,.inl ⟨5,rfl,by decide⟩⟩
   | false =>
    refine⟨_,rfl,fun d A g n=>?_⟩
    rcases Nat.lt_or_eq_of_le (Nat.le_of_lt_succ g)with w|rfl
    ·exact t d A w n
    ·rw[m]at n
     cases n
     exact f)
  (fun _ b=>.inr ⟨rfl,fun a x=>by
   obtain⟨d,g⟩:=List.mem_iff_getElem?.1 x
   exact b d a (List.getElem?_eq_some_iff.1 g).1 g⟩)
 rw[z];rcases k with ⟨e,rfl,y⟩|⟨rfl,k⟩;exact⟨e,rfl,fun b=>absurd b y⟩;exact⟨0,rfl,fun _=>⟨by omega,k⟩⟩}
def zeH(steps:List zt)(d:Int):Nat→Int
 | 0 => -1
 | k+1=>match steps[k]? with
  | some s=>if s.after≤d then (k:Int) else zeH steps d k
  | none=>zeH steps d k
def lowS(n:Int)(s:zm):Option zm:=if 1≤w64 (s.rank-n) then some ⟨s.name,w64 (s.rank-n)⟩ else none
def zaQ(w:za)(steps:List zt)(m:Int):List zm:=match idx steps (zeH steps (m-w.since) steps.length) with
 | none=>w.needs
 | some s=>if s.any=true then [] else w.needs.filterMap (lowS s.lower)
theorem znW(steps:List zt)(d:Int):∀k,k≤steps.length→zeH steps d k = -1∨∃j:Nat,j<k∧zeH steps d k=(j:Int)
 | 0,_=>.inl rfl
 | k+1,h=>by
  rw[zeH,List.getElem?_eq_getElem (by omega)]
  dsimp only
  split
  ·exact .inr ⟨k,Nat.lt_succ_self k,rfl⟩
  ·exact (znW steps d k (by omega)).imp id fun⟨j,h1,h2⟩=>⟨j,by omega,h2⟩
theorem zko(w:za)(steps:List zt)(m:Int)(I:w.needs.length≤12)(J : -9000000≤m-w.since∧m-w.since≤9000000):Jx w steps m=some (zaQ w steps m):=by{
 unfold Jx zJ
 obtain⟨d,D,E⟩:=ZU (R:=List zm) (b:=fun l t=>Option.bind (Option.bind (idx steps (l:Int)) fun u=>Option.bind (if (decide (u.after≤(w64 (m-w.since))))=true then some (l:Int) else some t) fun v=>some v) fun z=>some (.nx z))
  steps.length (fun a d=>d=zeH steps (m-w.since) a) (s := -1) rfl
  (by
   rintro a d i rfl
   have c:steps[a]?=some steps[a]:=List.getElem?_eq_getElem i
   generalize steps[a]=x at c
   simp only[Zg,c,Option.bind_some,zeH]
   rw[ZB (n:=m-w.since) (by omega) (by omega)]
   by_cases b:x.after≤m-w.since
   ·simp only[decide_eq_true b,if_true,Option.bind_some,if_pos b]
    exact⟨_,rfl,rfl⟩
   ·simp only[decide_eq_false b,Bool.false_eq_true,if_false,Option.bind_some,if_neg b]
    exact⟨_,rfl,rfl⟩)
 rw[D];simp only[Option.bind_some,Lp.andThen_fin];subst E;unfold zaQ;rcases znW steps (m-w.since) steps.length (Nat.le_refl _)with k|⟨e,F,k⟩
 rw[k]
 have h:zC 5864062014805 ([]:List zm) w.needs=some w.needs:=by
  unfold zC
  rw[if_pos (by simp;omega)]
  rfl
 have G:idx steps (-1)=none:=rfl;simp only[if_pos (show (-1:Int)<0 by decide),Option.bind_some,h,if_true,G];rw[k];have c:steps[e]?=some steps[e]:=List.getElem?_eq_getElem F;generalize steps[e]=x77 at c;simp only[if_neg (show ¬(e:Int)<0 by omega),Zg,c,Option.map_some,Option.bind_some,Bool.false_eq_true,if_false];by_cases o:x77.any=true;simp only[o,if_true];simp only[o,if_false,Bool.false_eq_true]
 obtain⟨K,p,B,_⟩:=ZU (R:=List zm) (b:=fun A n=>Option.bind (Option.bind (idx w.needs (A:Int)) fun g=>Option.bind (if (decide ((1:Int)≤(w64 (g.rank-x77.lower))))=true then Option.bind (zC 5864062014805 n ([(⟨g.name,w64 (g.rank-x77.lower)⟩:zm)]:List zm)) fun q=>some q else some n) fun r=>some r) fun s=>some (.nx s))
  w.needs.length (fun a d=>d=(w.needs.take a).filterMap (lowS x77.lower)∧d.length≤a) (s:=([]:List zm)) ⟨rfl,by simp⟩
  (by
   rintro a d i⟨rfl,j⟩
   have c:w.needs[a]?=some w.needs[a]:=List.getElem?_eq_getElem i
   generalize w.needs[a]=y at c
   have H:(w.needs.take (a+1)).filterMap (lowS x77.lower)=(w.needs.take a).filterMap (lowS x77.lower)++(lowS x77.lower y).toList:=by
    rw[List.take_add_one,c,List.filterMap_append]
    cases b:lowS x77.lower y <;> simp[b]
   simp only[Zg,c,Option.bind_some,H]
   generalize (w.needs.take a).filterMap (lowS x77.lower)=l0 at j
   unfold lowS
   by_cases b:1≤w64 (y.rank-x77.lower)
   ·have h:∀f:List zm,f.length≤a→zC 5864062014805 f [(⟨y.name,w64 (y.rank-x77.lower)⟩:zm)]=some (f++[⟨y.name,w64 (y.rank-x77.lower)⟩]):=fun f j=>by
     unfold zC
     rw[if_pos (by simp;omega)]
    simp only[decide_eq_true b,if_true,h _ j,Option.bind_some,if_pos b]
    exact⟨_,rfl,rfl,by simp;omega⟩
   ·simp only[decide_eq_false b,Bool.false_eq_true,if_false,Option.bind_some,if_neg b]
    exact⟨_,rfl,(List.append_nil _).symm,by omega⟩)
 simp only[Zg]at p;rw[p,B,List.take_length];rfl}
theorem zoG{w v:za}(a:w.since=v.since)(b:w.needs=v.needs)(steps:List zt)(m:Int):zaQ w steps m=zaQ v steps m:=by{unfold zaQ;rw[a,b]}
def ablB(p:ze)(needs:List zm):Bool:=(jB p needs).getD false
theorem zlG(s:List zm)(a:zm→Bool):∃b,ZP s (fun c=>some (a c))=some b:=by{unfold ZP QO;rw[zch];cases s.findIdx? a <;> exact⟨_,rfl⟩}
theorem zns(a:ze)(needs:List zm):jB a needs=some (ablB a needs):=by{
 suffices h:∃c,jB a needs=some c by
  obtain⟨c,m⟩:=h
  unfold ablB
  rw[m]
  rfl
 unfold jB zbd
 obtain⟨n,b,o⟩:=zdF (R:=Bool) (body:=fun i (_:Unit)=>Option.bind (idx needs (i:Int)) fun e=>Option.bind (ZP a.skills (fun f=>some ((qi f.name e.name)&&(decide (e.rank≤f.rank))))) fun j=>if (!j)=true then some (.rt false) else some (.nx ()))
  needs.length (fun _ _=>True) (fun _=>True) (s:=()) trivial
  (by
   rintro d _ k _
   have b:needs[d]?=some needs[d]:=List.getElem?_eq_getElem k
   generalize needs[d]=y at b
   obtain⟨c,l⟩:=zlG a.skills (fun g=>(qi g.name y.name)&&(decide (y.rank≤g.rank)))
   simp only[Zg,b,Option.bind_some,l]
   cases c with
   | true=>exact⟨.nx (),rfl,trivial⟩
   | false=>exact⟨.rt false,rfl,trivial⟩)
  (fun _ _=>trivial)
 rw[b];cases n with
 | fin s=>exact⟨true,rfl⟩
 | rt r=>exact⟨r,rfl⟩}
end Go.Proofs.YtdpmeckhhcjoiaaGreatDoor.M
namespace Go.Proofs.YtdpmeckhhcjoiaaGreatDoor.M
open Go Go.Pu
set_option linter.unusedSimpArgs false
set_option linter.unusedVariables false
theorem zlH{h:Type}{b:Nat→h→Option (Ctl h Int)}{n:Nat}{s:h}{f:h→Option Int}{Q:Prop}(g:Nat→h→Prop)(k:g 0 s)(l:∀e s,e<n→g e s→(∃a,b e s=some (.rt a)∧a≠0)∨∃c,b e s=some (.nx c)∧g (e+1) c)(m:∀c,g n c→∃a,f c=some a∧(a=0→Q)):
  ∃a,Option.bind (zS b n 0 s) (fun i=>i.andThen (fun r=>some r) f)=some a∧(a=0→Q):=by{
 obtain⟨i,j,q⟩:=zdF (body:=b) n g (fun i=>(∃a,i=.rt a∧a≠0)∨∃c,i=.fin c∧g n c) k (fun e s o p=>by
  rcases l e s o p with ⟨a,j,d⟩|⟨c,j,d⟩
  exact⟨_,j,.inl ⟨a,rfl,d⟩⟩
  exact⟨_,j,d⟩) (fun s d=>.inr ⟨s,rfl,d⟩)
 rw[j];rcases q with ⟨a,rfl,d⟩|⟨c,rfl,d⟩;exact⟨a,rfl,fun k=>absurd k d⟩;exact m c d}
theorem zsp(c:zi):∃a,ZY c=some a∧(a=0→zbB c):=by{obtain⟨a,b,_,d⟩:=zqo c;exact⟨a,b,d⟩}
theorem zpU{α:Type}{l:List α}{k:Nat}(d:k<l.length)(e:l.length≤1000)(f:α→Bool):(if (decide ((0:Int)<(k:Int)))=true then (Option.bind (idx l (w64 ((k:Int)-1))) fun b=>some (f b)) else (some false))=some (match l[k-1]? with
  | some b=>decide (0<k)&&f b
  | none=>false):=by{
 rw[List.getElem?_eq_getElem (by omega)];dsimp only;by_cases a:0<k;have c:w64 ((k:Int)-1)=((k-1:Nat):Int):=by rw[ZB (by omega) (by omega)];omega
 rw[if_pos (by simpa using a),c,zdx _ _ (by omega),Option.bind_some,decide_eq_true a,Bool.true_and];rw[if_neg (by simpa using a),decide_eq_false a,Bool.false_and]}
theorem zqG(l:List ze)(w:∀a∈l,∀c∈a.skills,c.name.size≤9223372036854775807):∃e,jG l=some e∧(e=0→zay l∧∀a∈l,SkOK a.skills):=by{
 unfold jG;by_cases s:(40:Int)<(l.length:Int);rw[if_pos (by simpa using s)];exact⟨4,rfl,fun d=>absurd d (by decide)⟩;rw[if_neg (by simpa using s)];refine zlH (fun c _=>∀(b:Nat) (a:ze),b<c→l[b]?=some a→((1≤a.no∧a.no≤40)∧(0≤a.capacity∧a.capacity≤100)∧(0≤a.calendar∧a.calendar≤19)∧∀(f:Nat) (g:ze),f<b→l[f]?=some g→g.no<a.no)∧SkOK a.skills) (fun b a d=>absurd d (Nat.not_lt_zero b)) ?_ ?_
 ·rintro c _ k h
  have m:l[c]?=some l[c]:=List.getElem?_eq_getElem k
  have r:=w _ (List.getElem_mem k)
  have t:=zpU k (by omega) (fun v:ze=>decide ((l[c]).no≤v.no))
  generalize l[c]=a at m r t
  have i:l[c-1]?=some l[c-1]:=List.getElem?_eq_getElem (by omega)
  rw[Zg,m,Option.bind_some,t,i]
  generalize l[c-1]=g at i
  dsimp only
  by_cases x:1≤a.no∧a.no≤40
  rotate_left
  ·rw[if_pos (by simp[zw];omega)]
   exact .inl ⟨2,rfl,by decide⟩
  rw[if_neg (by simp[zw];omega),Option.bind_some]
  by_cases n:(decide (0<c)&&decide (a.no≤g.no))=true
  ·rw[if_pos n]
   exact .inl ⟨5,rfl,by decide⟩
  rw[if_neg n]
  by_cases u:(0≤a.capacity∧a.capacity≤100)∧(0≤a.calendar∧a.calendar≤19)
  rotate_left
  ·rw[if_pos (by simp[zw];omega)]
   exact .inl ⟨2,rfl,by decide⟩
  rw[if_neg (by simp[zw];omega)]
  obtain⟨e,y,z⟩:=zkO a.skills r
  rw[y,Option.bind_some]
  by_cases j:e=0
  rotate_left
  ·rw[if_pos (by simpa using j)]
   exact .inl ⟨e,rfl,j⟩
  rw[if_neg (by simpa using j)]
  refine .inr ⟨(),rfl,fun b E o p=>?_⟩
  rcases Nat.lt_or_eq_of_le (Nat.le_of_lt_succ o)with A|rfl
  ·exact h b E A p
  ·rw[m]at p
   cases p
   refine⟨⟨x,u.1,u.2,fun f F G q=>?_⟩,z.1 j⟩
   simp only[Bool.and_eq_true,decide_eq_true_eq]at n
   rcases Nat.lt_or_eq_of_le (show f≤b-1 by omega)with B|rfl
   ·have:=(h (b-1) g (by omega) i).1.2.2.2 f F B q
    omega
   ·rw[i]at q
    cases q
    omega
 rintro _ h;have at_:∀(b:Nat) (a:ze),l[b]?=some a→_:=fun b a d=>h b a (List.getElem?_eq_some_iff.1 d).1 d;refine⟨0,rfl,fun _=>⟨⟨by omega,fun b a d=>(at_ b a d).1⟩,fun a D=>?_⟩⟩;obtain⟨b,o⟩:=List.mem_iff_getElem?.1 D;exact (at_ b a o).2}
theorem zsi(people:List ze)(cals:List zi)(s:∀c∈people,∀a∈c.skills,a.name.size≤9223372036854775807):∃j,jN people cals=some j∧(j=0→zgN people cals∧jG people=some 0∧∀c∈people,SkOK c.skills):=by{
 unfold jN;obtain⟨i,t,k⟩:=zqG people s;rw[t,Option.bind_some];by_cases e:i=0;rotate_left;rw[if_pos (by simpa using e)];exact⟨i,rfl,fun b=>absurd b e⟩;subst e;rw[if_neg (by simp)];by_cases r:(20:Int)<(cals.length:Int);rw[if_pos (by simpa using r)];exact⟨4,rfl,fun b=>absurd b (by decide)⟩;rw[if_neg (by simpa using r)];refine zlH (fun a _=>∀(d:Nat) (h:zi),d<a→cals[d]?=some h→zbB h∧ZY h=some 0) (fun d c b=>absurd b (Nat.not_lt_zero d)) ?_ ?_
 ·rintro a _ l m
  have f:cals[a]?=some cals[a]:=List.getElem?_eq_getElem l
  generalize cals[a]=h at f
  obtain⟨j,i,u⟩:=zsp h
  rw[Zg,f,Option.bind_some,i,Option.bind_some]
  by_cases e:j=0
  rotate_left
  ·rw[if_pos (by simpa using e)]
   exact .inl ⟨j,rfl,e⟩
  rw[if_neg (by simpa using e)]
  refine .inr ⟨(),rfl,fun d q n g=>?_⟩
  rcases Nat.lt_or_eq_of_le (Nat.le_of_lt_succ n)with o|rfl
  ·exact m d q o g
  ·rw[f]at g
   cases g
   exact⟨u e,by rw[i,e]⟩
 rintro _ m;refine zlH (fun a _=>∀(d:Nat) (c:ze),d<a→people[d]?=some c→c.calendar<(cals.length:Int)) (fun d c b=>absurd b (Nat.not_lt_zero d)) ?_ ?_;rintro a _ l p;have f:people[a]?=some people[a]:=List.getElem?_eq_getElem l;generalize people[a]=c at f;rw[Zg,f,Option.bind_some];by_cases e:(cals.length:Int)≤c.calendar;rw[if_pos (by simpa using e)];exact .inl ⟨7,rfl,by decide⟩;rw[if_neg (by simpa using e)];refine .inr ⟨(),rfl,fun d q n g=>?_⟩;rcases Nat.lt_or_eq_of_le (Nat.le_of_lt_succ n)with o|rfl
 exact p d q o g;rw[f]at g;cases g;omega;rintro _ p;exact⟨0,rfl,fun _=>⟨⟨(k rfl).1,by omega,fun a h b=>m a h (List.getElem?_eq_some_iff.1 b).1 b,fun a c b=>⟨((k rfl).1.2 a c b).2.2.1.1,p a c (List.getElem?_eq_some_iff.1 b).1 b⟩⟩,rfl,(k rfl).2⟩⟩}
theorem zkb{people:List ze}{cals:List zi}(c:zgN people cals){k:Nat}{b:ze}(h:people[k]?=some b):∃a,idx cals b.calendar=some a∧cals[b.calendar.toNat]?=some a∧zbB a∧ZY a=some 0:=by{obtain⟨e,f⟩:=c.has k b h;obtain⟨a,g,d⟩:=ziq e f;exact⟨a,g,d,c.each _ a d⟩}
end Go.Proofs.YtdpmeckhhcjoiaaGreatDoor.M
namespace Go.Proofs.YtdpmeckhhcjoiaaGreatDoor.M
open Go Go.Pu
set_option linter.unusedSimpArgs false
set_option linter.unusedVariables false
def pos(people:List ze)(no:Int):Int:=match people.findIdx? (fun p=>p.no==no)with|some i=>(i:Int)|none => -1
theorem zmu(people:List ze)(no:Int):ZC people (fun b=>some (b.no==no))=some (pos people no):=by{unfold ZC;rw[zch people (fun a=>a.no==no)];unfold pos;cases people.findIdx? (fun a=>a.no==no) <;> rfl}
theorem zfg(people:List ze)(no:Int):JI people no=some (pos people no):=by{unfold JI zcl;rw[zmu];rfl}
theorem zlq{people:List ze}{no:Int}(b:0≤pos people no):∃(i:Nat) (a:ze),pos people no=(i:Int)∧people[i]?=some a∧a.no=no:=by{
 unfold pos at b⊢;cases hf:people.findIdx? (fun a=>a.no==no) with
 | none=>rw[hf]at b;simp at b
 | some i =>
  obtain⟨c,d,_⟩:=List.findIdx?_eq_some_iff_getElem.1 hf
  exact⟨i,people[i],rfl,List.getElem?_eq_getElem c,by simpa using d⟩}
theorem zgI{people:List ze}(d:zay people){i j:Nat}{b c:ze}(e:people[i]?=some b)(f:people[j]?=some c)(g:b.no=c.no):i=j:=by{rcases Nat.lt_trichotomy i j with a|a|a;have:=(d.2 j c f).2.2.2 i b a e;omega;exact a;have:=(d.2 i b e).2.2.2 j c a f;omega}
end Go.Proofs.YtdpmeckhhcjoiaaGreatDoor.M
namespace Go.Proofs.YtdpmeckhhcjoiaaGreatDoor.M
end Go.Proofs.YtdpmeckhhcjoiaaGreatDoor.M
namespace Go.Proofs.YtdpmeckhhcjoiaaGreatDoor.M
open Go Go.Pu
set_option linter.unusedSimpArgs false
set_option linter.unusedVariables false
def zhX(l:List za)(k:Nat):Prop:=∀(j:Nat) (w:za),j<k→l[j]?=some w→(1≤w.ticket∧w.ticket≤400)∧((1≤w.weight∧w.weight≤20)∧(0≤w.urgency∧w.urgency≤9)∧(0≤w.since∧w.since≤3000000)∧(0≤w.former∧w.former≤40)∧w.needs.length≤12)∧∀(i:Nat) (q:za),i<j→l[i]?=some q→q.ticket≠w.ticket
def zdX(l:List za):Prop:=l.length≤200∧zhX l l.length
theorem zoo(l:List za):zhX l 0:=fun a b c=>by omega
theorem zoA{l:List za}{k:Nat}{w:za}(j:zhX l k)(e:l[k]?=some w)(f:∀(i:Nat) (d:za),i<k→l[i]?=some d→d.ticket≠w.ticket)(g:1≤w.ticket∧w.ticket≤400)(h:(1≤w.weight∧w.weight≤20)∧(0≤w.urgency∧w.urgency≤9)∧(0≤w.since∧w.since≤3000000)∧(0≤w.former∧w.former≤40)∧w.needs.length≤12):zhX l (k+1):=by{
 intro b m n a;rcases Nat.lt_or_ge b k with c|c;exact j b m c a;obtain rfl:b=k:=by omega
 rw[e]at a;cases a;exact⟨g,h,f⟩}
theorem zpt{l:List zm}(a:Qq l=some 0):l.length≤12:=by{unfold Qq at a;by_cases b:(12:Int)<(l.length:Int);simp[b]at a;omega}
theorem zsf(l:List za)(D:∀a∈l,∀c∈a.needs,c.name.size≤9223372036854775807):∃d,zaJ l=some d∧zbq l=some d∧(d=0→zdX l):=by{
 unfold zaJ zbq;by_cases n:(200:Int)<(l.length:Int);simp only[decide_eq_true n,if_true];exact⟨4,rfl,rfl,fun n=>by cases n⟩;simp only[decide_eq_false n,Bool.false_eq_true,if_false]
 rcases zcE (R:=Int) (b:=fun i (_:Unit)=>Option.bind (idx l (i:Int)) fun b=>if (!(zw b.ticket 1 400))=true then some (.rt 2) else Option.bind (zcH l none (some (i:Int))) fun u=>Option.bind (Zc u (fun v=>JN v b)) fun w=>if w=true then some (.rt 6) else if ((((!(zw b.weight 1 20))||(!(zw b.urgency 0 9)))||(!(zw b.since 0 3000000)))||(!(zw b.former 0 40)))=true then some (.rt 2) else Option.bind (Qq b.needs) fun q=>if (q != 0)=true then some (.rt q) else some (.nx ()))
  (b':=fun i (_:Unit)=>Option.bind (idx l (i:Int)) fun b=>if ((decide (b.ticket<1))||(decide ((400:Int)<b.ticket)))=true then some (.rt 2) else Option.bind (zcH l none (some (i:Int))) fun x=>Option.bind (Zc x (fun y=>JD y b)) fun z=>if z=true then some (.rt 6) else if (((((((decide (b.weight<1))||(decide ((20:Int)<b.weight)))||(decide (b.urgency<0)))||(decide ((9:Int)<b.urgency)))||(!(Zx b.since)))||(decide (b.former<0)))||(decide ((40:Int)<b.former)))=true then some (.rt 2) else Option.bind (jn b.needs) fun r=>if (r != 0)=true then some (.rt r) else some (.nx ())) l.length (fun d=>d≠0) (fun c _ _=>zhX l c) (s:=()) (s':=()) (zoo l)
  (by
   rintro c _ _ t E
   have p:l[c]?=some l[c]:=List.getElem?_eq_getElem t
   have s:=D _ (List.getElem_mem t)
   generalize l[c]=a at p s
   have F:(!(zw a.ticket 1 400))=((decide (a.ticket<1))||(decide ((400:Int)<a.ticket))):=by
    rw[Bool.eq_iff_iff]
    simp only[zw,Bool.not_eq_true',Bool.and_eq_false_iff,decide_eq_false_iff_not,Bool.or_eq_true,decide_eq_true_eq]
    omega
   have A:((((!(zw a.weight 1 20))||(!(zw a.urgency 0 9)))||(!(zw a.since 0 3000000)))||(!(zw a.former 0 40)))=(((((((decide (a.weight<1))||(decide ((20:Int)<a.weight)))||(decide (a.urgency<0)))||(decide ((9:Int)<a.urgency)))||(!(Zx a.since)))||(decide (a.former<0)))||(decide ((40:Int)<a.former))):=by
    rw[Bool.eq_iff_iff]
    simp only[zw,Zx,Bool.not_eq_true',Bool.and_eq_false_iff,decide_eq_false_iff_not,Bool.or_eq_true,decide_eq_true_eq]
    omega
   have B:zcH l none (some (c:Int))=some (l.take c):=by
    unfold zcH zif
    simp
    omega
   have G:Zc (l.take c) (fun f=>some (f.ticket==a.ticket))=some ((l.take c).any fun f=>f.ticket==a.ticket):=by
    unfold Zc ZR
    rw[zch]
    simp only[Option.bind_some]
    rw[← zov]
    cases (l.take c).findIdx? fun f=>f.ticket==a.ticket <;> rfl
   simp only[Zg,p,Option.bind_some,F,A,B,JN,JD,G]
   have o:(l.take c).any (fun f=>f.ticket==a.ticket)=false→¬(((decide (a.ticket<1))||(decide ((400:Int)<a.ticket)))=true)→¬((((((((decide (a.weight<1))||(decide ((20:Int)<a.weight)))||(decide (a.urgency<0)))||(decide ((9:Int)<a.urgency)))||(!(Zx a.since)))||(decide (a.former<0)))||(decide ((40:Int)<a.former)))=true)→a.needs.length≤12→zhX l (c+1):=by
    intro e g j M
    refine zoA E p ?_ (by simp only[Bool.or_eq_true,decide_eq_true_eq]at g;omega) (by simp only[Zx,Bool.not_eq_true',Bool.and_eq_false_iff,decide_eq_false_iff_not,Bool.or_eq_true,decide_eq_true_eq]at j;omega)
    intro N J H I K
    rw[List.any_eq_false]at e
    exact e J (List.mem_of_getElem? (by rw[List.getElem?_take,if_pos H];exact I)) (by simpa using K)
   revert o
   generalize (l.take c).any (fun f=>f.ticket==a.ticket)=L
   intro o
   by_cases k:((decide (a.ticket<1))||(decide ((400:Int)<a.ticket)))=true
   ·rw[if_pos k,if_pos k]
    exact .inl ⟨2,rfl,rfl,by decide⟩
   rw[if_neg k,if_neg k]
   cases L with
   | true=>exact .inl ⟨6,rfl,rfl,by decide⟩
   | false =>
    simp only[Bool.false_eq_true,if_false]
    by_cases m:(((((((decide (a.weight<1))||(decide ((20:Int)<a.weight)))||(decide (a.urgency<0)))||(decide ((9:Int)<a.urgency)))||(!(Zx a.since)))||(decide (a.former<0)))||(decide ((40:Int)<a.former)))=true
    ·rw[if_pos m,if_pos m]
     exact .inl ⟨2,rfl,rfl,by decide⟩
    rw[if_neg m,if_neg m]
    obtain⟨d,e,g⟩:=zlY a.needs s
    simp only[e,g,Option.bind_some]
    by_cases h:(d != 0)=true
    ·rw[if_pos h]
     exact .inl ⟨d,rfl,rfl,by simpa using h⟩
    ·rw[if_neg h]
     exact .inr ⟨(),(),rfl,rfl,o rfl k m (zpt (by rw[e,show d=0 by simpa using h]))⟩)with ⟨d,e,g,j⟩|⟨_,_,e,g,j⟩
 rw[e,g];exact⟨d,rfl,rfl,fun h=>absurd h j⟩;rw[e,g];exact⟨0,rfl,rfl,fun _=>⟨by omega,j⟩⟩}
end Go.Proofs.YtdpmeckhhcjoiaaGreatDoor.M
namespace Go.Proofs.YtdpmeckhhcjoiaaGreatDoor.M
open Go Go.Pu
set_option linter.unusedSimpArgs false
set_option linter.unusedVariables false
def cmpI(x y:Int):Int:=if x<y then -1 else if y<x then 1 else 0
theorem zgm(x y:Int):zh x y=cmpI x y:=zbR x y
def zbX:List Int→Int
 | []=>0
 | x::l=>if x≠0 then x else zbX l
theorem znY(l:List Int):JA l=some (zbX l):=by{
 unfold JA
 have e:∀(a:List Int) (c:Nat),forL (R:=Int) (fun _ b (_:Unit)=>if (b != 0)=true then some (.rt b) else some (.nx ())) a c ()=some (if zbX a=0 then .fin () else .rt (zbX a)):=by
  intro a
  induction a with
  | nil=>intro c;rfl
  | cons b a ih =>
   intro c
   rw[forL,zbX]
   by_cases d:b=0
   subst d
   have g:zbX a=(if (0:Int)≠0 then 0 else zbX a):=rfl
   rw[← g,if_neg (show ¬(((0:Int) != 0)=true) by decide)]
   exact ih (c+1)
   simp[d]
 rw[zdC l (fun _ b (_:Unit)=>if (b != 0)=true then some (.rt b) else some (.nx ())) _ (fun c _ b f=>by simp[Zg,f]) (),e];by_cases d:zbX l=0;simp[d,Lp.andThen];simp[d,Lp.andThen]}
end Go.Proofs.YtdpmeckhhcjoiaaGreatDoor.M
namespace Go.Proofs.YtdpmeckhhcjoiaaGreatDoor.M
open Go Go.Pu
set_option linter.unusedSimpArgs false
set_option linter.unusedVariables false
def zby(n:Nat):List Int:=(List.range n).map fun i:Nat=>(i:Int)
theorem zml(n j:Nat):(zby n)[j]?=if j<n then some (j:Int) else none:=by{unfold zby;rw[List.getElem?_map];by_cases a:j<n;rw[if_pos a,List.getElem?_range a];rfl;rw[if_neg a,List.getElem?_eq_none (by simpa using a)];rfl}
theorem zmk{n:Nat}{x:Int}(a:x∈zby n):∃j:Nat,j<n∧x=(j:Int):=by{unfold zby at a;obtain⟨j,b,rfl⟩:=List.mem_map.1 a;exact⟨j,List.mem_range.1 b,rfl⟩}
theorem zpw(n:Nat):zby (n+1)=zby n++[(n:Int)]:=by{unfold zby;rw[List.range_succ,List.map_append];rfl}
theorem zjP(n:Nat):(zby n).length=n:=by simp[zby]
def zfF(p q:za):Prop:=q.urgency<p.urgency∨p.urgency=q.urgency∧(p.since<q.since∨p.since=q.since∧p.ticket<q.ticket)
theorem zmh(l:List za)(i j:Nat)(a b:za)(d:l[i]?=some a)(e:l[j]?=some b):∃c,Jv (i:Int) (j:Int) l=some c∧(c<0↔zfF a b):=by{
 unfold Jv;rw[Zg,d,Option.bind_some,Zg,e,Option.bind_some,znY];refine⟨_,rfl,?_⟩;rw[zbR,zbR,zbR];simp only[zbX,cmpI,zfF];repeat' split
 all_goals omega}
theorem zrc(l:List za)(t:zdX l):zie (fun f i=>Jv f i l) (zby l.length):=by{
 have at_:∀f∈zby l.length,∃(a:Nat) (B:za),f=(a:Int)∧l[a]?=some B:=fun f h=>by
  obtain⟨a,q,rfl⟩:=zmk h
  exact⟨a,_,rfl,List.getElem?_eq_getElem q⟩
 have j:∀(b a:Nat) (c e:za),l[b]?=some c→l[a]?=some e→(QE (fun f i=>Jv f i l) (b:Int) (a:Int)=true↔zfF c e):=fun b a c e d g=>by
  obtain⟨w,r,x⟩:=zmh l b a c e d g
  unfold QE
  simp only[r]
  rw[decide_eq_true_eq]
  exact x
 refine⟨by rw[zjP];have:=t.1;omega,?_,?_,?_,?_,?_⟩;intro f h i k;obtain⟨b,c,rfl,d⟩:=at_ f h;obtain⟨a,e,rfl,g⟩:=at_ i k;obtain⟨w,r,_⟩:=zmh l b a c e d g;exact⟨w,r⟩;intro f h;obtain⟨b,c,rfl,d⟩:=at_ f h;rw[← Bool.not_eq_true,j b b c c d d];unfold zfF;omega;intro f h i k u s;obtain⟨b,c,rfl,d⟩:=at_ f h;obtain⟨a,e,rfl,g⟩:=at_ i k;obtain⟨o,p,rfl,m⟩:=at_ u s;rw[j b a c e d g,j a o e p g m,j b o c p d m];unfold zfF;omega;intro f h i k u s;obtain⟨b,c,rfl,d⟩:=at_ f h;obtain⟨a,e,rfl,g⟩:=at_ i k;obtain⟨o,p,rfl,m⟩:=at_ u s;rw[← Bool.not_eq_true, ← Bool.not_eq_true, ← Bool.not_eq_true,j b a c e d g,j a o e p g m,j b o c p d m];unfold zfF;omega;intro f h i k;obtain⟨b,c,rfl,d⟩:=at_ f h;obtain⟨a,e,rfl,g⟩:=at_ i k;rw[← Bool.not_eq_true, ← Bool.not_eq_true,j b a c e d g,j a b e c g d];intro y z;have v:c.ticket=e.ticket:=by unfold zfF at y z;omega
 have A:=(List.getElem?_eq_some_iff.1 d).1;have q:=(List.getElem?_eq_some_iff.1 g).1;rcases Nat.lt_trichotomy b a with n|n|n;exact absurd v ((t.2 a e q g).2.2 b c n d);rw[n];exact absurd v.symm ((t.2 b c A d).2.2 a e n g)}
noncomputable def ji(l:List za):List Int:=(zby l.length).mergeSort fun x y=>!(QE (fun x y=>Jv x y l) y x)
theorem znA(l:List za)(a:zdX l):jQ (fun b c=>Jv b c l) (zby l.length)=some (ji l):=by{unfold jQ;rw[if_pos (zrc l a)];rfl}
theorem zhg(l:List za)(b:zdX l):zeu l=some (ji l):=by{
 unfold zeu
 obtain⟨k,h,i⟩:=ZU (R:=List Int) (b:=fun d e=>Option.bind (zC 17592186044416 e ([(d:Int)]:List Int)) fun f=>some (.nx f)) l.length (fun a c=>c=zby a) (s := []) rfl fun a c j g=>by
  subst g
  unfold zC
  rw[if_pos (by rw[zjP];have:=b.1;simp;omega)]
  exact⟨_,rfl,(zpw a).symm⟩
 rw[h,i,Option.bind_some,Lp.andThen_fin,znA l b];rfl}
theorem zmK(l:List za)(i:zdX l):zcf l=some (ji l):=by{
 unfold zcf;unfold JS;have w:=i.1;rw[if_pos (by constructor <;> omega),Option.bind_some]
 have m:(List.replicate (l.length:Int).toNat (0:Int)).length=l.length:=by simp
 obtain⟨r,p,x,q⟩:=ZU (R:=List Int) (b:=fun e f=>Option.bind (idx f (e:Int)) fun v=>Option.bind (setI f (e:Int) (e:Int)) fun j=>some (.nx j)) l.length (fun c d=>d.length=l.length∧∀a,a<c→d[a]?=some (a:Int)) (s:=List.replicate (l.length:Int).toNat (0:Int)) ⟨m,fun a b=>by omega⟩ fun c d n o=>by
  obtain⟨g,k⟩:=o
  rw[zdx d c (by omega),Option.bind_some]
  unfold setI
  rw[if_pos ⟨by omega,by omega⟩]
  refine⟨_,rfl,by simpa using g,fun a b=>?_⟩
  rw[List.getElem?_set]
  by_cases h:c=a
  subst h
  simp[g,n]
  rw[if_neg (by simpa using h)]
  exact k a (by omega)
 have s:r=zby l.length:=by
  apply List.ext_getElem?
  intro a
  rw[zml]
  by_cases b:a<l.length
  rw[if_pos b,q a b]
  rw[if_neg b,List.getElem?_eq_none (by omega)]
 rw[p,s,Option.bind_some,Lp.andThen_fin];show Option.bind (jQ (fun t u=>Jv t u l) (zby l.length)) _=_;rw[znA l i];rfl}
end Go.Proofs.YtdpmeckhhcjoiaaGreatDoor.M
namespace Go.Proofs.YtdpmeckhhcjoiaaGreatDoor.M
open Go Go.Pu
set_option linter.unusedSimpArgs false
set_option linter.unusedVariables false
theorem zrB(l:List zt):∃d,jT l=some d∧zaY l=some d∧(d=0→l.length≤8):=by{
 unfold jT zaY;by_cases e:(8:Int)<(l.length:Int);simp only[decide_eq_true e,if_true];exact⟨4,rfl,rfl,fun e=>absurd e (by decide)⟩;simp only[decide_eq_false e,Bool.false_eq_true,if_false]
 rcases zcE (R:=Int) (b:=fun c (_:Unit)=>Option.bind (idx l (c:Int)) fun a=>if ((!(zw a.after 1 3000000))||(!(zw a.lower 0 9)))=true then some (.rt 2) else Option.bind (if (decide ((0:Int)<(c:Int)))=true then (Option.bind (idx l (w64 ((c:Int)-1))) fun f=>some (decide (a.after≤f.after))) else (some false)) fun k=>if k=true then some (.rt 5) else some (.nx ()))
  (b':=fun c (_:Unit)=>Option.bind (idx l (c:Int)) fun a=>if ((((decide (a.after<1))||(decide ((3000000:Int)<a.after)))||(decide (a.lower<0)))||(decide ((9:Int)<a.lower)))=true then some (.rt 2) else Option.bind (if (decide ((0:Int)<(c:Int)))=true then (Option.bind (idx l (w64 ((c:Int)-1))) fun m=>some (decide (a.after≤m.after))) else (some false)) fun n=>if n=true then some (.rt 5) else some (.nx ())) l.length (fun d=>d≠0) (fun _ _ _=>True) (s:=()) (s':=()) trivial
  (by
   rintro b _ _ o _
   have i:l[b]?=some l[b]:=List.getElem?_eq_getElem o
   generalize l[b]=x at i
   have g:((!(zw x.after 1 3000000))||(!(zw x.lower 0 9)))=((((decide (x.after<1))||(decide ((3000000:Int)<x.after)))||(decide (x.lower<0)))||(decide ((9:Int)<x.lower))):=by
    rw[Bool.eq_iff_iff]
    simp only[zw,Bool.not_eq_true',Bool.and_eq_false_iff,decide_eq_false_iff_not,Bool.or_eq_true,decide_eq_true_eq]
    omega
   simp only[Zg,i,Option.bind_some,g]
   generalize ((((decide (x.after<1))||(decide ((3000000:Int)<x.after)))||(decide (x.lower<0)))||(decide ((9:Int)<x.lower)))=p
   cases p with
   | true=>exact .inl ⟨2,rfl,rfl,by decide⟩
   | false =>
    simp only[Bool.false_eq_true,if_false]
    obtain⟨h,q⟩:∃h:Bool,(if (decide ((0:Int)<(b:Int)))=true then (Option.bind (idx l (w64 ((b:Int)-1))) fun f=>some (decide (x.after≤f.after))) else (some false))=some h:=by
     by_cases j:(0:Int)<(b:Int)
     ·have r:w64 ((b:Int)-1)=((b-1:Nat):Int):=by rw[ZB (by omega) (by omega)];omega
      rw[if_pos (by simpa using j),r,zdx _ _ (by omega)]
      exact⟨_,rfl⟩
     ·rw[if_neg (by simpa using j)]
      exact⟨_,rfl⟩
    rw[q]
    cases h with
    | true=>exact .inl ⟨5,rfl,rfl,by decide⟩
    | false=>exact .inr ⟨(),(),rfl,rfl,trivial⟩)with ⟨d,h1,h2,g⟩|⟨_,_,h1,h2,_⟩
 rw[h1,h2];exact⟨d,rfl,rfl,fun e=>absurd e g⟩;rw[h1,h2];exact⟨0,rfl,rfl,fun _=>by omega⟩}
end Go.Proofs.YtdpmeckhhcjoiaaGreatDoor.M
namespace Go.Proofs.YtdpmeckhhcjoiaaGreatDoor.M
open Go Go.Pu
set_option linter.unusedSimpArgs false
set_option linter.unusedVariables false
theorem zbl{κ α:Type}[DecidableEq κ](l:List (κ×α))(k f:κ)(v:α):zu (QH l k v) f=if k=f then some v else zu l f:=by{
 unfold QH;by_cases i:∃p∈l,p.1=k;rw[if_pos i];induction l with
 | nil=>obtain⟨p,c,_⟩:=i;simp at c
 | cons p l ih =>
  rw[List.map_cons,zu,zu]
  by_cases c:p.1=k
  rw[if_pos c]
  by_cases g:k=f
  rw[if_pos g,if_pos g]
  rw[if_neg g,if_neg g,if_neg (by rw[c];exact g)]
  by_cases h:∃p∈l,p.1=k
  rw[ih h,if_neg g]
  have:l.map (fun d=>if d.1=k then (k,v) else d)=l:=by
   conv=>rhs;rw[← List.map_id l]
   apply List.map_congr_left
   intro d e
   rw[if_neg (fun a=>h ⟨d,e,a⟩)]
   rfl
  rw[this]
  rw[if_neg c]
  have h:∃p∈l,p.1=k:=by
   obtain⟨d,e,a⟩:=i
   rcases List.mem_cons.1 e with rfl|e
   exact absurd a c
   exact⟨d,e,a⟩
  by_cases b:p.1=f
  rw[if_pos b,if_pos b,if_neg (fun a=>c (b.trans a.symm))]
  rw[if_neg b,if_neg b,ih h]
 rw[if_neg i];induction l with
 | nil=>simp[zu]
 | cons p l ih =>
  have c:p.1≠k:=fun a=>i ⟨p,by simp,a⟩
  have h:¬∃p∈l,p.1=k:=fun⟨d,e,a⟩=>i ⟨d,by simp[e],a⟩
  rw[List.cons_append,zu,zu,ih h]
  by_cases b:p.1=f
  rw[if_pos b,if_pos b,if_neg (fun a=>c (b.trans a.symm))]
  rw[if_neg b,if_neg b]}
end Go.Proofs.YtdpmeckhhcjoiaaGreatDoor.M
