import Derived.Test.YtcnidlpginehjaaGreatLevelHistoryM
import Derived.Test.YtcnidlpginehjaaGreatPu
namespace Go.Proofs.YtcnidlpginehjaaGreat.M
open Go Go.Pu
set_option linter.unusedSimpArgs false
set_option linter.unusedVariables false
theorem jB{κ α:Type}[DecidableEq κ](l:List (κ×α))(k e:κ)(v:α):zy (qR l k v) e=if k=e then some v else zy l e:=by{
 unfold qR;by_cases h:∃p∈l,p.1=k;rw[if_pos h];induction l with
 | nil=>obtain⟨p,hp,_⟩:=h;simp at hp
 | cons p l ih =>
  rw[List.map_cons,zy,zy]
  by_cases hp:p.1=k
  rw[if_pos hp]
  by_cases f:k=e
  rw[if_pos f,if_pos f]
  rw[if_neg f,if_neg f,if_neg (by rw[hp];exact f)]
  by_cases g:∃p∈l,p.1=k
  rw[ih g,if_neg f]
  have:l.map (fun c=>if c.1=k then (k,v) else c)=l:=by
   conv=>rhs;rw[← List.map_id l]
   apply List.map_congr_left
   intro c d
   rw[if_neg (fun a=>g ⟨c,d,a⟩)]
   rfl
  rw[this]
  rw[if_neg hp]
  have g:∃p∈l,p.1=k:=by
   obtain⟨c,d,a⟩:=h
   rcases List.mem_cons.1 d with rfl|d
   exact absurd a hp
   exact⟨c,d,a⟩
  by_cases b:p.1=e
  rw[if_pos b,if_pos b,if_neg (fun a=>hp (b.trans a.symm))]
  rw[if_neg b,if_neg b,ih g]
 rw[if_neg h];induction l with
 | nil=>simp[zy]
 | cons p l ih =>
  have hp:p.1≠k:=fun a=>h ⟨p,by simp,a⟩
  have g:¬∃p∈l,p.1=k:=fun⟨c,d,a⟩=>h ⟨c,by simp[d],a⟩
  rw[List.cons_append,zy,zy,ih g]
  by_cases b:p.1=e
  rw[if_pos b,if_pos b,if_neg (fun a=>hp (b.trans a.symm))]
  rw[if_neg b,if_neg b]}
end Go.Proofs.YtcnidlpginehjaaGreat.M
namespace Go.Proofs.YtcnidlpginehjaaGreat.M
open Go Go.Pu
set_option linter.unusedSimpArgs false
set_option linter.unusedVariables false
theorem zjr(s:ByteArray)(k:Nat):s[k]?=s.data.toList[k]?:=by{by_cases a:k<s.size;rw[getElem?_pos s k a];have b:k<s.data.toList.length:=a;rw[List.getElem?_eq_getElem b];rfl;rw[getElem?_neg s k a,List.getElem?_eq_none (by simpa using a)]}
theorem zdh(s:ByteArray)(k:Nat):idxS s (k:Int)=s.data.toList[k]?:=by{unfold idxS;rw[if_pos (by omega),Int.toNat_natCast,zjr]}
theorem ziW(x:ByteArray):ZU x (⟨#[]⟩:ByteArray)=(x.data.toList == []):=by{unfold ZU;rw[ByteArray.toList_eq,ByteArray.toList_eq]}
def g0(b:UInt8):Bool:=(decide ((97:Int)≤(b.toNat:Int)))&&(decide ((b.toNat:Int)≤122))
def g1(b:UInt8):Bool:=g0 b||((decide ((48:Int)≤(b.toNat:Int)))&&(decide ((b.toNat:Int)≤57)))||((b.toNat:Int)==95)
def nmL:List UInt8→Bool
 | []=>false
 | b::l=>g0 b&&l.all g1
theorem g01{b:UInt8}(a:g0 b=true):g1 b=true:=by unfold g1;rw[a];rfl
theorem zdD(l:List UInt8):nmL l=true↔0<l.length∧∀a b,l[a]?=some b→(if a=0 then g0 b else g1 b)=true:=by{
 cases l with
 | nil=>simp[nmL]
 | cons c l =>
  simp only[nmL,Bool.and_eq_true,List.all_eq_true,List.length_cons]
  constructor
  rintro⟨f,g⟩
  refine⟨by omega,fun a b d=>?_⟩
  cases a with
  | zero=>simp at d;subst d;simpa using f
  | succ a =>
   simp at d
   simpa using g b (List.mem_of_getElem? d)
  rintro⟨_,e⟩
  refine⟨by simpa using e 0 c rfl,fun b h=>?_⟩
  obtain⟨a,d⟩:=List.mem_iff_getElem?.1 h
  simpa using e (a+1) b (by simpa using d)}
theorem zgQ(s:ByteArray)(B:s.size≤9223372036854775807):Jf s=some (nmL s.data.toList&&decide ((s.size:Int)≤20)):=by{
 unfold Jf;have z:s.data.toList.length=s.size:=rfl
 obtain⟨l,t,u⟩:=zdr (R:=Bool) (body:=fun (f:Int)=>if (decide (f<(s.size:Int)))=true then Option.bind (idxS s f) fun e=>if ((!((decide ((97:Int)≤(e.toNat:Int)))&&(decide ((e.toNat:Int)≤122))))&&((f==0)||((!((decide ((48:Int)≤(e.toNat:Int)))&&(decide ((e.toNat:Int)≤57))))&&((e.toNat:Int) != 95))))=true then some (.rt false) else some (.nx (w64 (f+1))) else some (.bk f))
  (fun m=>∃b:Nat,m=(b:Int)∧b≤s.size∧∀c a,c<b→s.data.toList[c]?=some a→(if c=0 then g0 a else g1 a)=true) (fun m=>s.size-m.toNat)
  (fun l=>(l=.rt false∧nmL s.data.toList=false)∨(∃r,l=.fin r∧∀c a,s.data.toList[c]?=some a→(if c=0 then g0 a else g1 a)=true)) (s:=0)
  ⟨0,rfl,Nat.zero_le _,fun c a d=>absurd d (Nat.not_lt_zero _)⟩
  (by
   rintro _⟨b,rfl,D,q⟩
   by_cases A:b<s.size
   ·have n:decide ((b:Int)<(s.size:Int))=true:=decide_eq_true (by omega)
    have h:s.data.toList[b]?=some (s.data.toList[b]'(by omega)):=List.getElem?_eq_getElem (by omega)
    generalize s.data.toList[b]'(by omega)=a at h
    have v:w64 ((b:Int)+1)=((b+1:Nat):Int):=by rw[Jy (by omega) (by omega)];omega
    simp only[n,if_true,zdh,h,Option.bind_some,v]
    have w:((!((decide ((97:Int)≤(a.toNat:Int)))&&(decide ((a.toNat:Int)≤122))))&&(((b:Int)==0)||((!((decide ((48:Int)≤(a.toNat:Int)))&&(decide ((a.toNat:Int)≤57))))&&((a.toNat:Int) != 95)))) = !(if b=0 then g0 a else g1 a):=by
     by_cases p:b=0
     ·subst p
      rw[if_pos rfl]
      show ((!g0 a)&&(true||_))=_
      simp
     ·rw[if_neg p]
      have:((b:Int)==0)=false:=by rw[beq_eq_false_iff_ne];omega
      rw[this]
      unfold g1 g0
      simp[bne,Bool.and_assoc]
    rw[w]
    by_cases g:(if b=0 then g0 a else g1 a)=true
    ·rw[g]
     refine⟨_,rfl,⟨b+1,rfl,by omega,fun c y i j=>?_⟩,by simp only[Int.toNat_natCast];omega⟩
     rcases Nat.lt_or_eq_of_le (Nat.le_of_lt_succ i)with d|rfl
     ·exact q c y d j
     ·rw[h]at j;cases j;exact g
    ·have o:=g
     rw[Bool.not_eq_true]at o
     rw[o]
     refine⟨_,rfl,.inl ⟨rfl,?_⟩⟩
     rw[← Bool.not_eq_true,zdD]
     rintro⟨_,d⟩
     exact g (d b a h)
   ·have n:decide ((b:Int)<(s.size:Int))=false:=decide_eq_false (by omega)
    simp only[n,Bool.false_eq_true,if_false]
    refine⟨_,rfl,.inr ⟨_,rfl,fun c a i=>q c a ?_ i⟩⟩
    have:=(List.getElem?_eq_some_iff.1 i).1
    omega)
 rw[t];rcases u with ⟨rfl,d⟩|⟨r,rfl,d⟩;rw[d];rfl;simp only[Option.bind_some,Lp.andThen_fin,ziW];congr 1;by_cases k:s.data.toList=[];rw[k];rfl;have:nmL s.data.toList=true:=(zdD _).2 ⟨List.length_pos_iff.2 k,d⟩;rw[this];have x:(s.data.toList == [])=false:=by simpa using k
 rw[x];rfl}
theorem zga(s:ByteArray):Qy s=some (nmL s.data.toList&&decide ((s.size:Int)≤20)):=by{
 unfold Qy;have L:s.data.toList.length=s.size:=rfl;by_cases z:(s.size:Int)<1;have o:s.data.toList=[]:=List.eq_nil_of_length_eq_zero (by omega);simp only[decide_eq_true z,Bool.true_or,if_true,Option.bind_some];rw[o];rfl;by_cases p:(20:Int)<(s.size:Int);simp only[decide_eq_true p,Bool.or_true,if_true,Option.bind_some];rw[decide_eq_false (show ¬(s.size:Int)≤20 by omega),Bool.and_false];have q:s.data.toList[0]?=some (s.data.toList[0]'(by omega)):=List.getElem?_eq_getElem (by omega);generalize s.data.toList[0]'(by omega)=b at q;have F:idxS s 0=some b:=by have:=zdh s 0;rw[q]at this;simpa using this
 simp only[decide_eq_false z,decide_eq_false p,Bool.or_false,Bool.false_eq_true,if_false,F,Option.bind_some];rw[decide_eq_true (show (s.size:Int)≤20 by omega),Bool.and_true];by_cases k:g0 b=true;rotate_left
 have l:nmL s.data.toList=false:=by
  rw[← Bool.not_eq_true,zdD]
  rintro⟨_,c⟩
  exact k (by simpa using c 0 b q)
 rw[l];unfold g0 at k;by_cases x:(b.toNat:Int)<97;simp only[decide_eq_true x,if_true,Option.bind_some]
 have D:(122:Int)<(b.toNat:Int):=by
  by_cases c:(b.toNat:Int)≤122
  exact absurd (by rw[decide_eq_true (show (97:Int)≤(b.toNat:Int) by omega),decide_eq_true c];rfl) k
  omega
 simp only[decide_eq_false x,Bool.false_eq_true,if_false,Option.bind_some,decide_eq_true D,if_true];have y:=k;unfold g0 at y;rw[Bool.and_eq_true,decide_eq_true_eq,decide_eq_true_eq]at y;simp only[decide_eq_false (show ¬(b.toNat:Int)<97 by omega),decide_eq_false (show ¬(122:Int)<(b.toNat:Int) by omega),Bool.false_eq_true,if_false,Option.bind_some]
 obtain⟨t,G,H⟩:=zdr (R:=Bool) (body:=fun (m:Int)=>if (decide (m<(s.size:Int)))=true then Option.bind (idxS s m) fun n=>Option.bind (if (decide ((97:Int)≤(n.toNat:Int)))=true then (some (decide ((n.toNat:Int)≤122))) else (some false)) fun h=>Option.bind (if h=true then (some true) else (some (QG (n.toNat:Int)))) fun i=>Option.bind (if i=true then (some true) else (some ((n.toNat:Int)==95))) fun E=>if (!E)=true then some (.rt false) else some (.nx (w64 (m+1))) else some (.bk m))
  (fun u=>∃e:Nat,u=(e:Int)∧e≤s.size∧∀d b,d<e→s.data.toList[d]?=some b→g1 b=true) (fun u=>s.size-u.toNat)
  (fun t=>(t=.rt false∧∃b∈s.data.toList,g1 b=false)∨(∃B,t=.fin B∧∀d b,s.data.toList[d]?=some b→g1 b=true)) (s:=0)
  ⟨0,rfl,Nat.zero_le _,fun d b c=>absurd c (Nat.not_lt_zero _)⟩
  (by
   rintro _⟨e,rfl,N,A⟩
   by_cases M:e<s.size
   ·have v:decide ((e:Int)<(s.size:Int))=true:=decide_eq_true (by omega)
    have g:s.data.toList[e]?=some (s.data.toList[e]'(by omega)):=List.getElem?_eq_getElem (by omega)
    generalize s.data.toList[e]'(by omega)=a at g
    have I:w64 ((e:Int)+1)=((e+1:Nat):Int):=by rw[Jy (by omega) (by omega)];omega
    have O:(Option.bind (if (decide ((97:Int)≤(a.toNat:Int)))=true then (some (decide ((a.toNat:Int)≤122))) else (some false)) fun h=>Option.bind (if h=true then (some true) else (some (QG (a.toNat:Int)))) fun i=>(if i=true then (some true) else (some ((a.toNat:Int)==95))))=some (g1 a):=by
     unfold g1 g0 QG
     cases decide ((97:Int)≤(a.toNat:Int)) <;> cases decide ((a.toNat:Int)≤122) <;> cases decide ((48:Int)≤(a.toNat:Int)) <;> cases decide ((a.toNat:Int)≤57) <;> cases ((a.toNat:Int)==95) <;> rfl
    have J:∀(w:Bool→Option (Ctl Int Bool)),(Option.bind (if (decide ((97:Int)≤(a.toNat:Int)))=true then (some (decide ((a.toNat:Int)≤122))) else (some false)) fun h=>Option.bind (if h=true then (some true) else (some (QG (a.toNat:Int)))) fun i=>Option.bind (if i=true then (some true) else (some ((a.toNat:Int)==95))) w)=w (g1 a):=by
     intro w
     unfold g1 g0 QG
     cases decide ((97:Int)≤(a.toNat:Int)) <;> cases decide ((a.toNat:Int)≤122) <;> cases decide ((48:Int)≤(a.toNat:Int)) <;> cases decide ((a.toNat:Int)≤57) <;> cases ((a.toNat:Int)==95) <;> rfl
    simp only[v,if_true,zdh,g,Option.bind_some,I]
    rw[J]
    by_cases j:g1 a=true
    ·rw[j]
     refine⟨_,rfl,⟨e+1,rfl,by omega,fun d K f r=>?_⟩,by simp only[Int.toNat_natCast];omega⟩
     rcases Nat.lt_or_eq_of_le (Nat.le_of_lt_succ f)with c|rfl
     ·exact A d K c r
     ·rw[g]at r;cases r;exact j
    ·rw[Bool.not_eq_true]at j
     rw[j]
     exact⟨_,rfl,.inl ⟨rfl,a,List.mem_of_getElem? g,j⟩⟩
   ·have v:decide ((e:Int)<(s.size:Int))=false:=decide_eq_false (by omega)
    simp only[v,Bool.false_eq_true,if_false]
    refine⟨_,rfl,.inr ⟨_,rfl,fun d b f=>A d b ?_ f⟩⟩
    have:=(List.getElem?_eq_some_iff.1 f).1
    omega)
 rw[G];rcases H with ⟨rfl,a,g,c⟩|⟨B,rfl,c⟩
 have l:nmL s.data.toList=false:=by
  rw[← Bool.not_eq_true,zdD]
  rintro⟨_,p⟩
  obtain⟨d,f⟩:=List.mem_iff_getElem?.1 g
  have:=p d a f
  split at this
  rw[g01 this]at c;cases c
  rw[this]at c;cases c
 rw[l];rfl
 have l:nmL s.data.toList=true:=(zdD _).2 ⟨by omega,fun d a f=>by
  by_cases o:d=0
  subst o
  rw[q]at f
  cases f
  simpa using k
  rw[if_neg o]
  exact c d a f⟩
 rw[l];rfl}
end Go.Proofs.YtcnidlpginehjaaGreat.M
namespace Go.Proofs.YtcnidlpginehjaaGreat.M
open Go Go.Pu
set_option linter.unusedSimpArgs false
set_option linter.unusedVariables false
theorem qV{κ α:Type}[DecidableEq κ](l:List (κ×α))(k b:κ):zy (qh l k) b=if k=b then none else zy l b:=by{
 unfold qh;induction l with
 | nil=>simp[zy]
 | cons p l ih =>
  by_cases hp:p.1=k
  rw[List.filter_cons_of_neg (by simpa using hp),ih,zy]
  by_cases a:k=b
  rw[if_pos a,if_pos a]
  rw[if_neg a,if_neg a,if_neg (fun c=>a (hp.symm.trans c))]
  rw[List.filter_cons_of_pos (by simpa using hp),zy,zy,ih]
  by_cases a:k=b
  rw[if_pos a,if_pos a,if_neg (fun c=>hp (c.trans a.symm))]
  rw[if_neg a,if_neg a]}
noncomputable def puts(m:List (Int×Int))(ks:List Int)(t:Int):List (Int×Int):=ks.foldl (fun m k=>qR m k t) m
noncomputable def dels(m:List (Int×Int))(ks:List Int):List (Int×Int):=ks.foldl (fun m k=>qh m k) m
theorem Qr(b:List Int)(t:Int)(d:List (Int×Int))(k:Int):zy (puts d b t) k=if k∈b then some t else zy d k:=by{
 induction b generalizing d with
 | nil=>rfl
 | cons a b ih =>
  show zy (puts (qR d a t) b t) k=_
  rw[ih,jB]
  by_cases e:k∈b
  rw[if_pos e,if_pos (List.mem_cons_of_mem _ e)]
  rw[if_neg e]
  by_cases c:a=k
  rw[if_pos c,if_pos (by rw[c];exact List.mem_cons_self)]
  rw[if_neg c,if_neg (fun f=>(List.mem_cons.1 f).elim (fun g=>c g.symm) e)]}
theorem zdb(b:List Int)(d:List (Int×Int))(k:Int):zy (dels d b) k=if k∈b then none else zy d k:=by{
 induction b generalizing d with
 | nil=>rfl
 | cons a b ih =>
  show zy (dels (qh d a) b) k=_
  rw[ih,qV]
  by_cases e:k∈b
  rw[if_pos e,if_pos (List.mem_cons_of_mem _ e)]
  rw[if_neg e]
  by_cases c:a=k
  rw[if_pos c,if_pos (by rw[c];exact List.mem_cons_self)]
  rw[if_neg c,if_neg (fun f=>(List.mem_cons.1 f).elim (fun g=>c g.symm) e)]}
theorem zgn(l:List Int)(v:Int):QN l v=some (match l.findIdx? (fun a=>v==a)with|some i=>(i:Int)|none => -1):=by{unfold QN;have:=zcQ (α:=Int) l (fun a=>v==a);simp only[Option.bind_some]at this;rw[this];cases l.findIdx? (fun a=>v==a) <;> rfl}
theorem zeE(l:List Int)(v:Int):qP l v=some (decide (v∈l)):=by{
 unfold qP;rw[zgn];cases h:l.findIdx? (fun f=>v==f) with
 | none =>
  have a:=List.findIdx?_eq_none_iff.1 h
  have:¬v∈l:=fun c=>by simpa using a v c
  rw[decide_eq_false this]
  rfl
 | some b =>
  obtain⟨a,d,_⟩:=List.findIdx?_eq_some_iff_getElem.1 h
  have:v∈l:=by
   have e:v=l[b]:=by simpa using d
   rw[e]
   exact List.getElem_mem a
  rw[decide_eq_true this,Option.bind_some]
  show some (decide ((0:Int)≤(b:Int)))=_
  rw[decide_eq_true (by omega)]}
theorem zcG(l:List Int)(v:Int):qv l v=some (decide (v∈l)):=by{
 unfold qv;rw[zdP l (fun a=>a==v) true];by_cases b:v∈l;have:l.any (fun a=>a==v)=true:=List.any_eq_true.2 ⟨v,b,by simp⟩;rw[this,decide_eq_true b];rfl
 have:l.any (fun a=>a==v)=false:=by
  rw[← Bool.not_eq_true,List.any_eq_true]
  rintro⟨a,c,d⟩
  exact b (by simpa [← (by simpa using d:a=v)]using c)
 rw[this,decide_eq_false b];rfl}
def Lst(l:List Int):Prop:=l.Pairwise (· < ·)∧∀m∈l,1≤m∧m≤1000
theorem zhy:∀(l:List Int) (a:Int),a≤1001→l.Pairwise (· < ·)→(∀b∈l,a≤b∧b≤1000)→(l.length:Int)≤1001-a
 | [],a,ha,_,_=>by simp;omega
 | x::l,a,ha,hp,hm=>by
  have h1:=hm x List.mem_cons_self
  have:=zhy l (x+1) (by omega) (List.pairwise_cons.1 hp).2 (fun b c=>⟨by have:=(List.pairwise_cons.1 hp).1 b c;omega,(hm b (List.mem_cons_of_mem _ c)).2⟩)
  rw[List.length_cons]
  omega
theorem Lst.len{l:List Int}(a:Lst l):l.length≤1000:=by{have:=zhy l 1 (by omega) a.1 a.2;omega}
theorem Lst.nil:Lst []:=⟨List.Pairwise.nil,fun b a=>by simp at a⟩
def srt(l:List Int):List Int:=l.mergeSort fun x y=>decide (x≤y)
theorem zaX(l:List Int):(srt l).Perm l:=List.mergeSort_perm _ _
theorem zau{l:List Int}{a:Int}:a∈srt l↔a∈l:=(zaX l).mem_iff
theorem zdE(l:List Int):(srt l).Pairwise (·≤·):=by{have a:=List.pairwise_mergeSort (le:=fun b c:Int=>decide (b≤c)) (fun d e h f g=>by simp only[decide_eq_true_eq]at *;omega) (fun d e=>by simp only[Bool.or_eq_true,decide_eq_true_eq];omega) l;exact a.imp fun a=>by simpa using a}
theorem zex{l a:List Int}(hp:l.Perm a)(b:l.Pairwise (·≤·))(c:a.Pairwise (·≤·)):l=a :=
 List.Perm.eq_of_pairwise (le:=(·≤·)) (fun f g _ _ d e=>by omega) b c hp
theorem zgc{l:List Int}(a:l.Pairwise (· < ·)):l.Pairwise (·≤·):=a.imp fun a=>by omega
theorem zbP{l:List Int}(a:l.Pairwise (· < ·)):srt l=l:=zex (zaX l) (zdE l) (zgc a)
theorem zhY{l:List Int}(b:l.Nodup)(c:∀a∈l,1≤a∧a≤1000):Lst (srt l):=by{refine⟨?_,fun a e=>c a (zau.1 e)⟩;have d:(srt l).Nodup:=(zaX l).nodup_iff.2 b;exact ((zdE l).and d).imp fun⟨f,g⟩=>by omega}
theorem Lst.nodup{l:List Int}(a:Lst l):l.Nodup:=a.1.imp fun a=>by omega
def insL(n:Int):List Int→List Int
 | []=>[n]
 | x::l=>if n<x then n::x::l else x::insL n l
theorem zeA(n:Int):∀l,(insL n l).Perm (n::l)
 | []=>List.Perm.refl _
 | x::l=>by
  rw[insL]
  split
  ·exact List.Perm.refl _
  ·exact ((zeA n l).cons x).trans (List.Perm.swap n x l)
theorem zhQ(n:Int):∀b:List Int,b.Pairwise (·≤·)→(insL n b).Pairwise (·≤·)
 | [],_=>by simp[insL]
 | x::b,h=>by
  have h1:=List.pairwise_cons.1 h
  rw[insL]
  split
  ·rename_i hx
   exact List.pairwise_cons.2 ⟨fun c a=>by
    rcases List.mem_cons.1 a with rfl|a
    ·omega
    ·have:=h1.1 c a;omega,h⟩
  ·rename_i hx
   refine List.pairwise_cons.2 ⟨fun c a=>?_,zhQ n b h1.2⟩
   rcases List.mem_cons.1 ((zeA n b).mem_iff.1 a)with rfl|a
   ·omega
   ·exact h1.1 c a
theorem zfA{l:List Int}(n:Int)(a:l.Pairwise (·≤·)):insL n l=srt (l++[n]) :=
 zex ((zeA n l).trans ((List.perm_append_singleton n l).symm.trans (zaX _).symm)) (zhQ n l a) (zdE _)
theorem zdY{l:List Int}{n:Int}(x:l.length≤100000):Qw l n=some (insL n l):=by{
 unfold Qw
 have j:∀(d r:List Int),d.length≤200000→r.length≤200000→Zc 17592186044416 d r=some (d++r):=fun d r y z=>by
  unfold Zc;rw[if_pos (by omega)]
 have w:∀(e:List Int) (f:Nat) (a:List Int),a.length+e.length≤100001→
   forL (R:=List Int) (fun _ b (c:List Int×Bool)=>Option.bind (if ((!c.2)&&(decide (n<b)))=true then Option.bind (Zc 17592186044416 c.1 ([n]:List Int)) fun k=>some (k,true) else some (c.1,c.2)) fun g=>Option.bind (Zc 17592186044416 g.1 ([b]:List Int)) fun m=>some (.nx (m,g.2))) e f (a,true)=some (.fin (a++e,true)):=by
  intro e
  induction e with
  | nil=>intro f a _;rw[forL,List.append_nil]
  | cons b e ih =>
   intro f a p
   rw[List.length_cons]at p
   have q:Zc 17592186044416 a [b]=some (a++[b]):=j _ _ (by omega) (by simp)
   simp only[forL,Bool.not_true,Bool.false_and,Bool.false_eq_true,if_false,Option.bind_some,q]
   rw[ih _ _ (by rw[List.length_append,List.length_singleton];omega),List.append_assoc]
   rfl
 have v:∀(e:List Int) (f:Nat) (a:List Int),a.length+e.length≤100000→∃d i,
   forL (R:=List Int) (fun _ b (c:List Int×Bool)=>Option.bind (if ((!c.2)&&(decide (n<b)))=true then Option.bind (Zc 17592186044416 c.1 ([n]:List Int)) fun k=>some (k,true) else some (c.1,c.2)) fun g=>Option.bind (Zc 17592186044416 g.1 ([b]:List Int)) fun m=>some (.nx (m,g.2))) e f (a,false)=some (.fin (d,i))∧(if i=true then d else d++[n])=a++insL n e∧d.length≤200000:=by
  intro e
  induction e with
  | nil=>intro f a p;exact⟨a,false,rfl,rfl,by simp at p;omega⟩
  | cons b e ih =>
   intro f a p
   rw[List.length_cons]at p
   by_cases h:n<b
   ·have q:Zc 17592186044416 a [n]=some (a++[n]):=j _ _ (by omega) (by simp)
    have s:Zc 17592186044416 (a++[n]) [b]=some (a++[n]++[b]):=j _ _ (by simp;omega) (by simp)
    refine⟨a++[n]++[b]++e,true,?_,?_,by simp;omega⟩
    ·simp only[forL,Bool.not_false,Bool.true_and,decide_eq_true h,if_true,Option.bind_some,q,s]
     rw[w _ _ _ (by simp;omega)]
    ·rw[if_pos rfl,insL,if_pos h]
     simp
   ·have s:Zc 17592186044416 a [b]=some (a++[b]):=j _ _ (by omega) (by simp)
    obtain⟨d,i,t,o,u⟩:=ih (f+1) (a++[b]) (by simp;omega)
    refine⟨d,i,?_,?_,u⟩
    ·simp only[forL,Bool.not_false,Bool.true_and,decide_eq_false h,Bool.false_eq_true,if_false,Option.bind_some,s]
     exact t
    ·rw[o,insL,if_neg h]
     simp
 obtain⟨d,i,t,o,u⟩:=v l 0 [] (by simpa using x);rw[zdB l (fun _ b (c:List Int×Bool)=>Option.bind (if ((!c.2)&&(decide (n<b)))=true then Option.bind (Zc 17592186044416 c.1 ([n]:List Int)) fun k=>some (k,true) else some (c.1,c.2)) fun g=>Option.bind (Zc 17592186044416 g.1 ([b]:List Int)) fun m=>some (.nx (m,g.2))) _ (fun f A b h=>by simp only[zbg,h,Option.bind_some]),t,Option.bind_some,Lp.andThen_fin];rw[List.nil_append]at o;cases i with
 | true=>simp only[Bool.not_true,Bool.false_eq_true,if_false,Option.bind_some];rw[← o];rfl
 | false =>
  have q:Zc 17592186044416 d [n]=some (d++[n]):=j _ _ u (by simp)
  simp only[Bool.not_false,if_true,Option.bind_some,q]
  rw[← o]
  rfl}
theorem zee{α:Type}(l:List α)(z:α):jR (List.replicate l.length z) l=l:=by{unfold jR;simp}
theorem zdu{l:List Int}(b:l.length≤100000):jh l=some l:=by{
 unfold jh;by_cases a:l.length=0;rw[if_pos (by simpa using a),List.eq_nil_of_length_eq_zero a];have:(l.length:Int)≠0:=by omega
 rw[if_neg (by simpa using this),JC,if_pos (by omega),Option.bind_some,Int.toNat_natCast,zee]}
theorem zhC{l:List zu}(b:l.length≤100000):jc l=some l:=by{
 unfold jc;by_cases a:l.length=0;rw[if_pos (by simpa using a),List.eq_nil_of_length_eq_zero a];have:(l.length:Int)≠0:=by omega
 rw[if_neg (by simpa using this),JC,if_pos (by omega),Option.bind_some,Int.toNat_natCast,zee]}
theorem zbM{s:zd}(a:s.values.length≤100000)(b:s.messages.length≤100000)(c:s.notes.length≤100000):QS s=some s:=by{unfold QS;rw[zhC a,zdu b,zdu c];rfl}
theorem zdN{s:zd}(a:s.values.length≤100000)(b:s.messages.length≤100000)(c:s.notes.length≤100000):jL s=some s:=by{unfold jL Zc;rw[if_pos (by simp;omega),if_pos (by simp;omega),if_pos (by simp;omega)];rfl}
theorem zin{a b:List Int}(l:a.length+b.length≤100000):jq [a,b]=some (a++b):=by{
 unfold jq;have c:w64 (0+(a.length:Int))=(a.length:Int):=by rw[Jy (by omega) (by omega)];omega
 have d:w64 ((a.length:Int)+(b.length:Int))=(a.length:Int)+(b.length:Int):=Jy (by omega) (by omega);have e:decide ((a.length:Int)<0)=false:=decide_eq_false (by omega);have f:decide ((a.length:Int)+(b.length:Int)<0)=false:=decide_eq_false (by omega);have g:idx [a,b] ((0:Nat):Int)=some a:=rfl;have h:idx [a,b] ((1:Nat):Int)=some b:=rfl
 have k:jG (α:=Int) ((a.length:Int)+(b.length:Int))=some []:=by
  unfold jG;rw[if_pos (by omega)]
 have i:Zc 17592186044416 ([]:List Int) a=some a:=by unfold Zc;rw[if_pos (by simp;omega)];rfl
 have j:Zc 17592186044416 a b=some (a++b):=by unfold Zc;rw[if_pos (by omega)]
 have l2 : [a,b].length=2:=rfl;rw[l2];simp only[Zx,Nat.zero_add,g,h,Option.bind_some,c,d,e,f,Bool.false_eq_true,if_false,Lp.andThen_fin,k,i,j]}
end Go.Proofs.YtcnidlpginehjaaGreat.M
namespace Go.Proofs.YtcnidlpginehjaaGreat.M
open Go Go.Pu
set_option linter.unusedSimpArgs false
set_option linter.unusedVariables false
theorem zfP(a b:ByteArray):ZU a b=ZU b a:=by{unfold ZU;exact BEq.comm}
theorem zgC(l:List ByteArray)(v:ByteArray):qs l v=some (l.any fun a=>ZU v a):=by{unfold qs jk;have:=zcQ (α:=ByteArray) l (fun a=>ZU v a);simp only[Option.bind_some]at this;rw[this, ← zfm];cases l.findIdx? (fun a=>ZU v a) <;> rfl}
theorem zjE(l:List ByteArray)(v:ByteArray):Jh l v=some (l.any fun a=>ZU v a):=by{
 unfold Jh;rw[zdP l (fun a=>ZU a v) true];have:(l.any fun a=>ZU a v)=l.any fun a=>ZU v a:=by congr 1;funext a;exact zfP _ _
 rw[this];cases l.any fun a=>ZU v a <;> rfl}
theorem zgE(l:List zS)(x:zS):qc l (fun a=>QU a x)=some (l.any fun a=>ZU a.name x.name):=by{
 unfold qc Qb QU;have:=zcQ (α:=zS) l (fun a=>ZU x.name a.name);rw[this];have b:=zfm l (fun a=>ZU x.name a.name);have:(l.any fun a=>ZU a.name x.name)=l.any fun a=>ZU x.name a.name:=by congr 1;funext a;exact zfP _ _
 rw[this, ← b];cases l.findIdx? (fun a=>ZU x.name a.name) <;> rfl}
theorem zih{α:Type}{s:List α}{k:Nat}(a:k≤s.length):jH s none (some (k:Int))=some (s.take k):=by{unfold jH zeB;simp only[Option.getD_some,Option.getD_none];rw[if_pos (by omega)];simp}
theorem zjl(l:List ByteArray)(r:∀s∈l,s.size≤9223372036854775807):∃a:Lp Unit Int,
  Zx (fun f (_:Unit)=>Option.bind (idx l (f:Int)) fun g=>Option.bind (Jf g) fun m=>if (!m)=true then some (.rt (3:Int)) else Option.bind (jH l none (some (f:Int))) fun n=>Option.bind (qs n g) fun o=>if o=true then some (.rt 6) else some (.nx ())) l.length 0 ()=some a∧
  Zx (fun d (_:Unit)=>Option.bind (idx l (d:Int)) fun e=>Option.bind (Qy e) fun i=>if (!i)=true then some (.rt (3:Int)) else Option.bind (jH l none (some (d:Int))) fun j=>Option.bind (Jh j e) fun k=>if k=true then some (.rt 6) else some (.nx ())) l.length 0 ()=some a∧
  (a=.fin ()∨a=.rt 3∨a=.rt 6):=by{
 rcases zdV (R:=Int) (b:=fun f (_:Unit)=>Option.bind (idx l (f:Int)) fun g=>Option.bind (Jf g) fun m=>if (!m)=true then some (.rt (3:Int)) else Option.bind (jH l none (some (f:Int))) fun n=>Option.bind (qs n g) fun o=>if o=true then some (.rt 6) else some (.nx ()))
  (b':=fun d (_:Unit)=>Option.bind (idx l (d:Int)) fun e=>Option.bind (Qy e) fun i=>if (!i)=true then some (.rt (3:Int)) else Option.bind (jH l none (some (d:Int))) fun j=>Option.bind (Jh j e) fun k=>if k=true then some (.rt 6) else some (.nx ()))
  l.length (fun a=>a=3∨a=6) (fun _ _ _=>True) (s:=()) (s':=()) trivial
  (fun h w v p _=>by
   simp only[jD _ _ p,Option.bind_some,zgQ _ (r _ (List.getElem_mem p)),zga,zih (Nat.le_of_lt p),zgC,zjE]
   by_cases b:(!(nmL (l[h]).data.toList&&decide (((l[h]).size:Int)≤20)))=true
   ·rw[if_pos b]
    exact .inl ⟨3,rfl,rfl,.inl rfl⟩
   ·rw[if_neg b]
    by_cases c:((l.take h).any fun u=>ZU l[h] u)=true
    ·rw[if_pos c]
     exact .inl ⟨6,rfl,rfl,.inr rfl⟩
    ·rw[if_neg c]
     exact .inr ⟨(),(),rfl,rfl,trivial⟩)with ⟨a,b,c,h3⟩|⟨t,t',b,c,_⟩
 exact⟨.rt a,b,c,h3.elim (fun q=>.inr (.inl (by rw[q]))) fun q=>.inr (.inr (by rw[q]))⟩;exact⟨.fin (),b,c,.inl rfl⟩}
def zhv(f:zK):Prop:=∀x∈f.fields,x.name.size≤9223372036854775807∧∀o∈x.options,o.size≤9223372036854775807
theorem zju(f:zK)(M:zhv f):∃v,JS f=some v∧Ji f=some v∧(v=0→f.fields.length≤20∧∀A∈f.fields,A.options.length≤20):=by{
 unfold JS Ji;by_cases l:(20:Int)<(f.fields.length:Int);rw[if_pos (decide_eq_true l),if_pos (decide_eq_true l)];exact⟨4,rfl,rfl,fun g=>by cases g⟩;rw[if_neg (by simpa using l),if_neg (by simpa using l)]
 rcases zdV (R:=Int) (b:=fun k (_:Unit)=>Option.bind (idx f.fields (k:Int)) fun b=>Option.bind (Jf b.name) fun q=>if (!q)=true then some (.rt 3) else Option.bind (jH f.fields none (some (k:Int))) fun m=>Option.bind (qc m (fun G=>QU G b)) fun H=>if H=true then some (.rt 6) else if (!(zF b.kind 1 6))=true then some (.rt 10) else Option.bind (jV b) fun y=>if (y != 0)=true then some (.rt y) else if (!(zF b.needs 0 6))=true then some (.rt 2) else some (.nx ()))
  (b':=fun k (_:Unit)=>Option.bind (idx f.fields (k:Int)) fun b=>Option.bind (Qy b.name) fun q=>if (!q)=true then some (.rt 3) else Option.bind (jH f.fields none (some (k:Int))) fun m=>Option.bind (Zx (fun I _=>Option.bind (idx m (I:Int)) fun J=>if (ZU J.name b.name)=true then some (.rt 6) else some (.nx ())) m.length 0 ()) fun K=>K.andThen (fun h=>some (.rt h)) fun T=>if (!(zV b.kind 1 6))=true then some (.rt 10) else if (!((b.kind==4)==(decide ((0:Int)<(b.options.length:Int)))))=true then some (.rt 1) else if (decide ((20:Int)<(b.options.length:Int)))=true then some (.rt 4) else Option.bind (Zx (fun w _=>Option.bind (idx b.options (w:Int)) fun x=>Option.bind (Qy x) fun B=>if (!B)=true then some (.rt 3) else Option.bind (jH b.options none (some (w:Int))) fun D=>Option.bind (Jh D x) fun E=>if E=true then some (.rt 6) else some (.nx ())) b.options.length 0 ()) fun F=>F.andThen (fun h=>some (.rt h)) fun S=>if (!(zV b.needs 0 6))=true then some (.rt 2) else some (.nx ()))
  f.fields.length (fun p=>p≠0) (fun a _ _=>∀e (i:e<f.fields.length),e<a→(f.fields[e]).options.length≤20) (s:=()) (s':=()) (fun e i g=>absurd g (Nat.not_lt_zero _))
  (fun a W U r s=>by
   obtain⟨N,O⟩:=M _ (List.getElem_mem r)
   obtain⟨p,P,Q,o3⟩:=zjl _ O
   simp only[jD _ _ r,Option.bind_some,zgQ _ N,zga (f.fields[a]).name,zih (Nat.le_of_lt r),zgE]
   rw[zdP (List.take a f.fields) (fun h=>ZU h.name (f.fields[a]).name) (6:Int)]
   by_cases c:(!(nmL (f.fields[a]).name.data.toList&&decide (((f.fields[a]).name.size:Int)≤20)))=true
   ·rw[if_pos c,if_pos c]
    exact .inl ⟨3,rfl,rfl,by omega⟩
   rw[if_neg c,if_neg c]
   by_cases d:((f.fields.take a).any fun h=>ZU h.name (f.fields[a]).name)=true
   ·rw[if_pos d,if_pos d]
    exact .inl ⟨6,rfl,rfl,by omega⟩
   rw[if_neg d,if_neg d]
   simp only[Option.bind_some,Lp.andThen_fin]
   by_cases j:(!(zF (f.fields[a]).kind 1 6))=true
   ·rw[if_pos j,if_pos (show (!(zV (f.fields[a]).kind 1 6))=true from j)]
    exact .inl ⟨10,rfl,rfl,by omega⟩
   rw[if_neg j,if_neg (show ¬(!(zV (f.fields[a]).kind 1 6))=true from j)]
   unfold jV
   by_cases n:(!(((f.fields[a]).kind==4)==(decide ((0:Int)<((f.fields[a]).options.length:Int)))))=true
   ·rw[if_pos n,if_pos n]
    exact .inl ⟨1,rfl,rfl,by omega⟩
   rw[if_neg n,if_neg n]
   by_cases u:(20:Int)<((f.fields[a]).options.length:Int)
   ·rw[if_pos (decide_eq_true u),if_pos (decide_eq_true u)]
    exact .inl ⟨4,rfl,rfl,by omega⟩
   have z:¬(decide ((20:Int)<((f.fields[a]).options.length:Int)))=true:=by simpa using u
   rw[if_neg z,if_neg z,P,Q]
   rcases o3 with rfl|rfl|rfl
   ·simp only[Option.bind_some,Lp.andThen_fin]
    rw[if_neg (by simp)]
    by_cases o:(!(zF (f.fields[a]).needs 0 6))=true
    ·rw[if_pos o,if_pos (show (!(zV (f.fields[a]).needs 0 6))=true from o)]
     exact .inl ⟨2,rfl,rfl,by omega⟩
    ·rw[if_neg o,if_neg (show ¬(!(zV (f.fields[a]).needs 0 6))=true from o)]
     refine .inr ⟨(),(),rfl,rfl,fun e i L=>?_⟩
     rcases Nat.lt_or_eq_of_le (Nat.le_of_lt_succ L)with g|rfl
     ·exact s e i g
     ·omega
   ·exact .inl ⟨3,rfl,rfl,by omega⟩
   ·exact .inl ⟨6,rfl,rfl,by omega⟩)with ⟨p,c,d,j⟩|⟨t,t',c,d,s⟩
 rw[c,d];exact⟨p,rfl,rfl,fun g=>absurd g j⟩;rw[c,d];refine⟨0,rfl,rfl,fun _=>⟨by omega,fun A R=>?_⟩⟩;obtain⟨e,i,rfl⟩:=List.mem_iff_getElem.1 R;exact s e i i}
theorem zhD{l:List ByteArray}(b:l.length≤100000):QZ l=some l:=by{
 unfold QZ;by_cases a:l.length=0;rw[if_pos (by simpa using a),List.eq_nil_of_length_eq_zero a];have:(l.length:Int)≠0:=by omega
 rw[if_neg (by simpa using this),JC,if_pos (by omega),Option.bind_some,Int.toNat_natCast,zee]}
theorem zhF{l:List zS}(b:l.length≤100000):jb l=some l:=by{
 unfold jb;by_cases a:l.length=0;rw[if_pos (by simpa using a),List.eq_nil_of_length_eq_zero a];have:(l.length:Int)≠0:=by omega
 rw[if_neg (by simpa using this),JC,if_pos (by omega),Option.bind_some,Int.toNat_natCast,zee]}
theorem zhf{α:Type}{l:List α}{k:Nat}(a:k<l.length):l.set k l[k]=l:=by{apply List.ext_getElem?;intro b;rw[List.getElem?_set];split;rename_i e;subst e;rw[List.getElem?_eq_getElem a];rfl}
theorem zib{f:zK}(o:f.fields.length≤20)(j:∀m∈f.fields,m.options.length≤20):Jx f=some f:=by{
 unfold Jx;rw[zhF (by omega),Option.bind_some]
 obtain⟨p,k,rfl⟩:=JA (R:=zK) (b:=fun c (d:zK)=>Option.bind (idx d.fields (c:Int)) fun e=>Option.bind (QZ e.options) fun h=>Option.bind (setI d.fields (c:Int) ({ (e:zS)with options:=h })) fun i=>some (.nx (⟨i⟩:zK)))
  f.fields.length (fun _ a=>a=f) (s:=(⟨f.fields⟩:zK)) rfl
  (fun g a b n=>by
   subst n
   refine⟨a,?_,rfl⟩
   have l:=j _ (List.getElem_mem b)
   simp only[jD _ _ b,Option.bind_some,zhD (Nat.le_trans l (by omega))]
   rw[setI,if_pos (by simp only[Int.toNat_natCast];omega),Option.bind_some,Int.toNat_natCast]
   show some (Ctl.nx (⟨a.fields.set g a.fields[g]⟩:zK))=_
   rw[zhf b])
 rw[k];rfl}
end Go.Proofs.YtcnidlpginehjaaGreat.M
