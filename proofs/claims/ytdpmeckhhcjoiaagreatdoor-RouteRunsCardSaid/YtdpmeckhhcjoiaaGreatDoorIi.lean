import Derived.Test.YtdpmeckhhcjoiaaGreatDoorIh
import Derived.Test.YtdpmeckhhcjoiaaGreatDoorHo
namespace Go.Gw
open Go Go.RowKit Go.Pu Go.ChangeMaps
variable{Dw:Prop}
set_option linter.unusedSimpArgs false
set_option linter.unusedVariables false
set_option linter.unusedSectionVars false
def Cpy{κ α:Type}[DecidableEq κ][Mk κ](es:Array MapEntry)(m:List (κ×α))(seen:Array Nat)(l:List (κ×α)):Prop:=∀k,((∃e∈es.toList,seen.contains e.born=true∧e.key=Mk.enc k)→zu l k=zu m k)∧((∀e∈es.toList,seen.contains e.born=true→e.key≠Mk.enc k)→zu l k=none)
section
variable{κ α:Type}[DecidableEq κ][Mk κ]{es:Array MapEntry}{m l:List (κ×α)}{seen:Array Nat}{clk:Nat}{e:MapEntry}{k:κ}{v:α}
theorem Cpy.nil:Cpy es m #[] []:=fun k=>⟨fun⟨e,_,a,_⟩=>by simp at a,fun _=>rfl⟩
theorem znT:∀{l:List MapEntry},(l.map (·.born)).Nodup→∀{a b:MapEntry},a∈l→b∈l→a.born=b.born→a=b
 | [],_,_,_,h,_,_=>by cases h
 | x::l,hn,a,b,ha,hb,he=>by
  rw[List.map_cons,List.nodup_cons]at hn
  rcases List.mem_cons.1 ha with rfl|ha2
  ·rcases List.mem_cons.1 hb with rfl|hb
   ·rfl
   ·exact absurd (he▸List.mem_map_of_mem hb) hn.1
  ·rcases List.mem_cons.1 hb with rfl|hb
   ·refine absurd ?_ hn.1
    rw[← he]
    exact List.mem_map_of_mem ha2
   ·exact znT hn.2 ha2 hb he
theorem Cpy.push(n:Cpy es m seen l)(o:BOK es clk)(p:e∈(leftOf es seen).toList)(j:e.key=Mk.enc k)(q:zu m k=some v):Cpy es m (seen.push e.born) (QH l k v):=by{
 obtain⟨i,t⟩:=mem_left p;intro f;rw[ziZ];by_cases g:f=k;subst g;rw[if_pos rfl,q];refine⟨fun _=>rfl,fun b=>absurd j (b e i (by simp))⟩;rw[if_neg g]
 have r:∀a∈es.toList,(seen.push e.born).contains a.born=true→a.key=Mk.enc f→seen.contains a.born=true:=fun a b d c=>by
  rw[Array.contains_push]at d
  rcases Bool.or_eq_true_iff.1 d with h|h
  exact h
  have s:a.born=e.born:=by simpa using h
  have:=znT o.2 b i s
  rw[this,j]at c
  exact absurd (Mk.inj _ _ c).symm g
 refine⟨fun⟨a,b,d,c⟩=>(n f).1 ⟨a,b,r a b d c,c⟩,fun b=>(n f).2 fun a d c=>b a d ?_⟩;rw[Array.contains_push,c];rfl}
theorem Cpy.done(f:Cpy es m seen l)(g:(leftOf es seen).size=0)(h:∀d∈m,∃e∈es.toList,e.key=Mk.enc d.1):Mq l m:=fun k=>by
 by_cases c:∃e∈es.toList,e.key=Mk.enc k
 ·obtain⟨e,a,b⟩:=c
  exact (f k).1 ⟨e,a,all_seen es seen g e a,b⟩
 ·rw[(f k).2 fun e a _ b=>c ⟨e,a,b⟩,zfy fun d i j=>by
   obtain⟨e,a,b⟩:=h d i
   exact c ⟨e,a,j▸b⟩]
end
section
variable{κ α:Type}[DecidableEq κ][Mk κ]{B mb i:Nat}{A A1:Nat→Prop}{w w1:World}{L:List Ob}{es:Array MapEntry}{m l:List (κ×α)}{clk:Nat}{e:MapEntry}
theorem zfB{κ α:Type}[DecidableEq κ](k:κ):∀l:List (κ×α),zu (allT l) k=(zu l k).map fun _=>true
 | []=>rfl
 | p::l=>by
  show zu ((p.1,true)::allT l) k=_
  simp only[zu]
  split
  ·rfl
  ·exact zfB k l
theorem zoc{κ α:Type}[DecidableEq κ]{k:κ}{l:List (κ×α)}{v:α}(a:zu l k=some v):zu (allT l) k=some true:=by{rw[zfB,a];rfl}
theorem Mq.allT{κ α:Type}[DecidableEq κ]{l m:List (κ×α)}(a:Mq l m):Mq (allT l) (allT m):=fun k=>by
 rw[zfB,zfB,a k]
structure RwR[GoT α](A:Nat→Prop)(w:World)(es:Array MapEntry)(m:List (κ×α))(clk:Nat):Prop where
 sz:es.size=m.length
 en:∀(j:Nat) (e:MapEntry) (p:κ×α),es[j]?=some e→m[j]?=some p→ReE A w e p
 nd:(m.map (·.1)).Nodup
 bo:BOK es clk
theorem RwR.tr[GoT α](a:RwR A w es m clk)(b:Tr Dw B A w A1 w1):RwR A1 w1 es m clk:=⟨a.sz,fun f e g c d=>(a.en f e g c d).keep b.ex,a.nd,a.bo⟩
theorem RwR.at[GoT α](a:RwR A w es m clk)(f:e∈es.toList):∃k v,e.key=Mk.enc k∧zu m k=some v∧∃b:Array Value,e.val=.agg b∧GoT.rep A w b.toList v:=by{obtain⟨j,c⟩:=List.mem_iff_getElem?.1 f;rw[Array.getElem?_toList]at c;obtain⟨d,g,h,i⟩:=zmR a.sz a.en c;exact⟨d.1,d.2,h,zeA a.nd (List.mem_of_getElem? g),i⟩}
theorem RwR.has[GoT α](d:RwR A w es m clk):∀b∈m,∃e∈es.toList,e.key=Mk.enc b.1:=fun b f=>by
 obtain⟨a,c⟩:=List.mem_iff_getElem?.1 f
 have g:a<es.size:=by have:=(List.getElem?_eq_some_iff.1 c).1;have:=d.sz;omega
 exact⟨es[a],by simp,(d.en a es[a] b (Array.getElem?_eq_getElem g) c).1⟩
theorem Hp.rawR[GoT α](o:Hp B A w L)(hi:L[i]?=some (zy mb l)):∃(m:List (κ×α)) (es:Array MapEntry) (clk:Nat),Mq m l∧RwR A w es m clk∧Hp B A w (L.set i (obO mb (.map es clk))):=by{
 obtain⟨m,c,d⟩:=o.qo hi
 obtain⟨⟨es,clk⟩,f,b⟩:=Hp.exAt (ι:=Array MapEntry×Nat) (C:=fun a=>RwR A w a.1 m a.2) (F:=fun a=>obO mb (.map a.1 a.2)) d (zcD hi) fun p e=>by
  obtain⟨rfl,es,clk,g,h,j,k,n⟩:=e
  exact⟨(es,clk),⟨h,j,k,n⟩,rfl,g⟩
 rw[List.set_set]at b;exact⟨m,es,clk,c,f,b⟩}
theorem Hp.unR[GoT α](d:Hp B A w L)(hi:L[i]?=some (obO mb (.map es clk)))(a:RwR A w es m clk)(c:Mq m l):Hp B A w (L.set i (zy mb l)) :=
 d.weakAt hi fun e b=>⟨m,c,b.1,es,clk,b.2,a.sz,a.en,a.nd,a.bo⟩
structure RwS[Cel α](es:Array MapEntry)(m:List (κ×α))(clk:Nat):Prop where
 en:es.toList.map (fun e=>(e.key,e.val))=m.map encE
 nd:(m.map (·.1)).Nodup
 bo:BOK es clk
theorem RwS.at[Cel α](a:RwS es m clk)(c:e∈es.toList):∃k v,e.key=Mk.enc k∧zu m k=some v∧e.val=Cel.enc v:=by{obtain⟨b,d,f,g⟩:=zkc a.en e c;exact⟨b.1,b.2,f,zeA a.nd d,g⟩}
theorem RwS.has[Cel α](f:RwS es m clk):∀a∈m,∃e∈es.toList,e.key=Mk.enc a.1:=fun a c=>by
 have:encE a∈es.toList.map (fun e=>(e.key,e.val)):=by rw[f.en];exact List.mem_map_of_mem c
 obtain⟨e,d,b⟩:=List.mem_map.1 this
 simp only[encE,Prod.mk.injEq]at b
 exact⟨e,d,b.1⟩
theorem RwS.hasT[Cel α](d:RwS es m clk):∀a∈allT m,∃e∈es.toList,e.key=Mk.enc a.1:=fun a b=>by
 obtain⟨f,c,rfl⟩:=List.mem_map.1 b
 exact d.has f c
theorem Hp.rawS[Cel α](n:Hp B A w L)(hi:L[i]?=some (zU mb l)):∃(m:List (κ×α)) (es:Array MapEntry) (clk:Nat),Mq m l∧RwS es m clk∧Hp B A w (L.set i (obO mb (.map es clk))):=by{
 obtain⟨m,c,d⟩:=n.qo hi
 obtain⟨⟨es,clk⟩,f,b⟩:=Hp.exAt (ι:=Array MapEntry×Nat) (C:=fun a=>RwS a.1 m a.2) (F:=fun a=>obO mb (.map a.1 a.2)) d (zcD hi) fun o e=>by
  obtain⟨rfl,es,clk,g,h,j,k⟩:=e
  exact⟨(es,clk),⟨h,j,k⟩,rfl,g⟩
 rw[List.set_set]at b;exact⟨m,es,clk,c,f,b⟩}
theorem Hp.unS[Cel α](d:Hp B A w L)(hi:L[i]?=some (obO mb (.map es clk)))(a:RwS es m clk)(c:Mq m l):Hp B A w (L.set i (zU mb l)) :=
 d.weakAt hi fun e b=>⟨m,c,b.1,es,clk,b.2,a.en,a.nd,a.bo⟩
theorem Hp.qeq{F:List (κ×α)→Ob}(d:Hp B A w L)(hi:L[i]?=some (obQu F l))(a:Mq l m):Hp B A w (L.set i (obQu F m)) :=
 d.weakAt hi fun f ⟨e,b,c⟩=>⟨e,fun k=>(b k).trans (a k),c⟩
end
end Go.Gw
