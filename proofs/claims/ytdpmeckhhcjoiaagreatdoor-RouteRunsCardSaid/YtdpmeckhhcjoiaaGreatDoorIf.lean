import Derived.Test.YtdpmeckhhcjoiaaGreatDoorHa
import Derived.Test.YtdpmeckhhcjoiaaGreatDoorPu
namespace Go.Gw
open Go Go.RowKit Go.Pu
variable{Dw:Prop}
set_option linter.unusedSimpArgs false
set_option linter.unusedVariables false
theorem znP{cs:Array Value}{l:List Value}(a:cs.toList=l):cs=l.toArray:=by rw[← a]
def obVv{α:Type}[GoT α](b:Nat)(t:TypeId)(x:α):Ob:=obE (fun cs:List Value=>[obC b cs t,obF (fun A w=>GoT.rep A w cs x) (fun h e=>GoT.keep h e)])
section
variable{α:Type}[GoT α]{B b:Nat}{A:Nat→Prop}{w:World}{L:List Ob}{t:TypeId}{x:α}{cs:List Value}
theorem Hp.toV(a:Hp B A w (obC b cs t::L))(d:GoT.rep A w cs x):Hp B A w (obVv b t x::L):=by{obtain⟨k,⟨i,c,rfl,e,f,g⟩,h⟩:=a;exact Hp.pack (F:=fun cs:List Value=>[obC b cs t,obF (fun A w=>GoT.rep A w cs x) (fun a j=>GoT.keep a j)]) cs ⟨_,⟨i,c,rfl,e,f, [],c,rfl,by simp,⟨rfl,d⟩,g⟩,h⟩}
theorem Hp.ofV(h:Hp B A w (obVv b t x::L)):∃cs,GoT.rep A w cs x∧Hp B A w (obC b cs t::L):=by{obtain⟨cs,m,⟨i,n,rfl,c,d,k,l,a,j,⟨rfl,e⟩,f⟩,g⟩:=Hp.open h;rw[List.nil_append]at a;subst a;exact⟨cs,e,_,⟨i,_,rfl,c,d,f⟩,g⟩}
end
def ReE{κ α:Type}[Mk κ][GoT α](A:Nat→Prop)(w:World)(e:MapEntry)(p:κ×α):Prop:=e.key=Mk.enc p.1∧∃cs:Array Value,e.val=.agg cs∧GoT.rep A w cs.toList p.2
theorem ReE.keep{κ α:Type}[Mk κ][GoT α]{A a:Nat→Prop}{w w':World}{e:MapEntry}{b:κ×α}(h:ReE A w e b)(c:Ex A w a w'):ReE a w' e b:=by{obtain⟨d,cs,f,g⟩:=h;exact⟨d,cs,f,GoT.keep g c⟩}
def obRM{κ α:Type}[Mk κ][GoT α](mb:Nat)(l:List (κ×α)):Ob where
 P f A w:=f=[mb]∧∃es clk,w.heap[mb]?=some (.map es clk)∧es.size=l.length∧(∀(j:Nat) (e:MapEntry) (p:κ×α),es[j]?=some e→l[j]?=some p→ReE A w e p)∧(l.map (·.1)).Nodup
 keep h he hb:=by
  obtain⟨rfl,es,clk,h1,h2,h3,h4⟩:=h
  exact⟨rfl,es,clk,by rw[hb mb (by simp)];exact h1,h2,fun j e p h5 h6=>(h3 j e p h5 h6).keep he,h4⟩
 lt h b' hb':=by
  obtain⟨rfl,es,clk,h1,_⟩:=h
  simp at hb'
  subst hb'
  exact (Array.getElem?_eq_some_iff.1 h1).1
section
variable{κ α:Type}[DecidableEq κ][Mk κ][GoT α]{es:Array MapEntry}{l:List (κ×α)}{k:κ}{A:Nat→Prop}{w:World}
omit [DecidableEq κ] in
theorem zmR(f:es.size=l.length)(d:∀(j:Nat) (e:MapEntry) (a:κ×α),es[j]?=some e→l[j]?=some a→ReE A w e a){j:Nat}{e:MapEntry}(b:es[j]?=some e):∃a,l[j]?=some a∧ReE A w e a:=by
 have c:j<l.length:=by have:=(Array.getElem?_eq_some_iff.1 b).1;omega
 exact⟨l[j],List.getElem?_eq_getElem c,d j e _ b (List.getElem?_eq_getElem c)⟩
omit [DecidableEq κ] in
theorem zoU(c:es.size=l.length)(g:∀(j:Nat) (e:MapEntry) (a:κ×α),es[j]?=some e→l[j]?=some a→ReE A w e a):∀e∈es.toList,MapKept.IsKey (Mk.dsc κ) e.key:=by
 intro e d
 obtain⟨j,b⟩:=List.mem_iff_getElem?.1 d
 rw[Array.getElem?_toList]at b
 obtain⟨a,_,f,_⟩:=zmR c g b
 rw[f]
 exact Mk.isK _
omit [DecidableEq κ] in
theorem zrG(i:es.size=l.length)(h:∀(j:Nat) (e:MapEntry) (a:κ×α),es[j]?=some e→l[j]?=some a→ReE A w e a)(c:∀e∈es.toList,e.key≠Mk.enc k):∀a∈l,a.1≠k:=by{
 rintro a f rfl;obtain⟨j,b⟩:=List.mem_iff_getElem?.1 f;have d:j<es.size:=by have:=(List.getElem?_eq_some_iff.1 b).1;omega
 have g:es[j]?=some es[j]:=Array.getElem?_eq_getElem d;exact c es[j] (by simp) (h j _ a g b).1}
end
section steps
variable{P:Program}{n:Fr}{ops:Array Oper}{Q:Exit→Act→World→Prop}{E:Env}{w:World}{rest:List Oper}{u:Value}{d:Nat}
variable{ty t kt et:TypeId}{pos:String}{af:Array Edge}{x y z:Operand}{A:Nat→Prop}{κ α:Type}[DecidableEq κ][Mk κ][GoT α]{B:Nat}{L:List Ob}{i mb:Nat}{l:List (κ×α)}{k:κ}
theorem zst{z:α}{zc:Array Value}(D:Hp B A w L)(hi:L[i]?=some (obRM mb l))(k:κ)(r:P.underlying t=some (.map kt et))(c:P.underlying kt=some (Mk.dsc κ))(F:∀w,(zeroValue et).run P w=.ok (.agg zc) w)(u:GoT.rep A w zc.toList z):
  ∃cs:Array Value,GoT.rep A w cs.toList ((zu l k).getD z)∧∀{E:Env} {x y:Operand} {ρd:Option Nat} {gd:Option (Nat×Bool)} {w':World},Kp Dw w w'→ev E x=some (.map (some mb))→ev E y=some (Mk.enc k)→
   Y P n E ⟨ρd,.lookup t x y false,ty,pos,af,gd⟩ w' (.agg cs) w':=by
 obtain⟨T,⟨rfl,es,R,f,g,h,G⟩,_,_⟩:=D.at hi
 have v:=zoU g h
 have d:MapKept.IsKey (Mk.dsc κ) (Mk.enc k):=Mk.isK _
 have q:mb<w.heap.size:=(Array.getElem?_eq_some_iff.1 f).1
 rcases MapKept.findNow_spec d es.toList 0 v with ⟨j,b⟩|⟨N,O,j,b,s⟩
 ·have H:zu l k=none:=zfy (zrG g h b)
  rw[H,Option.getD_none]
  refine⟨zc,u,fun m o p Q a=>?_⟩
  have e:=(m.block mb q).trans f
  simp only[execOp,a.eval o,a.eval p,Instr.lookup]
  simp[run_underlying r,MapKept.run_getObj_map e,MapKept.run_checkKey c d,MapKept.run_findKey c j,Result.andThen,F]
 ·rw[Array.getElem?_toList]at b
  obtain⟨U,I,J,cs,K,M⟩:=zmR g h b
  rw[J]at s
  obtain rfl:=Mk.inj _ _ s
  rw[zeA G (List.mem_of_getElem? I),Option.getD_some]
  refine⟨cs,M,fun m o p Q a=>?_⟩
  have e:=(m.block mb q).trans f
  have S:es.toList[N]?=some O:=by rw[Array.getElem?_toList];exact b
  simp only[execOp,a.eval o,a.eval p,Instr.lookup]
  simp[run_underlying r,MapKept.run_getObj_map e,MapKept.run_checkKey c d,MapKept.run_findKey c j,Result.andThen,K]
omit [Mk κ] [GoT α] in
theorem zsM{l:List (κ×α)}{a:κ×α}{c:α}(d:a∈l):QH l a.1 c=l.map (fun b=>if b.1=a.1 then (a.1,c) else b):=by
 unfold QH
 rw[if_pos ⟨a,d,rfl⟩]
omit [Mk κ] [GoT α] in
theorem zmW{l:List (κ×α)}(c:∀a∈l,a.1≠k):zam l k=l:=by
 unfold zam
 rw[List.filter_eq_self]
 intro a b
 simpa using c a b
omit [Mk κ] [GoT α] in
theorem zna:∀{l:List (κ×α)} {j:Nat} {a:κ×α},(l.map (·.1)).Nodup→l[j]?=some a→zam l a.1=l.eraseIdx j
 | [],_,_,_,h=>by simp at h
 | q::l,0,a,hn,h=>by
  rw[List.map_cons,List.nodup_cons]at hn
  cases h
  unfold zam
  rw[List.filter_cons,if_neg (by simp),List.eraseIdx_zero,List.tail_cons]
  refine zmW fun e d b=>hn.1 ?_
  rw[← b]
  exact List.mem_map_of_mem d
 | q::l,j+1,a,hn,h=>by
  rw[List.map_cons,List.nodup_cons]at hn
  have h':l[j]?=some a:=by simpa using h
  have c:q.1≠a.1:=fun b=>hn.1 (by rw[b];exact List.mem_map_of_mem (List.mem_of_getElem? h'))
  have:=zna hn.2 h'
  unfold zam at this ⊢
  rw[List.filter_cons,if_pos (by simpa using c),List.eraseIdx_cons_succ,this]
omit [Mk κ] [GoT α] in
theorem zqr{l:List (κ×α)}(a:(l.map (·.1)).Nodup):((zam l k).map (·.1)).Nodup:=a.sublist (List.filter_sublist.map _)
theorem zkX{es:Array MapEntry}{j:Nat}(a:j<es.size):(es.eraseIdxIfInBounds j).toList=es.toList.eraseIdx j:=by
 unfold Array.eraseIdxIfInBounds
 rw[dif_pos a]
 simp
omit [DecidableEq κ] [Mk κ] [GoT α] in
theorem V_yd{o:Oper}{v:Value}{w':World}(c:Y P n E o w v w')(e:o.guard=none)(f:o.dst=none)(a:V P n ops Q rest E w'):V P n ops Q (o::rest) E w:=by{intro h b;refine wpListIn_plain e fun i g=>⟨fun _ _=>trivial,?_⟩;rw[JQ (c h b) (fun d a=>by cases a),Oper.uponIn_value,f];exact g _ _ (a _ b)}
theorem zjx{β γ:Type}(f:β→γ):∀(l:List β) (j:Nat),(l.eraseIdx j).map f=(l.map f).eraseIdx j
 | [],_=>rfl
 | x::l,0=>rfl
 | x::l,j+1=>by rw[List.eraseIdx_cons_succ,List.map_cons,List.map_cons,List.eraseIdx_cons_succ,zjx f l j]
end steps
end Go.Gw
