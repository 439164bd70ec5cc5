import Derived.Test.YtdpmeckhhcjoiaaGreatDoorGe
import Derived.Test.YtdpmeckhhcjoiaaGreatDoorPu
namespace Go.Gw
open Go Go.RowKit Go.Pu
variable{Dw:Prop}
set_option linter.unusedSimpArgs false
set_option linter.unusedVariables false
class Cel(α:Type)where
 enc:α→Value
instance:Cel Bool:=⟨Value.bool⟩
instance:Cel Int:=⟨Value.int .i64⟩
instance:Cel ByteArray:=⟨Value.string⟩
class Mk(κ:Type)where
 dsc:TypeDesc
 enc:κ→Value
 isK:∀k,MapKept.IsKey dsc (enc k)
 inj:∀a b,enc a=enc b→a=b
instance:Mk ByteArray:=⟨.string,Value.string,fun _=>trivial,fun _ _ h=>Value.string.inj h⟩
instance:Mk Int:=⟨.int .i64,Value.int .i64,fun _=>rfl,fun _ _ h=>(Value.int.inj h).2⟩
def encE{κ α:Type}[Mk κ][Cel α](p:κ×α):Value×Value:=(Mk.enc p.1,Cel.enc p.2)
def obSM{κ α:Type}[Mk κ][Cel α](mb:Nat)(l:List (κ×α)):Ob where
 P f A w:=f=[mb]∧∃es clk,w.heap[mb]?=some (.map es clk)∧es.toList.map (fun e=>(e.key,e.val))=l.map encE∧(l.map (·.1)).Nodup
 keep h he hb:=by
  obtain⟨rfl,es,clk,h1,h2⟩:=h
  exact⟨rfl,es,clk,by rw[hb mb (by simp)];exact h1,h2⟩
 lt h b' hb':=by
  obtain⟨rfl,es,clk,h1,_⟩:=h
  simp at hb'
  subst hb'
  exact (Array.getElem?_eq_some_iff.1 h1).1
section
variable{κ α:Type}[DecidableEq κ][Mk κ][Cel α]{es:Array MapEntry}{l:List (κ×α)}{k:κ}
omit [DecidableEq κ] in
theorem zkc(f:es.toList.map (fun a=>(a.key,a.val))=l.map encE):∀a∈es.toList,∃b∈l,a.key=Mk.enc b.1∧a.val=Cel.enc b.2:=by
 intro a d
 have:(a.key,a.val)∈l.map encE:=by rw[← f];exact List.mem_map_of_mem d
 obtain⟨b,e,c⟩:=List.mem_map.1 this
 simp only[encE,Prod.mk.injEq]at c
 exact⟨b,e,c.1.symm,c.2.symm⟩
omit [DecidableEq κ] in
theorem zpC(g:es.toList.map (fun e=>(e.key,e.val))=l.map encE){j:Nat}{e:MapEntry}(d:es.toList[j]?=some e):∃a,l[j]?=some a∧e.key=Mk.enc a.1∧e.val=Cel.enc a.2:=by
 have c:(es.toList.map (fun e=>(e.key,e.val)))[j]?=some (e.key,e.val):=by rw[List.getElem?_map,d];rfl
 rw[g,List.getElem?_map]at c
 obtain⟨a,f,b⟩:=Option.map_eq_some_iff.1 c
 simp only[encE,Prod.mk.injEq]at b
 exact⟨a,f,b.1.symm,b.2.symm⟩
omit [Mk κ] [Cel α] in
theorem zfy:∀{l:List (κ×α)},(∀p∈l,p.1≠k)→zu l k=none
 | [],_=>rfl
 | p::l,h=>by
  rw[zu,if_neg (h p (List.mem_cons_self ..)),zfy fun q hq=>h q (List.mem_cons_of_mem _ hq)]
omit [Mk κ] [Cel α] in
theorem zeA:∀{l:List (κ×α)} {p:κ×α},(l.map (·.1)).Nodup→p∈l→zu l p.1=some p.2
 | q::l,p,hn,hp=>by
  rw[List.map_cons,List.nodup_cons]at hn
  rcases List.mem_cons.1 hp with rfl|hp
  ·rw[zu,if_pos rfl]
  ·rw[zu,if_neg fun e=>hn.1 (by rw[e];exact List.mem_map_of_mem hp),zeA hn.2 hp]
omit [Mk κ] [Cel α] in
theorem zkR:(∀a∈l,a.1≠k)→∀b:α,QH l k b=l++[(k,b)]:=by{intro e b;unfold QH;rw[if_neg];rintro⟨a,c,d⟩;exact e a c d}
end
section steps
variable{P:Program}{n:Fr}{ops:Array Oper}{Q:Exit→Act→World→Prop}{E:Env}{w:World}{rest:List Oper}{u:Value}{d:Nat}
variable{ty t kt et:TypeId}{pos:String}{af:Array Edge}{x y z:Operand}{A:Nat→Prop}{κ α:Type}[DecidableEq κ][Mk κ][Cel α]{B:Nat}{L:List Ob}{i mb:Nat}{l:List (κ×α)}{k:κ}
theorem zqm{z:α}{p:Value}(I:Hp B A w L)(hi:L[i]?=some (obSM mb l))(q:P.underlying t=some (.map kt et))(e:P.underlying kt=some (Mk.dsc κ))(J:∀w,(zeroValue et).run P w=.ok p w)(F:p=Cel.enc z)(r:ev E x=some (.map (some mb)))(s:ev E y=some (Mk.enc k)):Y P n E ⟨some d,.lookup t x y false,ty,pos,af,none⟩ w (Cel.enc ((zu l k).getD z)) w:=by{
 obtain⟨R,⟨rfl,es,Q,u,g,K⟩,_,_⟩:=I.at hi
 have G:∀a∈es.toList,MapKept.IsKey (Mk.dsc κ) a.key:=fun a h=>by
  obtain⟨o,_,b,_⟩:=zkc g a h
  rw[b]
  exact Mk.isK _
 have f:MapKept.IsKey (Mk.dsc κ) (Mk.enc k):=Mk.isK _;intro S c;rcases MapKept.findNow_spec f es.toList 0 G with ⟨j,m⟩|⟨T,a,j,m,v⟩
 have M:zu l k=none:=zfy fun o b H=>by
  have:encE o∈es.toList.map (fun a=>(a.key,a.val)):=by rw[g];exact List.mem_map_of_mem b
  obtain⟨a,h,D⟩:=List.mem_map.1 this
  simp only[encE,Prod.mk.injEq]at D
  exact m a h (by rw[D.1,H])
 rw[M,Option.getD_none, ← F];simp only[execOp,c.eval r,c.eval s,Instr.lookup];simp[run_underlying q,MapKept.run_getObj_map u,MapKept.run_checkKey e f,MapKept.run_findKey e j,Result.andThen,J];obtain⟨o,b,N,O⟩:=zpC g m;rw[N]at v;obtain rfl:=Mk.inj _ _ v;rw[zeA K (List.mem_of_getElem? b),Option.getD_some, ← O];simp only[execOp,c.eval r,c.eval s,Instr.lookup];simp[run_underlying q,MapKept.run_getObj_map u,MapKept.run_checkKey e f,MapKept.run_findKey e j,Result.andThen]}
end steps
end Go.Gw
