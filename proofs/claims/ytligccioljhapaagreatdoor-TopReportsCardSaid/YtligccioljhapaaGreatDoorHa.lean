import Derived.Test.YtligccioljhapaaGreatDoorGe
import Derived.Test.YtligccioljhapaaGreatDoorPu
namespace Go.Gw
open Go Go.RowKit Go.Pu
variable{Dw:Prop}
set_option linter.unusedSimpArgs false
set_option linter.unusedVariables false
class Cel(α:Type)where
 enc:α→Value
instance:Cel Bool:=⟨Value.bool⟩
instance:Cel Int:=⟨Value.int .i64⟩
instance:Cel ByteArray:=⟨Value.string⟩
class Mk(κ:Type)where
 dsc:TypeDesc
 enc:κ→Value
 isK:∀k,MapKept.IsKey dsc (enc k)
 inj:∀a b,enc a=enc b→a=b
instance:Mk ByteArray:=⟨.string,Value.string,fun _=>trivial,fun _ _ h=>Value.string.inj h⟩
instance:Mk Int:=⟨.int .i64,Value.int .i64,fun _=>rfl,fun _ _ h=>(Value.int.inj h).2⟩
def encE{κ α:Type}[Mk κ][Cel α](p:κ×α):Value×Value:=(Mk.enc p.1,Cel.enc p.2)
def obSM{κ α:Type}[Mk κ][Cel α](mb:Nat)(l:List (κ×α)):Ob where
 P f A w:=f=[mb]∧∃es clk,w.heap[mb]?=some (.map es clk)∧es.toList.map (fun e=>(e.key,e.val))=l.map encE∧(l.map (·.1)).Nodup
 keep h he hb:=by
  obtain⟨rfl,es,clk,h1,h2⟩:=h
  exact⟨rfl,es,clk,by rw[hb mb (by simp)];exact h1,h2⟩
 lt h b' hb':=by
  obtain⟨rfl,es,clk,h1,_⟩:=h
  simp at hb'
  subst hb'
  exact (Array.getElem?_eq_some_iff.1 h1).1
section
variable{κ α:Type}[DecidableEq κ][Mk κ][Cel α]{es:Array MapEntry}{l:List (κ×α)}{k:κ}
omit [DecidableEq κ] in
theorem zhI(e:es.toList.map (fun a=>(a.key,a.val))=l.map encE):∀a∈es.toList,∃b∈l,a.key=Mk.enc b.1∧a.val=Cel.enc b.2:=by
 intro a d
 have:(a.key,a.val)∈l.map encE:=by rw[← e];exact List.mem_map_of_mem d
 obtain⟨b,hp,c⟩:=List.mem_map.1 this
 simp only[encE,Prod.mk.injEq]at c
 exact⟨b,hp,c.1.symm,c.2.symm⟩
omit [DecidableEq κ] in
theorem zkN(f:es.toList.map (fun e=>(e.key,e.val))=l.map encE){j:Nat}{e:MapEntry}(d:es.toList[j]?=some e):∃a,l[j]?=some a∧e.key=Mk.enc a.1∧e.val=Cel.enc a.2:=by
 have c:(es.toList.map (fun e=>(e.key,e.val)))[j]?=some (e.key,e.val):=by rw[List.getElem?_map,d];rfl
 rw[f,List.getElem?_map]at c
 obtain⟨a,hp,b⟩:=Option.map_eq_some_iff.1 c
 simp only[encE,Prod.mk.injEq]at b
 exact⟨a,hp,b.1.symm,b.2.symm⟩
omit [Mk κ] [Cel α] in
theorem zcJ:∀{l:List (κ×α)},(∀p∈l,p.1≠k)→zp l k=none
 | [],_=>rfl
 | p::l,h=>by
  rw[zp,if_neg (h p (List.mem_cons_self ..)),zcJ fun q hq=>h q (List.mem_cons_of_mem _ hq)]
omit [Mk κ] [Cel α] in
theorem zcL:∀{l:List (κ×α)} {p:κ×α},(l.map (·.1)).Nodup→p∈l→zp l p.1=some p.2
 | q::l,p,hn,hp=>by
  rw[List.map_cons,List.nodup_cons]at hn
  rcases List.mem_cons.1 hp with rfl|hp
  ·rw[zp,if_pos rfl]
  ·rw[zp,if_neg fun e=>hn.1 (by rw[e];exact List.mem_map_of_mem hp),zcL hn.2 hp]
omit [Mk κ] [Cel α] in
theorem zhm:(∀a∈l,a.1≠k)→∀b:α,Qt l k b=l++[(k,b)]:=by{intro d b;unfold Qt;rw[if_neg];rintro⟨a,hp,c⟩;exact d a hp c}
end
section steps
variable{P:Program}{n:Fr}{ops:Array Oper}{Q:Exit→Act→World→Prop}{E:Env}{w:World}{rest:List Oper}{u:Value}{d:Nat}
variable{ty t kt et:TypeId}{pos:String}{af:Array Edge}{x y z:Operand}{A:Nat→Prop}{κ α:Type}[DecidableEq κ][Mk κ][Cel α]{B:Nat}{L:List Ob}{i mb:Nat}{l:List (κ×α)}{k:κ}
theorem zkX(κ α:Type)[Mk κ][Cel α](h:Hp B A w L)(hB:B≤w.heap.size)(a:∀c,w.heap.size≤c→A c)(i:Nat.blt d n.sz=true)(e:∀mb b f,Hp B f b (obSM (κ:=κ) (α:=α) mb []::L)→Tr Dw B A w f b→V P n ops Q rest ((d,.map (some mb))::E) b):
  V P n ops Q (⟨some d,.makeMap t none,ty,pos,af,none⟩::rest) E w :=
 V_y (w':=w.alloc (.map #[] 0)) (v := .map (some w.heap.size)) (fun j a=>by simp only[execOp];rfl) rfl rfl i
  (e _ _ _ (h.new (zaT (Dw:=Dw) B _ a) hB ⟨rfl,#[],0,heap_alloc_new w _,rfl,List.nodup_nil⟩ fun c g=>by simp at g;subst g;exact⟨Nat.le_refl _,fun e=>e.2 rfl⟩) ((zaT B _ a).tr hB))
theorem zjy{c:α}(b4:Hp B A w L)(hi:L[i]?=some (obSM mb l))(Z:P.underlying t=some (.map kt et))(d:P.underlying kt=some (Mk.dsc κ))(a0:ev E x=some (.map (some mb)))(a1:ev E y=some (Mk.enc k))(a2:ev E z=some (Cel.enc c))(hB:B≤w.heap.size)(b5:∀S,w.heap.size≤S→A S)(f:∀M,Hp B A M (L.set i (obSM mb (Qt l k c)))→Tr Dw B A w A M→V P n ops Q rest E M):
  V P n ops Q (⟨none,.mapUpdate t x y z,ty,pos,af,none⟩::rest) E w:=by{
 obtain⟨c2,⟨rfl,es,H,h,m,N⟩,u,b0⟩:=b4.at hi
 have b2:∀a∈es.toList,MapKept.IsKey (Mk.dsc κ) a.key:=fun a O=>by
  obtain⟨b,_,hp,_⟩:=zhI m a O
  rw[hp]
  exact Mk.isK _
 have r:MapKept.IsKey (Mk.dsc κ) (Mk.enc k):=Mk.isK _;have c0:mb<w.heap.size:=(Array.getElem?_eq_some_iff.1 h).1
 have I:∀T,Mv Dw B A w A { w with heap:=w.heap.setIfInBounds mb T } (some mb):=fun T =>
  ⟨rfl,rfl,rfl,by simp,fun _=>Nat.le_refl _,fun k d J=>by
   show (w.heap.setIfInBounds mb T)[k]?=w.heap[k]?
   exact (MapKept.heap_set h).2 k fun a=>J (by rw[a]),fun k d=>by cases d;exact⟨(u mb (by simp)).1,(u mb (by simp)).2.2⟩,fun _ f=>f,fun _ _ f=>f,fun v j=>b5 v (by simpa using j)⟩
 have W:∀s G o,s.toList.map (fun a=>(a.key,a.val))=List.map (encE (κ:=κ) (α:=α)) o→(o.map (·.1)).Nodup→Hp B A { w with heap:=w.heap.setIfInBounds mb (.map s G) } (L.set i (obSM mb o)):=fun s G o b6 b7 =>
  b0 A _ (some mb) (obSM mb o) [mb] (I _) (fun k d=>by cases d;simp) ⟨rfl,s,G,(MapKept.heap_set h).1,b6,b7⟩ fun v j=>⟨.inl j,(u v j).1,(u v j).2.2⟩
 rcases MapKept.findNow_spec r es.toList 0 b2 with ⟨R,D⟩|⟨F,a,R,D,a3⟩
 have U:∀b∈l,b.1≠k:=fun b hp b3=>by
  have:encE b∈es.toList.map (fun a=>(a.key,a.val)):=by rw[m];exact List.mem_map_of_mem hp
  obtain⟨a,O,p⟩:=List.mem_map.1 this
  simp only[encE,Prod.mk.injEq]at p
  exact D a O (by rw[p.1,b3])
 rw[zhm U]at f;refine V_s (w' := { w with heap:=w.heap.setIfInBounds mb (.map (es.push { key:=Mk.enc k,val:=Cel.enc c,born:=H }) (H+1)) }) (fun a9 g=>?_) rfl rfl (f _ (W _ _ _ ?_ ?_) ((I _).tr hB));simp only[execOp,g.eval a0,g.eval a1,g.eval a2,Instr.mapUpdate];simp[run_underlying Z,MapKept.run_getObj_map h,MapKept.run_checkKey d r,MapKept.run_findKey d R,MapKept.run_setObj_map _ h,Result.andThen];rw[Array.toList_push,List.map_append,List.map_append,m];rfl;rw[List.map_append,List.nodup_append];refine⟨N,by simp,?_⟩;intro a9 b8 S X;obtain⟨b,hp,rfl⟩:=List.mem_map.1 b8;simp at X;subst X;exact U b hp;obtain⟨b,hp,a4,c1⟩:=zkN m D;rw[a4]at a3;obtain rfl:=Mk.inj _ _ a3;have a5:es[F]?=some a:=by rw[← Array.getElem?_toList];exact D
 have b1:Qt l b.1 c=l.map (fun e=>if e.1=b.1 then (b.1,c) else e):=by
  unfold Qt
  rw[if_pos ⟨b,List.mem_of_getElem? hp,rfl⟩]
 rw[b1]at f;refine V_s (w' := { w with heap:=w.heap.setIfInBounds mb (.map (es.modify F fun a => { a with key:=Mk.enc b.1,val:=Cel.enc c }) H) }) (fun a9 g=>?_) rfl rfl (f _ (W _ _ _ ?_ ?_) ((I _).tr hB));simp only[execOp,g.eval a0,g.eval a1,g.eval a2,Instr.mapUpdate];simp[run_underlying Z,MapKept.run_getObj_map h,MapKept.run_checkKey d r,MapKept.run_findKey d R,MapKept.run_setObj_map _ h,MapKept.run_keyThatStays r,a5,a4,Result.andThen];apply List.ext_getElem?;intro q;rw[List.getElem?_map,List.getElem?_map,List.getElem?_map,Array.getElem?_toList,Array.getElem?_modify];have a6:(es.toList.map (fun a=>(a.key,a.val)))[q]?=(l.map encE)[q]?:=by rw[m]
 rw[List.getElem?_map,List.getElem?_map,Array.getElem?_toList]at a6;by_cases K:F=q;subst K;rw[if_pos rfl,a5,hp];simp[encE];rw[if_neg K,a6];cases hlm:l[q]? with
 | none=>rfl
 | some e =>
  have J:e.1≠b.1:=fun b9=>by
   have a7:(l.map (·.1))[q]?=some b.1:=by rw[List.getElem?_map,hlm];simp[b9]
   have a8:(l.map (·.1))[F]?=some b.1:=by rw[List.getElem?_map,hp];rfl
   have l1:=(List.getElem?_eq_some_iff.1 a7).1
   have l2:=(List.getElem?_eq_some_iff.1 a8).1
   exact K ((List.getElem?_inj l2 N).1 (a8.trans a7.symm))
  simp[J]
 have:(l.map (fun e=>if e.1=b.1 then (b.1,c) else e)).map (·.1)=l.map (·.1):=by
  rw[List.map_map]
  apply List.map_congr_left
  intro e _
  by_cases p:e.1=b.1
  simp[p]
  simp[p]
 rw[this];exact N}
end steps
end Go.Gw
