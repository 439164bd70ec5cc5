import Derived.Test.YtdpmeckhhcjoiaaGreatDoorIf
namespace Go.Gw
open Go Go.RowKit Go.Pu
variable{Dw:Prop}
set_option linter.unusedSimpArgs false
set_option linter.unusedVariables false
theorem Sp.exAt{ι:Type}{C:ι→Prop}{F:ι→Ob}{A:Nat→Prop}{w:World}:∀{L:List Ob} {b:List Nat} {i:Nat} {c:Ob},Sp A w L b→L[i]?=some c→(∀a,c.P a A w→∃x,C x∧(F x).P a A w)→∃x,C x∧Sp A w (L.set i (F x)) b
 | [],_,_,_,_,hi,_=>by simp at hi
 | c::L,b,0,O0,h,hi,hw=>by
  simp only[List.getElem?_cons_zero,Option.some.injEq]at hi
  subst hi
  obtain⟨a,k,rfl,d,e,f⟩:=h
  obtain⟨x,g,j⟩:=hw a e
  exact⟨x,g,a,k,rfl,d,j,f⟩
 | c::L,b,i+1,O0,h,hi,hw=>by
  simp only[List.getElem?_cons_succ]at hi
  obtain⟨a,k,rfl,d,e,f⟩:=h
  obtain⟨x,g,j⟩:=Sp.exAt f hi hw
  exact⟨x,g,a,k,rfl,d,e,j⟩
theorem Hp.exAt{ι:Type}{C:ι→Prop}{F:ι→Ob}{B:Nat}{A:Nat→Prop}{w:World}{L:List Ob}{i:Nat}{a:Ob}(h:Hp B A w L)(hi:L[i]?=some a)(c:∀b,a.P b A w→∃x,C x∧(F x).P b A w):∃x,C x∧Hp B A w (L.set i (F x)):=by{obtain⟨j,d,e⟩:=h;obtain⟨x,f,g⟩:=d.exAt hi c;exact⟨x,f,j,g,e⟩}
theorem Hp.weakAt{B:Nat}{A:Nat→Prop}{w:World}{L:List Ob}{i:Nat}{b O':Ob}(f:Hp B A w L)(hi:L[i]?=some b)(c:∀a,b.P a A w→O'.P a A w):Hp B A w (L.set i O'):=by{obtain⟨_,_,e⟩:=f.exAt (ι:=Unit) (C:=fun _=>True) (F:=fun _=>O') hi fun a d=>⟨(),trivial,c a d⟩;exact e}
def Mq{κ α:Type}[DecidableEq κ](l m:List (κ×α)):Prop:=∀k,zu l k=zu m k
section
variable{κ α:Type}[DecidableEq κ]{l m:List (κ×α)}{k:κ}{c:α}
theorem zkK{k2:κ}:∀{l:List (κ×α)},(∀p∈l,p.1≠k)→zu (l++[(k,c)]) k2=if k2=k then some c else zu l k2
 | [],_=>by
  simp only[List.nil_append,zu]
  by_cases h:k=k2
  ·rw[if_pos h,if_pos h.symm]
  ·rw[if_neg h,if_neg (fun e=>h e.symm)]
 | p::l,h=>by
  simp only[List.cons_append,zu]
  by_cases h1:p.1=k2
  ·rw[if_pos h1,if_pos h1,if_neg (fun e=>h p (List.mem_cons_self ..) (h1.trans e))]
  ·rw[if_neg h1,if_neg h1];exact zkK (fun q hq=>h q (List.mem_cons_of_mem _ hq))
theorem ziV{f:κ}:∀{l:List (κ×α)},(∃d∈l,d.1=k)→zu (l.map fun e=>if e.1=k then (k,c) else e) f=if f=k then some c else zu l f
 | [],h=>by obtain⟨d,j,_⟩:=h;cases j
 | d::l,h=>by
  simp only[List.map_cons,zu]
  by_cases g:d.1=k
  ·rw[if_pos g]
   by_cases b:k=f
   ·rw[if_pos b,if_pos b.symm]
   ·rw[if_neg b,if_neg (fun a=>b a.symm),if_neg (fun a=>b (g.symm.trans a))]
    by_cases i:∃d∈l,d.1=k
    ·rw[ziV i,if_neg (fun a=>b a.symm)]
    ·have:(l.map fun e=>if e.1=k then (k,c) else e)=l:=by
      clear h
      induction l with
      | nil=>rfl
      | cons e l ih =>
       rw[List.map_cons,if_neg (fun a=>i ⟨e,List.mem_cons_self ..,a⟩),ih (fun⟨d,j,a⟩=>i ⟨d,List.mem_cons_of_mem _ j,a⟩)]
     rw[this]
  ·rw[if_neg g]
   have i:∃d∈l,d.1=k:=by
    obtain⟨e,m,a⟩:=h
    rcases List.mem_cons.1 m with rfl|m
    ·exact absurd a g
    ·exact⟨e,m,a⟩
   by_cases b:d.1=f
   ·rw[if_pos b,if_pos b,if_neg (fun a=>g (b.trans a))]
   ·rw[if_neg b,if_neg b];exact ziV i
theorem ziZ{a:κ}:zu (QH l k c) a=if a=k then some c else zu l a:=by{unfold QH;split;rename_i h;exact ziV h;rename_i h;exact zkK fun d b e=>h ⟨d,b,e⟩}
theorem ziI(k b:κ):∀(l:List (κ×α)),zu (zam l k) b=if b=k then none else zu l b
 | []=>by unfold zam;simp[zu]
 | p::l=>by
  have:=ziI k b l
  unfold zam at this ⊢
  rw[List.filter_cons]
  by_cases c:p.1=k
  ·rw[if_neg (by simpa using c),this]
   simp only[zu]
   by_cases a:b=k
   ·rw[if_pos a,if_pos a]
   ·rw[if_neg a,if_neg a,if_neg (fun d=>a (d.symm.trans c))]
  ·rw[if_pos (by simpa using c)]
   simp only[zu]
   by_cases a:p.1=b
   ·rw[if_pos a,if_pos a,if_neg (fun d=>c (a.trans d))]
   ·rw[if_neg a,if_neg a];exact this
theorem Mq.put(b:Mq l m):Mq (QH l k c) (QH m k c):=fun a=>by rw[ziZ,ziZ,b a]
theorem Mq.del(b:Mq l m):Mq (zam l k) (zam m k):=fun a=>by rw[ziI,ziI,b a]
end
def BOK(es:Array MapEntry)(clk:Nat):Prop:=(∀e∈es.toList,e.born<clk)∧(es.toList.map (·.born)).Nodup
theorem BOK.nil:BOK #[] 0:=⟨fun b a=>by simp at a,by simp⟩
theorem BOK.push{e:Array MapEntry}{b:Nat}{k v:Value}(c:BOK e b):BOK (e.push { key:=k,val:=v,born:=b }) (b+1):=by{refine⟨fun d a=>?_,?_⟩;rw[Array.toList_push,List.mem_append]at a;rcases a with a|a;exact Nat.lt_succ_of_lt (c.1 d a);simp at a;subst a;exact Nat.lt_succ_self _;rw[Array.toList_push,List.map_append,List.nodup_append];refine⟨c.2,by simp,?_⟩;intro i f j g h;obtain⟨d,a,rfl⟩:=List.mem_map.1 f;simp at g;have:=c.1 d a;omega}
theorem BOK.mod{a:Array MapEntry}{c j:Nat}{k v:Value}(f:BOK a c):BOK (a.modify j fun b => { b with key:=k,val:=v }) c:=by{
 have e:(a.modify j fun b => { b with key:=k,val:=v }).toList.map (·.born)=a.toList.map (·.born):=by
  apply List.ext_getElem?
  intro m
  rw[List.getElem?_map,List.getElem?_map,Array.getElem?_toList,Array.getElem?_toList,Array.getElem?_modify]
  by_cases d:j=m
  rw[if_pos d];cases a[m]? <;> rfl
  rw[if_neg d]
 refine⟨fun b g=>?_,by rw[e];exact f.2⟩;have:b.born∈a.toList.map (·.born):=by rw[← e];exact List.mem_map_of_mem g
 obtain⟨h,i,l⟩:=List.mem_map.1 this;rw[← l];exact f.1 h i}
theorem BOK.erase{a:Array MapEntry}{c j:Nat}(b:BOK a c):BOK (a.eraseIdxIfInBounds j) c:=by{
 by_cases d:j<a.size;have e:=zkX d;refine⟨fun g f=>b.1 g ?_,?_⟩;rw[e]at f;exact List.mem_of_mem_eraseIdx f;rw[e];exact b.2.sublist ((List.eraseIdx_sublist ..).map _);have:a.eraseIdxIfInBounds j=a:=by unfold Array.eraseIdxIfInBounds;rw[dif_neg d]
 rw[this];exact b}
def obSB{κ α:Type}[Mk κ][Cel α](mb:Nat)(l:List (κ×α)):Ob where
 P f A w:=f=[mb]∧∃es clk,w.heap[mb]?=some (.map es clk)∧es.toList.map (fun e=>(e.key,e.val))=l.map encE∧(l.map (·.1)).Nodup∧BOK es clk
 keep h he hb:=by
  obtain⟨rfl,es,clk,h1,h2⟩:=h
  exact⟨rfl,es,clk,by rw[hb mb (by simp)];exact h1,h2⟩
 lt h b' hb':=by
  obtain⟨rfl,es,clk,h1,_⟩:=h
  simp at hb'
  subst hb'
  exact (Array.getElem?_eq_some_iff.1 h1).1
def obRB{κ α:Type}[Mk κ][GoT α](mb:Nat)(l:List (κ×α)):Ob where
 P f A w:=f=[mb]∧∃es clk,w.heap[mb]?=some (.map es clk)∧es.size=l.length∧(∀(j:Nat) (e:MapEntry) (p:κ×α),es[j]?=some e→l[j]?=some p→ReE A w e p)∧(l.map (·.1)).Nodup∧BOK es clk
 keep h he hb:=by
  obtain⟨rfl,es,clk,h1,h2,h3,h4⟩:=h
  exact⟨rfl,es,clk,by rw[hb mb (by simp)];exact h1,h2,fun j e p h5 h6=>(h3 j e p h5 h6).keep he,h4⟩
 lt h b' hb':=by
  obtain⟨rfl,es,clk,h1,_⟩:=h
  simp at hb'
  subst hb'
  exact (Array.getElem?_eq_some_iff.1 h1).1
theorem obSB.to{κ α:Type}[Mk κ][Cel α]{mb:Nat}{l:List (κ×α)}{f:List Nat}{A:Nat→Prop}{w:World}(h:(obSB mb l).P f A w):(obSM mb l).P f A w:=by{obtain⟨b,c,a,d,e,g,_⟩:=h;exact⟨b,c,a,d,e,g⟩}
theorem obRB.to{κ α:Type}[Mk κ][GoT α]{mb:Nat}{l:List (κ×α)}{f:List Nat}{A:Nat→Prop}{w:World}(i:(obRB mb l).P f A w):(obRM mb l).P f A w:=by{obtain⟨b,c,a,d,e,g,h,_⟩:=i;exact⟨b,c,a,d,e,g,h⟩}
section steps
variable{P:Program}{n:Fr}{ops:Array Oper}{Q:Exit→Act→World→Prop}{E:Env}{w:World}{rest:List Oper}{u:Value}{d:Nat}
variable{ty t kt et:TypeId}{pos:String}{af:Array Edge}{x y z:Operand}{A:Nat→Prop}{κ:Type}[DecidableEq κ][Mk κ]{B:Nat}{L:List Ob}{i mb:Nat}{k:κ}
theorem zot(κ α:Type)[Mk κ][Cel α](h:Hp B A w L)(hB:B≤w.heap.size)(a:∀c,w.heap.size≤c→A c)(i:Nat.blt d n.sz=true)(e:∀mb b f,Hp B f b (obSB (κ:=κ) (α:=α) mb []::L)→Tr Dw B A w f b→V P n ops Q rest ((d,.map (some mb))::E) b):
  V P n ops Q (⟨some d,.makeMap t none,ty,pos,af,none⟩::rest) E w :=
 V_y (w':=w.alloc (.map #[] 0)) (v := .map (some w.heap.size)) (fun j a=>by simp only[execOp];rfl) rfl rfl i
  (e _ _ _ (h.new (zaH (Dw:=Dw) B _ a) hB ⟨rfl,#[],0,heap_alloc_new w _,rfl,List.nodup_nil,.nil⟩ fun c g=>by simp at g;subst g;exact⟨Nat.le_refl _,fun e=>e.2 rfl⟩) ((zaH B _ a).tr hB))
theorem zor(κ α:Type)[Mk κ][GoT α](h:Hp B A w L)(hB:B≤w.heap.size)(a:∀c,w.heap.size≤c→A c)(i:Nat.blt d n.sz=true)(e:∀mb b f,Hp B f b (obRB (κ:=κ) (α:=α) mb []::L)→Tr Dw B A w f b→V P n ops Q rest ((d,.map (some mb))::E) b):
  V P n ops Q (⟨some d,.makeMap t none,ty,pos,af,none⟩::rest) E w :=
 V_y (w':=w.alloc (.map #[] 0)) (v := .map (some w.heap.size)) (fun l a=>by simp only[execOp];rfl) rfl rfl i
  (e _ _ _ (h.new (zaH (Dw:=Dw) B _ a) hB ⟨rfl,#[],0,heap_alloc_new w _,rfl,fun m o p k j=>by simp at j,List.nodup_nil,.nil⟩ fun c g=>by simp at g;subst g;exact⟨Nat.le_refl _,fun e=>e.2 rfl⟩) ((zaH B _ a).tr hB))
theorem zmH{α:Type}[Cel α]{l:List (κ×α)}{c:α}(b7:Hp B A w L)(hi:L[i]?=some (obSB mb l))(a1:P.underlying t=some (.map kt et))(d:P.underlying kt=some (Mk.dsc κ))(a2:ev E x=some (.map (some mb)))(a3:ev E y=some (Mk.enc k))(a4:ev E z=some (Cel.enc c))(hB:B≤w.heap.size)(b8:∀U,w.heap.size≤U→A U)(g:∀O,Hp B A O (L.set i (obSB mb (QH l k c)))→Tr Dw B A w A O→V P n ops Q rest E O):
  V P n ops Q (⟨none,.mapUpdate t x y z,ty,pos,af,none⟩::rest) E w:=by{
 obtain⟨c6,⟨rfl,j,J,o,r,R,a5⟩,F,b3⟩:=b7.at hi
 have b5:∀a∈j.toList,MapKept.IsKey (Mk.dsc κ) a.key:=fun a S=>by
  obtain⟨b,_,e,_⟩:=zkc r a S
  rw[e]
  exact Mk.isK _
 have D:MapKept.IsKey (Mk.dsc κ) (Mk.enc k):=Mk.isK _;have c4:mb<w.heap.size:=(Array.getElem?_eq_some_iff.1 o).1
 have K:∀W,Mv Dw B A w A { w with heap:=w.heap.setIfInBounds mb W } (some mb):=fun W =>
  ⟨rfl,rfl,rfl,by simp,fun _=>Nat.le_refl _,fun k d M=>by
   show (w.heap.setIfInBounds mb W)[k]?=w.heap[k]?
   exact (MapKept.heap_set o).2 k fun a=>M (by rw[a]),fun k d=>by cases d;exact⟨(F mb (by simp)).1,(F mb (by simp)).2.2⟩,fun _ g=>g,fun _ _ g=>g,fun G p=>b8 G (by simpa using p)⟩
 have Z:∀q v s,q.toList.map (fun a=>(a.key,a.val))=List.map (encE (κ:=κ) (α:=α)) s→(s.map (·.1)).Nodup→BOK q v→Hp B A { w with heap:=w.heap.setIfInBounds mb (.map q v) } (L.set i (obSB mb s)):=fun q v s b9 c0 c1 =>
  b3 A _ (some mb) (obSB mb s) [mb] (K _) (fun k d=>by cases d;simp) ⟨rfl,q,v,(MapKept.heap_set o).1,b9,c0,c1⟩ fun G p=>⟨.inl p,(F G p).1,(F G p).2.2⟩
 rcases MapKept.findNow_spec D j.toList 0 b5 with ⟨T,H⟩|⟨I,a,T,H,a6⟩
 have X:∀b∈l,b.1≠k:=fun b e b6=>by
  have:encE b∈j.toList.map (fun a=>(a.key,a.val)):=by rw[r];exact List.mem_map_of_mem e
  obtain⟨a,S,u⟩:=List.mem_map.1 this
  simp only[encE,Prod.mk.injEq]at u
  exact H a S (by rw[u.1,b6])
 rw[zkR X]at g;refine V_s (w' := { w with heap:=w.heap.setIfInBounds mb (.map (j.push { key:=Mk.enc k,val:=Cel.enc c,born:=J }) (J+1)) }) (fun b2 h=>?_) rfl rfl (g _ (Z _ _ _ ?_ ?_ a5.push) ((K _).tr hB));simp only[execOp,h.eval a2,h.eval a3,h.eval a4,Instr.mapUpdate];simp[run_underlying a1,MapKept.run_getObj_map o,MapKept.run_checkKey d D,MapKept.run_findKey d T,MapKept.run_setObj_map _ o,Result.andThen];rw[Array.toList_push,List.map_append,List.map_append,r];rfl;rw[List.map_append,List.nodup_append];refine⟨R,by simp,?_⟩;intro b2 c2 U a0;obtain⟨b,e,rfl⟩:=List.mem_map.1 c2;simp at a0;subst a0;exact X b e;obtain⟨b,e,a7,c5⟩:=zpC r H;rw[a7]at a6;obtain rfl:=Mk.inj _ _ a6;have a8:j[I]?=some a:=by rw[← Array.getElem?_toList];exact H
 have b4:QH l b.1 c=l.map (fun f=>if f.1=b.1 then (b.1,c) else f):=by
  unfold QH
  rw[if_pos ⟨b,List.mem_of_getElem? e,rfl⟩]
 rw[b4]at g;refine V_s (w' := { w with heap:=w.heap.setIfInBounds mb (.map (j.modify I fun a => { a with key:=Mk.enc b.1,val:=Cel.enc c }) J) }) (fun b2 h=>?_) rfl rfl (g _ (Z _ _ _ ?_ ?_ a5.mod) ((K _).tr hB));simp only[execOp,h.eval a2,h.eval a3,h.eval a4,Instr.mapUpdate];simp[run_underlying a1,MapKept.run_getObj_map o,MapKept.run_checkKey d D,MapKept.run_findKey d T,MapKept.run_setObj_map _ o,MapKept.run_keyThatStays D,a8,a7,Result.andThen];apply List.ext_getElem?;intro m;rw[List.getElem?_map,List.getElem?_map,List.getElem?_map,Array.getElem?_toList,Array.getElem?_modify];have a9:(j.toList.map (fun a=>(a.key,a.val)))[m]?=(l.map encE)[m]?:=by rw[r]
 rw[List.getElem?_map,List.getElem?_map,Array.getElem?_toList]at a9;by_cases N:I=m;subst N;rw[if_pos rfl,a8,e];simp[encE];rw[if_neg N,a9];cases hlm:l[m]? with
 | none=>rfl
 | some f =>
  have M:f.1≠b.1:=fun c3=>by
   have b0:(l.map (·.1))[m]?=some b.1:=by rw[List.getElem?_map,hlm];simp[c3]
   have b1:(l.map (·.1))[I]?=some b.1:=by rw[List.getElem?_map,e];rfl
   have l1:=(List.getElem?_eq_some_iff.1 b0).1
   have l2:=(List.getElem?_eq_some_iff.1 b1).1
   exact N ((List.getElem?_inj l2 R).1 (b1.trans b0.symm))
  simp[M]
 have:(l.map (fun f=>if f.1=b.1 then (b.1,c) else f)).map (·.1)=l.map (·.1):=by
  rw[List.map_map]
  apply List.map_congr_left
  intro f _
  by_cases u:f.1=b.1
  simp[u]
  simp[u]
 rw[this];exact R}
theorem zsL{α:Type}[GoT α]{l:List (κ×α)}{c:α}{cs:Array Value}(a9:Hp B A w L)(hi:L[i]?=some (obRB mb l))(Z:P.underlying t=some (.map kt et))(f:P.underlying kt=some (Mk.dsc κ))(a0:GoT.rep A w cs.toList c)(hB:B≤w.heap.size)(b0:∀R,w.heap.size≤R→A R):
  ∃K,(Instr.mapUpdate t (.map (some mb)) (Mk.enc k) (.agg cs)).run P w=.ok () K∧Hp B A K (L.set i (obRB mb (QH l k c)))∧Tr Dw B A w A K:=by{
 obtain⟨c2,⟨rfl,u,H,o,p,v,M,a1⟩,F,a5⟩:=a9.at hi;have a6:=zoU p v;have z:MapKept.IsKey (Mk.dsc κ) (Mk.enc k):=Mk.isK _
 have D:∀h,Mv Dw B A w A { w with heap:=w.heap.setIfInBounds mb h } (some mb):=fun h =>
  ⟨rfl,rfl,rfl,by simp,fun _=>Nat.le_refl _,fun k f I=>by
   show (w.heap.setIfInBounds mb h)[k]?=w.heap[k]?
   exact (MapKept.heap_set o).2 k fun d=>I (by rw[d]),fun k f=>by cases f;exact⟨(F mb (by simp)).1,(F mb (by simp)).2.2⟩,fun _ S=>S,fun _ _ S=>S,fun G r=>b0 G (by simpa using r)⟩
 have a7:∀h,Ex A w A { w with heap:=w.heap.setIfInBounds mb h }:=fun h=>((D h).tr hB).ex
 have U:∀n y q,n.size=q.length→(∀(g:Nat) (d:MapEntry) (a:κ×α),n[g]?=some d→q[g]?=some a→ReE A w d a)→(q.map (·.1)).Nodup→BOK n y→Hp B A { w with heap:=w.heap.setIfInBounds mb (.map n y) } (L.set i (obRB mb q)):=fun n y q b1 b2 b3 b4 =>
  a5 A _ (some mb) (obRB mb q) [mb] (D _) (fun k f=>by cases f;simp) ⟨rfl,n,y,(MapKept.heap_set o).1,b1,fun g d a b5 b6=>(b2 g d a b5 b6).keep (a7 _),b3,b4⟩ fun G r=>⟨.inl r,(F G r).1,(F G r).2.2⟩
 rcases MapKept.findNow_spec z u.toList 0 a6 with ⟨N,O⟩|⟨g,d,N,O,a2⟩;have T:=zrG p v O;rw[zkR T];refine⟨{ w with heap:=w.heap.setIfInBounds mb (.map (u.push { key:=Mk.enc k,val := .agg cs,born:=H }) (H+1)) },?_,U _ _ _ ?_ ?_ ?_ a1.push,(D _).tr hB⟩;simp only[Instr.mapUpdate];simp[run_underlying Z,MapKept.run_getObj_map o,MapKept.run_checkKey f z,MapKept.run_findKey f N,MapKept.run_setObj_map _ o,Result.andThen];simp[p];intro m d a e b;rcases Nat.lt_or_ge m u.size with Q|Q;rw[Array.getElem?_push_lt Q]at e;rw[List.getElem?_append_left (by omega)]at b;exact v m d a (by rw[Array.getElem?_eq_getElem Q];exact e) b
 have a8:m=u.size:=by
  have:=(List.getElem?_eq_some_iff.1 b).1
  rw[List.length_append,List.length_singleton]at this
  omega
 subst a8;rw[Array.getElem?_push_size]at e;rw[p,List.getElem?_append_right (Nat.le_refl _),Nat.sub_self]at b;cases e;cases b;exact⟨rfl,cs,rfl,a0⟩;rw[List.map_append,List.nodup_append];refine⟨M,by simp,?_⟩;intro c3 b7 R W;obtain⟨a,b,rfl⟩:=List.mem_map.1 b7;simp at W;subst W;exact T a b;have E:=O;rw[Array.getElem?_toList]at E;obtain⟨a,b,a3,_⟩:=zmR p v E;rw[a3]at a2;obtain rfl:=Mk.inj _ _ a2;rw[zsM (List.mem_of_getElem? b)];refine⟨{ w with heap:=w.heap.setIfInBounds mb (.map (u.modify g fun d => { d with key:=Mk.enc a.1,val := .agg cs }) H) },?_,U _ _ _ ?_ ?_ ?_ a1.mod,(D _).tr hB⟩;simp only[Instr.mapUpdate];simp[run_underlying Z,MapKept.run_getObj_map o,MapKept.run_checkKey f z,MapKept.run_findKey f N,MapKept.run_setObj_map _ o,MapKept.run_keyThatStays z,E,a3,Result.andThen];simp[p];intro m b8 c1 e s;rw[Array.getElem?_modify]at e;rw[List.getElem?_map]at s;by_cases J:g=m;subst J;rw[if_pos rfl,E]at e;rw[b]at s;cases e;simp at s;subst s;exact⟨rfl,cs,rfl,a0⟩;rw[if_neg J]at e;obtain⟨j,x,X⟩:=Option.map_eq_some_iff.1 s
 have I:j.1≠a.1:=fun b9=>by
  have c0:(l.map (·.1))[m]?=some a.1:=by rw[List.getElem?_map,x];simp[b9]
  have a4:(l.map (·.1))[g]?=some a.1:=by rw[List.getElem?_map,b];rfl
  have l2:=(List.getElem?_eq_some_iff.1 a4).1
  exact J ((List.getElem?_inj l2 M).1 (a4.trans c0.symm))
 rw[if_neg I]at X;subst X;exact v m b8 j e x
 have:(l.map (fun j=>if j.1=a.1 then (a.1,c) else j)).map (·.1)=l.map (·.1):=by
  rw[List.map_map]
  apply List.map_congr_left
  intro j _
  by_cases x:j.1=a.1
  simp[x]
  simp[x]
 rw[this];exact M}
theorem zpn{α:Type}[Cel α]{l:List (κ×α)}{I a1:TypeId}(a5:Hp B A w L)(hi:L[i]?=some (obSB mb l))(N:P.underlying I=some (.map kt et))(b:P.underlying kt=some (Mk.dsc κ))(O:ev E x=some (.map (some mb)))(R:ev E y=some (Mk.enc k))(hB:B≤w.heap.size)(a6:∀W,w.heap.size≤W→A W)(c:∀D,Hp B A D (L.set i (obSB mb (zam l k)))→Tr Dw B A w A D→V P n ops Q rest E D):
  V P n ops Q (⟨none,.call ⟨.builtin .delete,#[x,y],#[I,a1]⟩,ty,pos,af,none⟩::rest) E w:=by{
 obtain⟨b4,⟨rfl,d,J,e,m,r,S⟩,s,Z⟩:=a5.at hi
 have a2:∀a∈d.toList,MapKept.IsKey (Mk.dsc κ) a.key:=fun a F=>by
  obtain⟨p,_,f,_⟩:=zkc m a F
  rw[f]
  exact Mk.isK _
 have v:MapKept.IsKey (Mk.dsc κ) (Mk.enc k):=Mk.isK _
 have z:∀H,Mv Dw B A w A { w with heap:=w.heap.setIfInBounds mb H } (some mb):=fun H =>
  ⟨rfl,rfl,rfl,by simp,fun _=>Nat.le_refl _,fun k b a3=>by
   show (w.heap.setIfInBounds mb H)[k]?=w.heap[k]?
   exact (MapKept.heap_set e).2 k fun a=>a3 (by rw[a]),fun k b=>by cases b;exact⟨(s mb (by simp)).1,(s mb (by simp)).2.2⟩,fun _ c=>c,fun _ _ c=>c,fun t g=>a6 t (by simpa using g)⟩
 have K:∀h q o,h.toList.map (fun a=>(a.key,a.val))=List.map (encE (κ:=κ) (α:=α)) o→(o.map (·.1)).Nodup→BOK h q→Hp B A { w with heap:=w.heap.setIfInBounds mb (.map h q) } (L.set i (obSB mb o)):=fun h q o a7 a8 a9 =>
  Z A _ (some mb) (obSB mb o) [mb] (z _) (fun k b=>by cases b;simp) ⟨rfl,h,q,(MapKept.heap_set e).1,a7,a8,a9⟩ fun t g=>⟨.inl g,(s t g).1,(s t g).2.2⟩
 rcases MapKept.findNow_spec v d.toList 0 a2 with ⟨G,u⟩|⟨X,a,G,u,T⟩
 have a0:∀p∈l,p.1≠k:=fun p f a4=>by
  have:encE p∈d.toList.map (fun a=>(a.key,a.val)):=by rw[m];exact List.mem_map_of_mem f
  obtain⟨a,F,U⟩:=List.mem_map.1 this
  simp only[encE,Prod.mk.injEq]at U
  exact u a F (by rw[U.1,a4])
 rw[zmW a0]at c;refine V_yd (w' := { w with heap:=w.heap.setIfInBounds mb (.map d J) }) (v := .tuple #[]) (fun b2 j=>?_) rfl rfl (c _ (K _ _ _ m r S) ((z _).tr hB));simp only[execOp];simp[resolve,invoke,builtin,j.eval O,j.eval R,Builtin.delete_,run_underlying N,MapKept.run_getObj_map e,MapKept.run_checkKey b v,MapKept.run_findKey b G,MapKept.run_setObj_map _ e,Result.andThen];obtain⟨p,f,b0,b3⟩:=zpC m u;rw[b0]at T;obtain rfl:=Mk.inj _ _ T;rw[zna r f]at c;have M:=u;rw[Array.getElem?_toList]at M;have b1:X<d.size:=(Array.getElem?_eq_some_iff.1 M).1;refine V_yd (w' := { w with heap:=w.heap.setIfInBounds mb (.map (d.eraseIdxIfInBounds X) J) }) (v := .tuple #[]) (fun b2 j=>?_) rfl rfl (c _ (K _ _ _ ?_ ?_ S.erase) ((z _).tr hB));simp only[execOp];simp[resolve,invoke,builtin,j.eval O,j.eval R,Builtin.delete_,run_underlying N,MapKept.run_getObj_map e,MapKept.run_checkKey b v,MapKept.run_findKey b G,MapKept.run_setObj_map _ e,Result.andThen];rw[zkX b1,zjx,zjx,m];rw[← zna r f];exact zqr r}
end steps
def obQu{κ α:Type}[DecidableEq κ](F:List (κ×α)→Ob)(l:List (κ×α)):Ob where
 P f A w:=∃m,Mq m l∧(F m).P f A w
 keep h he hb:=by obtain⟨m,h1,h2⟩:=h;exact⟨m,h1,(F m).keep h2 he hb⟩
 lt h b' hb':=by obtain⟨m,h1,h2⟩:=h;exact (F m).lt h2 b' hb'
def zU{κ α:Type}[DecidableEq κ][Mk κ][Cel α](mb:Nat)(l:List (κ×α)):Ob:=obQu (obSB mb) l
def zy{κ α:Type}[DecidableEq κ][Mk κ][GoT α](mb:Nat)(l:List (κ×α)):Ob:=obQu (obRB mb) l
section
variable{κ α:Type}[DecidableEq κ]{F:List (κ×α)→Ob}{B:Nat}{A:Nat→Prop}{w:World}{L:List Ob}{i:Nat}{l m:List (κ×α)}
theorem zcD{L:List Ob}{i:Nat}{a O':Ob}(hi:L[i]?=some a):(L.set i O')[i]?=some O':=by{have:=(List.getElem?_eq_some_iff.1 hi).1;rw[List.getElem?_set_self this]}
theorem Hp.qo(b:Hp B A w L)(hi:L[i]?=some (obQu F l)):∃m,Mq m l∧Hp B A w (L.set i (F m)):=b.exAt (ι:=List (κ×α)) (C:=fun m=>Mq m l) (F:=F) hi fun c a=>a
theorem Hp.qc(c:Hp B A w (L.set i (F m)))(hi:(L.set i (F m))[i]?=some (F m))(a:Mq m l):Hp B A w (L.set i (obQu F l)):=by{have:=c.weakAt (O':=obQu F l) hi fun d b=>⟨m,a,b⟩;rwa[List.set_set]at this}
end
section steps
variable{P:Program}{n:Fr}{ops:Array Oper}{Q:Exit→Act→World→Prop}{E:Env}{w:World}{rest:List Oper}{u:Value}{d:Nat}
variable{ty t kt et:TypeId}{pos:String}{af:Array Edge}{x y z:Operand}{A:Nat→Prop}{κ α:Type}[DecidableEq κ][Mk κ]{B:Nat}{L:List Ob}{i mb:Nat}{l:List (κ×α)}{k:κ}
theorem zhz(κ α:Type)[DecidableEq κ][Mk κ][Cel α](e:Hp B A w L)(hB:B≤w.heap.size)(f:∀c,w.heap.size≤c→A c)(g:Nat.blt d n.sz=true)(j:∀mb a b,Hp B b a (zU (κ:=κ) (α:=α) mb []::L)→Tr Dw B A w b a→V P n ops Q rest ((d,.map (some mb))::E) a):
  V P n ops Q (⟨some d,.makeMap t none,ty,pos,af,none⟩::rest) E w :=
 zot (Dw:=Dw) κ α e hB f g fun mb a b h i=>j mb a b (Hp.qc (F:=obSB (κ:=κ) (α:=α) mb) (i:=0) (L:=obSB (κ:=κ) (α:=α) mb []::L) (m := []) h rfl fun _=>rfl) i
theorem zhK(κ α:Type)[DecidableEq κ][Mk κ][GoT α](e:Hp B A w L)(hB:B≤w.heap.size)(f:∀c,w.heap.size≤c→A c)(g:Nat.blt d n.sz=true)(j:∀mb a b,Hp B b a (zy (κ:=κ) (α:=α) mb []::L)→Tr Dw B A w b a→V P n ops Q rest ((d,.map (some mb))::E) a):
  V P n ops Q (⟨some d,.makeMap t none,ty,pos,af,none⟩::rest) E w :=
 zor (Dw:=Dw) κ α e hB f g fun mb a b h i=>j mb a b (Hp.qc (F:=obRB (κ:=κ) (α:=α) mb) (i:=0) (L:=obRB (κ:=κ) (α:=α) mb []::L) (m := []) h rfl fun _=>rfl) i
theorem zgi[Cel α]{z:α}{a:Value}(c:Hp B A w L)(hi:L[i]?=some (zU mb l))(e:P.underlying t=some (.map kt et))(f:P.underlying kt=some (Mk.dsc κ))(g:∀w,(zeroValue et).run P w=.ok a w)(b:a=Cel.enc z)(h:ev E x=some (.map (some mb)))(j:ev E y=some (Mk.enc k)):Y P n E ⟨some d,.lookup t x y false,ty,pos,af,none⟩ w (Cel.enc ((zu l k).getD z)) w:=by{obtain⟨m,o,p⟩:=c.qo hi;have r:=Hp.weakAt (O':=obSM mb m) p (zcD hi) fun s q=>obSB.to q;have:=zqm (P:=P) (n:=n) (E:=E) (d:=d) (ty:=ty) (pos:=pos) (af:=af) (z:=z) (k:=k) r (zcD (zcD hi)) e f g b h j;rwa[o k]at this}
theorem zfR[Cel α]{c:α}(e:Hp B A w L)(hi:L[i]?=some (zU mb l))(f:P.underlying t=some (.map kt et))(g:P.underlying kt=some (Mk.dsc κ))(h:ev E x=some (.map (some mb)))(j:ev E y=some (Mk.enc k))(o:ev E z=some (Cel.enc c))(hB:B≤w.heap.size)(p:∀d,w.heap.size≤d→A d)(u:∀a,Hp B A a (L.set i (zU mb (QH l k c)))→Tr Dw B A w A a→V P n ops Q rest E a):
  V P n ops Q (⟨none,.mapUpdate t x y z,ty,pos,af,none⟩::rest) E w:=by{obtain⟨m,q,r⟩:=e.qo hi;refine zmH (Dw:=Dw) (k:=k) (c:=c) r (zcD hi) f g h j o hB p fun a b s=>u a ?_ s;rw[List.set_set]at b;exact Hp.qc (F:=obSB mb) b (zcD hi) q.put}
theorem zfV[GoT α]{c:α}{cs:Array Value}(f:Hp B A w L)(hi:L[i]?=some (zy mb l))(g:P.underlying t=some (.map kt et))(h:P.underlying kt=some (Mk.dsc κ))(j:ev E x=some (.map (some mb)))(o:ev E y=some (Mk.enc k))(p:ev E z=some (.agg cs))(q:GoT.rep A w cs.toList c)(hB:B≤w.heap.size)(r:∀e,w.heap.size≤e→A e)(F:∀a,Hp B A a (L.set i (zy mb (QH l k c)))→Tr Dw B A w A a→V P n ops Q rest E a):
  V P n ops Q (⟨none,.mapUpdate t x y z,ty,pos,af,none⟩::rest) E w:=by{obtain⟨m,s,u⟩:=f.qo hi;obtain⟨a,v,d,D⟩:=zsL (Dw:=Dw) (k:=k) (c:=c) u (zcD hi) g h q hB r;rw[List.set_set]at d;refine V_s (w':=a) (fun G b=>?_) rfl rfl (F a (Hp.qc (F:=obRB mb) d (zcD hi) s.put) D);simp only[execOp,b.eval j,b.eval o,b.eval p];simp[v,Result.andThen]}
theorem zpy[Cel α]{b e:TypeId}(f:Hp B A w L)(hi:L[i]?=some (zU mb l))(g:P.underlying b=some (.map kt et))(h:P.underlying kt=some (Mk.dsc κ))(j:ev E x=some (.map (some mb)))(o:ev E y=some (Mk.enc k))(hB:B≤w.heap.size)(p:∀d,w.heap.size≤d→A d)(t:∀a,Hp B A a (L.set i (zU mb (zam l k)))→Tr Dw B A w A a→V P n ops Q rest E a):
  V P n ops Q (⟨none,.call ⟨.builtin .delete,#[x,y],#[b,e]⟩,ty,pos,af,none⟩::rest) E w:=by{obtain⟨m,q,r⟩:=f.qo hi;refine zpn (Dw:=Dw) (k:=k) r (zcD hi) g h j o hB p fun a c s=>t a ?_ s;rw[List.set_set]at c;exact Hp.qc (F:=obSB mb) c (zcD hi) q.del}
theorem zpe[GoT α]{z:α}{zc:Array Value}(d:Hp B A w L)(hi:L[i]?=some (zy mb l))(k:κ)(e:P.underlying t=some (.map kt et))(f:P.underlying kt=some (Mk.dsc κ))(g:∀w,(zeroValue et).run P w=.ok (.agg zc) w)(c:GoT.rep A w zc.toList z):
  ∃a:Array Value,GoT.rep A w a.toList ((zu l k).getD z)∧∀{E:Env} {x y:Operand} {ρd:Option Nat} {gd:Option (Nat×Bool)} {w':World},Kp Dw w w'→ev E x=some (.map (some mb))→ev E y=some (Mk.enc k)→
   Y P n E ⟨ρd,.lookup t x y false,ty,pos,af,gd⟩ w' (.agg a) w':=by{obtain⟨m,h,j⟩:=d.qo hi;have p:=Hp.weakAt (O':=obRM mb m) j (zcD hi) fun r o=>obRB.to o;obtain⟨a,b,q⟩:=zst (Dw:=Dw) (n:=n) (ty:=ty) (pos:=pos) (af:=af) p (zcD (zcD hi)) k e f g c;rw[h k]at b;exact⟨a,b,q⟩}
end steps
end Go.Gw
