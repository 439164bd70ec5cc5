import Derived.Test.YtligccioljhapaaGreatDoorHa
import Derived.Test.YtligccioljhapaaGreatDoorPu
namespace Go.Gw
open Go Go.RowKit Go.Pu
variable{Dw:Prop}
set_option linter.unusedSimpArgs false
set_option linter.unusedVariables false
theorem zlF{cs:Array Value}{l:List Value}(a:cs.toList=l):cs=l.toArray:=by rw[← a]
def obVv{α:Type}[GoT α](b:Nat)(t:TypeId)(x:α):Ob:=obE (fun cs:List Value=>[obC b cs t,obF (fun A w=>GoT.rep A w cs x) (fun h e=>GoT.keep h e)])
section
variable{α:Type}[GoT α]{B b:Nat}{A:Nat→Prop}{w:World}{L:List Ob}{t:TypeId}{x:α}{cs:List Value}
end
def ReE{κ α:Type}[Mk κ][GoT α](A:Nat→Prop)(w:World)(e:MapEntry)(p:κ×α):Prop:=e.key=Mk.enc p.1∧∃cs:Array Value,e.val=.agg cs∧GoT.rep A w cs.toList p.2
theorem ReE.keep{κ α:Type}[Mk κ][GoT α]{A A':Nat→Prop}{w w':World}{e:MapEntry}{p:κ×α}(f:ReE A w e p)(a:Ex A w A' w'):ReE A' w' e p:=by{obtain⟨b,cs,c,d⟩:=f;exact⟨b,cs,c,GoT.keep d a⟩}
def obRM{κ α:Type}[Mk κ][GoT α](mb:Nat)(l:List (κ×α)):Ob where
 P f A w:=f=[mb]∧∃es clk,w.heap[mb]?=some (.map es clk)∧es.size=l.length∧(∀(j:Nat) (e:MapEntry) (p:κ×α),es[j]?=some e→l[j]?=some p→ReE A w e p)∧(l.map (·.1)).Nodup
 keep h he hb:=by
  obtain⟨rfl,es,clk,h1,h2,h3,h4⟩:=h
  exact⟨rfl,es,clk,by rw[hb mb (by simp)];exact h1,h2,fun j e p h5 h6=>(h3 j e p h5 h6).keep he,h4⟩
 lt h b' hb':=by
  obtain⟨rfl,es,clk,h1,_⟩:=h
  simp at hb'
  subst hb'
  exact (Array.getElem?_eq_some_iff.1 h1).1
section
variable{κ α:Type}[DecidableEq κ][Mk κ][GoT α]{es:Array MapEntry}{l:List (κ×α)}{k:κ}{A:Nat→Prop}{w:World}
omit [DecidableEq κ] in
theorem zhl(d:es.size=l.length)(c:∀(j:Nat) (e:MapEntry) (p:κ×α),es[j]?=some e→l[j]?=some p→ReE A w e p){j:Nat}{e:MapEntry}(a:es[j]?=some e):∃p,l[j]?=some p∧ReE A w e p:=by
 have b:j<l.length:=by have:=(Array.getElem?_eq_some_iff.1 a).1;omega
 exact⟨l[j],List.getElem?_eq_getElem b,c j e _ a (List.getElem?_eq_getElem b)⟩
omit [DecidableEq κ] in
theorem zgk(b:es.size=l.length)(d:∀(j:Nat) (e:MapEntry) (p:κ×α),es[j]?=some e→l[j]?=some p→ReE A w e p):∀e∈es.toList,MapKept.IsKey (Mk.dsc κ) e.key:=by
 intro e c
 obtain⟨j,a⟩:=List.mem_iff_getElem?.1 c
 rw[Array.getElem?_toList]at a
 obtain⟨p,_,hp,_⟩:=zhl b d a
 rw[hp]
 exact Mk.isK _
omit [DecidableEq κ] in
theorem ziE(g:es.size=l.length)(f:∀(j:Nat) (e:MapEntry) (p:κ×α),es[j]?=some e→l[j]?=some p→ReE A w e p)(b:∀e∈es.toList,e.key≠Mk.enc k):∀p∈l,p.1≠k:=by{
 rintro p hp rfl;obtain⟨j,a⟩:=List.mem_iff_getElem?.1 hp;have c:j<es.size:=by have:=(List.getElem?_eq_some_iff.1 a).1;omega
 have d:es[j]?=some es[j]:=Array.getElem?_eq_getElem c;exact b es[j] (by simp) (f j _ p d a).1}
end
section steps
variable{P:Program}{n:Fr}{ops:Array Oper}{Q:Exit→Act→World→Prop}{E:Env}{w:World}{rest:List Oper}{u:Value}{d:Nat}
variable{ty t kt et:TypeId}{pos:String}{af:Array Edge}{x y z:Operand}{A:Nat→Prop}{κ α:Type}[DecidableEq κ][Mk κ][GoT α]{B:Nat}{L:List Ob}{i mb:Nat}{l:List (κ×α)}{k:κ}
omit [DecidableEq κ] in
theorem zkT(κ α:Type)[Mk κ][GoT α](h:Hp B A w L)(hB:B≤w.heap.size)(a:∀b,w.heap.size≤b→A b)(i:Nat.blt d n.sz=true)(e:∀mb c f,Hp B f c (obRM (κ:=κ) (α:=α) mb []::L)→Tr Dw B A w f c→V P n ops Q rest ((d,.map (some mb))::E) c):
  V P n ops Q (⟨some d,.makeMap t none,ty,pos,af,none⟩::rest) E w :=
 V_y (w':=w.alloc (.map #[] 0)) (v := .map (some w.heap.size)) (fun m a=>by simp only[execOp];rfl) rfl rfl i
  (e _ _ _ (h.new (zaT (Dw:=Dw) B _ a) hB ⟨rfl,#[],0,heap_alloc_new w _,rfl,fun o p q l j=>by simp at j,List.nodup_nil⟩ fun b g=>by simp at g;subst g;exact⟨Nat.le_refl _,fun e=>e.2 rfl⟩) ((zaT B _ a).tr hB))
theorem zmU{z:α}{zc:Array Value}(D:Hp B A w L)(hi:L[i]?=some (obRM mb l))(k:κ)(r:P.underlying t=some (.map kt et))(c:P.underlying kt=some (Mk.dsc κ))(F:∀w,(zeroValue et).run P w=.ok (.agg zc) w)(u:GoT.rep A w zc.toList z):
  ∃cs:Array Value,GoT.rep A w cs.toList ((zp l k).getD z)∧∀{E:Env} {x y:Operand} {ρd:Option Nat} {gd:Option (Nat×Bool)} {w':World},Kp Dw w w'→ev E x=some (.map (some mb))→ev E y=some (Mk.enc k)→
   Y P n E ⟨ρd,.lookup t x y false,ty,pos,af,gd⟩ w' (.agg cs) w':=by
 obtain⟨S,⟨rfl,es,Q,f,g,h,G⟩,_,_⟩:=D.at hi
 have v:=zgk g h
 have d:MapKept.IsKey (Mk.dsc κ) (Mk.enc k):=Mk.isK _
 have q:mb<w.heap.size:=(Array.getElem?_eq_some_iff.1 f).1
 rcases MapKept.findNow_spec d es.toList 0 v with ⟨j,b⟩|⟨M,N,j,b,s⟩
 ·have H:zp l k=none:=zcJ (ziE g h b)
  rw[H,Option.getD_none]
  refine⟨zc,u,fun m o p O a=>?_⟩
  have e:=(m.block mb q).trans f
  simp only[execOp,a.eval o,a.eval p,Instr.lookup]
  simp[run_underlying r,MapKept.run_getObj_map e,MapKept.run_checkKey c d,MapKept.run_findKey c j,Result.andThen,F]
 ·rw[Array.getElem?_toList]at b
  obtain⟨T,hp,I,cs,J,K⟩:=zhl g h b
  rw[I]at s
  obtain rfl:=Mk.inj _ _ s
  rw[zcL G (List.mem_of_getElem? hp),Option.getD_some]
  refine⟨cs,K,fun m o p O a=>?_⟩
  have e:=(m.block mb q).trans f
  have R:es.toList[M]?=some N:=by rw[Array.getElem?_toList];exact b
  simp only[execOp,a.eval o,a.eval p,Instr.lookup]
  simp[run_underlying r,MapKept.run_getObj_map e,MapKept.run_checkKey c d,MapKept.run_findKey c j,Result.andThen,J]
omit [Mk κ] [GoT α] in
theorem zni{l:List (κ×α)}{p:κ×α}{c:α}(hp:p∈l):Qt l p.1 c=l.map (fun a=>if a.1=p.1 then (p.1,c) else a):=by{unfold Qt;rw[if_pos ⟨p,hp,rfl⟩]}
theorem znm{c:α}{cs:Array Value}(a6:Hp B A w L)(hi:L[i]?=some (obRM mb l))(W:P.underlying t=some (.map kt et))(f:P.underlying kt=some (Mk.dsc κ))(X:GoT.rep A w cs.toList c)(hB:B≤w.heap.size)(a7:∀b,w.heap.size≤b→A b):
  ∃J,(Instr.mapUpdate t (.map (some mb)) (Mk.enc k) (.agg cs)).run P w=.ok () J∧Hp B A J (L.set i (obRM mb (Qt l k c)))∧Tr Dw B A w A J:=by{
 obtain⟨b8,⟨rfl,es,G,n,o,u,K⟩,D,a2⟩:=a6.at hi;have a3:=zgk o u;have x:MapKept.IsKey (Mk.dsc κ) (Mk.enc k):=Mk.isK _
 have y:∀h,Mv Dw B A w A { w with heap:=w.heap.setIfInBounds mb h } (some mb):=fun h =>
  ⟨rfl,rfl,rfl,by simp,fun _=>Nat.le_refl _,fun k f H=>by
   show (w.heap.setIfInBounds mb h)[k]?=w.heap[k]?
   exact (MapKept.heap_set n).2 k fun d=>H (by rw[d]),fun k f=>by cases f;exact⟨(D mb (by simp)).1,(D mb (by simp)).2.2⟩,fun _ Q=>Q,fun _ _ Q=>Q,fun E q=>a7 E (by simpa using q)⟩
 have a4:∀h,Ex A w A { w with heap:=w.heap.setIfInBounds mb h }:=fun h=>((y h).tr hB).ex
 have S:∀r F p,r.size=p.length→(∀(g:Nat) (d:MapEntry) (a:κ×α),r[g]?=some d→p[g]?=some a→ReE A w d a)→(p.map (·.1)).Nodup→Hp B A { w with heap:=w.heap.setIfInBounds mb (.map r F) } (L.set i (obRM mb p)):=fun r F p a8 a9 b0 =>
  a2 A _ (some mb) (obRM mb p) [mb] (y _) (fun k f=>by cases f;simp) ⟨rfl,r,F,(MapKept.heap_set n).1,a8,fun g d a b1 b2=>(a9 g d a b1 b2).keep (a4 _),b0⟩ fun E q=>⟨.inl q,(D E q).1,(D E q).2.2⟩
 rcases MapKept.findNow_spec x es.toList 0 a3 with ⟨M,N⟩|⟨g,d,M,N,Z⟩;have R:=ziE o u N;rw[zhm R];refine⟨{ w with heap:=w.heap.setIfInBounds mb (.map (es.push { key:=Mk.enc k,val := .agg cs,born:=G }) (G+1)) },?_,S _ _ _ ?_ ?_ ?_,(y _).tr hB⟩;simp only[Instr.mapUpdate];simp[run_underlying W,MapKept.run_getObj_map n,MapKept.run_checkKey f x,MapKept.run_findKey f M,MapKept.run_setObj_map _ n,Result.andThen];simp[o];intro j d a e hp;rcases Nat.lt_or_ge j es.size with O|O;rw[Array.getElem?_push_lt O]at e;rw[List.getElem?_append_left (by omega)]at hp;exact u j d a (by rw[Array.getElem?_eq_getElem O];exact e) hp
 have a5:j=es.size:=by
  have:=(List.getElem?_eq_some_iff.1 hp).1
  rw[List.length_append,List.length_singleton]at this
  omega
 subst a5;rw[Array.getElem?_push_size]at e;rw[o,List.getElem?_append_right (Nat.le_refl _),Nat.sub_self]at hp;cases e;cases hp;exact⟨rfl,cs,rfl,X⟩;rw[List.map_append,List.nodup_append];refine⟨K,by simp,?_⟩;intro b9 b3 b T;obtain⟨a,hp,rfl⟩:=List.mem_map.1 b3;simp at T;subst T;exact R a hp;have z:=N;rw[Array.getElem?_toList]at z;obtain⟨a,hp,a0,_⟩:=zhl o u z;rw[a0]at Z;obtain rfl:=Mk.inj _ _ Z;rw[zni (List.mem_of_getElem? hp)];refine⟨{ w with heap:=w.heap.setIfInBounds mb (.map (es.modify g fun d => { d with key:=Mk.enc a.1,val := .agg cs }) G) },?_,S _ _ _ ?_ ?_ ?_,(y _).tr hB⟩;simp only[Instr.mapUpdate];simp[run_underlying W,MapKept.run_getObj_map n,MapKept.run_checkKey f x,MapKept.run_findKey f M,MapKept.run_setObj_map _ n,MapKept.run_keyThatStays x,z,a0,Result.andThen];simp[o];intro j b4 b7 e s;rw[Array.getElem?_modify]at e;rw[List.getElem?_map]at s;by_cases I:g=j;subst I;rw[if_pos rfl,z]at e;rw[hp]at s;cases e;simp at s;subst s;exact⟨rfl,cs,rfl,X⟩;rw[if_neg I]at e;obtain⟨m,v,U⟩:=Option.map_eq_some_iff.1 s
 have H:m.1≠a.1:=fun b5=>by
  have b6:(l.map (·.1))[j]?=some a.1:=by rw[List.getElem?_map,v];simp[b5]
  have a1:(l.map (·.1))[g]?=some a.1:=by rw[List.getElem?_map,hp];rfl
  have l2:=(List.getElem?_eq_some_iff.1 a1).1
  exact I ((List.getElem?_inj l2 K).1 (a1.trans b6.symm))
 rw[if_neg H]at U;subst U;exact u j b4 m e v
 have:(l.map (fun m=>if m.1=a.1 then (a.1,c) else m)).map (·.1)=l.map (·.1):=by
  rw[List.map_map]
  apply List.map_congr_left
  intro m _
  by_cases v:m.1=a.1
  simp[v]
  simp[v]
 rw[this];exact K}
theorem zdR{c:α}{cs:Array Value}(e:Hp B A w L)(hi:L[i]?=some (obRM mb l))(f:P.underlying t=some (.map kt et))(g:P.underlying kt=some (Mk.dsc κ))(h:ev E x=some (.map (some mb)))(j:ev E y=some (Mk.enc k))(m:ev E z=some (.agg cs))(o:GoT.rep A w cs.toList c)(hB:B≤w.heap.size)(p:∀b,w.heap.size≤b→A b)(u:∀a,Hp B A a (L.set i (obRM mb (Qt l k c)))→Tr Dw B A w A a→V P n ops Q rest E a):
  V P n ops Q (⟨none,.mapUpdate t x y z,ty,pos,af,none⟩::rest) E w:=by
 obtain⟨a,q,r,s⟩:=znm (Dw:=Dw) (k:=k) e hi f g o hB p
 refine V_s (w':=a) (fun v d=>?_) rfl rfl (u a r s)
 simp only[execOp,d.eval h,d.eval j,d.eval m]
 simp[q,Result.andThen]
omit [Mk κ] [GoT α] in
theorem zgN{l:List (κ×α)}(b:∀a∈l,a.1≠k):ZA l k=l:=by
 unfold ZA
 rw[List.filter_eq_self]
 intro a hp
 simpa using b a hp
omit [Mk κ] [GoT α] in
theorem zfK:∀{l:List (κ×α)} {j:Nat} {p:κ×α},(l.map (·.1)).Nodup→l[j]?=some p→ZA l p.1=l.eraseIdx j
 | [],_,_,_,h=>by simp at h
 | q::l,0,p,hn,h=>by
  rw[List.map_cons,List.nodup_cons]at hn
  cases h
  unfold ZA
  rw[List.filter_cons,if_neg (by simp),List.eraseIdx_zero,List.tail_cons]
  refine zgN fun d c a=>hn.1 ?_
  rw[← a]
  exact List.mem_map_of_mem c
 | q::l,j+1,p,hn,h=>by
  rw[List.map_cons,List.nodup_cons]at hn
  have h':l[j]?=some p:=by simpa using h
  have b:q.1≠p.1:=fun a=>hn.1 (by rw[a];exact List.mem_map_of_mem (List.mem_of_getElem? h'))
  have:=zfK hn.2 h'
  unfold ZA at this ⊢
  rw[List.filter_cons,if_pos (by simpa using b),List.eraseIdx_cons_succ,this]
omit [Mk κ] [GoT α] in
theorem zhY{l:List (κ×α)}(a:(l.map (·.1)).Nodup):((ZA l k).map (·.1)).Nodup:=a.sublist (List.filter_sublist.map _)
theorem zfe{es:Array MapEntry}{j:Nat}(a:j<es.size):(es.eraseIdxIfInBounds j).toList=es.toList.eraseIdx j:=by
 unfold Array.eraseIdxIfInBounds
 rw[dif_pos a]
 simp
omit [DecidableEq κ] [Mk κ] [GoT α] in
theorem V_yd{o:Oper}{v:Value}{w':World}(c:Y P n E o w v w')(e:o.guard=none)(f:o.dst=none)(a:V P n ops Q rest E w'):V P n ops Q (o::rest) E w:=by{intro h b;refine wpListIn_plain e fun i g=>⟨fun _ _=>trivial,?_⟩;rw[je (c h b) (fun d a=>by cases a),Oper.uponIn_value,f];exact g _ _ (a _ b)}
theorem zlI{O a4:TypeId}(a8:Hp B A w L)(hi:L[i]?=some (obRM mb l))(T:P.underlying O=some (.map kt et))(a:P.underlying kt=some (Mk.dsc κ))(U:ev E x=some (.map (some mb)))(W:ev E y=some (Mk.enc k))(hB:B≤w.heap.size)(a9:∀b,w.heap.size≤b→A b)(c:∀J,Hp B A J (L.set i (obRM mb (ZA l k)))→Tr Dw B A w A J→V P n ops Q rest E J):
  V P n ops Q (⟨none,.call ⟨.builtin .delete,#[x,y],#[O,a4]⟩,ty,pos,af,none⟩::rest) E w:=by{
 obtain⟨b7,⟨rfl,es,R,g,r,h,v⟩,z,a2⟩:=a8.at hi;have a5:=zgk r h;have H:MapKept.IsKey (Mk.dsc κ) (Mk.enc k):=Mk.isK _
 have u:∀e,Mv Dw B A w A { w with heap:=w.heap.setIfInBounds mb e } (some mb):=fun e =>
  ⟨rfl,rfl,rfl,by simp,fun _=>Nat.le_refl _,fun k a a6=>by
   show (w.heap.setIfInBounds mb e)[k]?=w.heap[k]?
   exact (MapKept.heap_set g).2 k fun f=>a6 (by rw[f]),fun k a=>by cases a;exact⟨(z mb (by simp)).1,(z mb (by simp)).2.2⟩,fun _ c=>c,fun _ _ c=>c,fun D m=>a9 D (by simpa using m)⟩
 have a7:∀e,Ex A w A { w with heap:=w.heap.setIfInBounds mb e }:=fun e=>((u e).tr hB).ex
 have S:∀o G j,o.size=j.length→(∀(d:Nat) (f:MapEntry) (t:κ×α),o[d]?=some f→j[d]?=some t→ReE A w f t)→(j.map (·.1)).Nodup→Hp B A { w with heap:=w.heap.setIfInBounds mb (.map o G) } (L.set i (obRM mb j)):=fun o G j b0 b1 b2 =>
  a2 A _ (some mb) (obRM mb j) [mb] (u _) (fun k a=>by cases a;simp) ⟨rfl,o,G,(MapKept.heap_set g).1,b0,fun d f t b3 b4=>(b1 d f t b3 b4).keep (a7 _),b2⟩ fun D m=>⟨.inl m,(z D m).1,(z D m).2.2⟩
 rcases MapKept.findNow_spec H es.toList 0 a5 with ⟨K,M⟩|⟨d,f,K,M,X⟩;have a3:=ziE r h M;rw[zgN a3]at c;refine V_yd (w' := { w with heap:=w.heap.setIfInBounds mb (.map es R) }) (v := .tuple #[]) (fun b6 p=>?_) rfl rfl (c _ (S _ _ _ r h v) ((u _).tr hB));simp only[execOp];simp[resolve,invoke,builtin,p.eval U,p.eval W,Builtin.delete_,run_underlying T,MapKept.run_getObj_map g,MapKept.run_checkKey a H,MapKept.run_findKey a K,MapKept.run_setObj_map _ g,Result.andThen];have I:=M;rw[Array.getElem?_toList]at I;obtain⟨t,hp,b5,_⟩:=zhl r h I;rw[b5]at X;obtain rfl:=Mk.inj _ _ X;rw[zfK v hp]at c;have Z:d<es.size:=(Array.getElem?_eq_some_iff.1 I).1;refine V_yd (w' := { w with heap:=w.heap.setIfInBounds mb (.map (es.eraseIdxIfInBounds d) R) }) (v := .tuple #[]) (fun b6 p=>?_) rfl rfl (c _ (S _ _ _ ?_ ?_ ?_) ((u _).tr hB));simp only[execOp];simp[resolve,invoke,builtin,p.eval U,p.eval W,Builtin.delete_,run_underlying T,MapKept.run_getObj_map g,MapKept.run_checkKey a H,MapKept.run_findKey a K,MapKept.run_setObj_map _ g,Result.andThen];rw[← Array.length_toList,zfe Z,List.length_eraseIdx,List.length_eraseIdx,Array.length_toList,r];intro N a0 a1 s q;rw[← Array.getElem?_toList,zfe Z,List.getElem?_eraseIdx]at s;rw[List.getElem?_eraseIdx]at q;by_cases F:N<d;rw[if_pos F,Array.getElem?_toList]at s;rw[if_pos F]at q;exact h N a0 a1 s q;rw[if_neg F,Array.getElem?_toList]at s;rw[if_neg F]at q;exact h (N+1) a0 a1 s q;rw[← zfK v hp];exact zhY v}
theorem zfy{β γ:Type}(f:β→γ):∀(l:List β) (j:Nat),(l.eraseIdx j).map f=(l.map f).eraseIdx j
 | [],_=>rfl
 | x::l,0=>rfl
 | x::l,j+1=>by rw[List.eraseIdx_cons_succ,List.map_cons,List.map_cons,List.eraseIdx_cons_succ,zfy f l j]
theorem zlb{α:Type}[Cel α]{l:List (κ×α)}{H X:TypeId}(a2:Hp B A w L)(hi:L[i]?=some (obSM mb l))(M:P.underlying H=some (.map kt et))(c:P.underlying kt=some (Mk.dsc κ))(N:ev E x=some (.map (some mb)))(O:ev E y=some (Mk.enc k))(hB:B≤w.heap.size)(a3:∀b,w.heap.size≤b→A b)(d:∀z,Hp B A z (L.set i (obSM mb (ZA l k)))→Tr Dw B A w A z→V P n ops Q rest E z):
  V P n ops Q (⟨none,.call ⟨.builtin .delete,#[x,y],#[H,X]⟩,ty,pos,af,none⟩::rest) E w:=by{
 obtain⟨b0,⟨rfl,es,I,e,h,p⟩,q,U⟩:=a2.at hi
 have Z:∀a∈es.toList,MapKept.IsKey (Mk.dsc κ) a.key:=fun a D=>by
  obtain⟨m,_,hp,_⟩:=zhI h a D
  rw[hp]
  exact Mk.isK _
 have u:MapKept.IsKey (Mk.dsc κ) (Mk.enc k):=Mk.isK _
 have v:∀G,Mv Dw B A w A { w with heap:=w.heap.setIfInBounds mb G } (some mb):=fun G =>
  ⟨rfl,rfl,rfl,by simp,fun _=>Nat.le_refl _,fun k c a0=>by
   show (w.heap.setIfInBounds mb G)[k]?=w.heap[k]?
   exact (MapKept.heap_set e).2 k fun a=>a0 (by rw[a]),fun k c=>by cases c;exact⟨(q mb (by simp)).1,(q mb (by simp)).2.2⟩,fun _ d=>d,fun _ _ d=>d,fun r f=>a3 r (by simpa using f)⟩
 have J:∀o t j,o.toList.map (fun a=>(a.key,a.val))=List.map (encE (κ:=κ) (α:=α)) j→(j.map (·.1)).Nodup→Hp B A { w with heap:=w.heap.setIfInBounds mb (.map o t) } (L.set i (obSM mb j)):=fun o t j a4 a5 =>
  U A _ (some mb) (obSM mb j) [mb] (v _) (fun k c=>by cases c;simp) ⟨rfl,o,t,(MapKept.heap_set e).1,a4,a5⟩ fun r f=>⟨.inl f,(q r f).1,(q r f).2.2⟩
 rcases MapKept.findNow_spec u es.toList 0 Z with ⟨F,s⟩|⟨T,a,F,s,R⟩
 have W:∀m∈l,m.1≠k:=fun m hp a1=>by
  have:encE m∈es.toList.map (fun a=>(a.key,a.val)):=by rw[h];exact List.mem_map_of_mem hp
  obtain⟨a,D,S⟩:=List.mem_map.1 this
  simp only[encE,Prod.mk.injEq]at S
  exact s a D (by rw[S.1,a1])
 rw[zgN W]at d;refine V_yd (w' := { w with heap:=w.heap.setIfInBounds mb (.map es I) }) (v := .tuple #[]) (fun a8 g=>?_) rfl rfl (d _ (J _ _ _ h p) ((v _).tr hB));simp only[execOp];simp[resolve,invoke,builtin,g.eval N,g.eval O,Builtin.delete_,run_underlying M,MapKept.run_getObj_map e,MapKept.run_checkKey c u,MapKept.run_findKey c F,MapKept.run_setObj_map _ e,Result.andThen];obtain⟨m,hp,a6,a9⟩:=zkN h s;rw[a6]at R;obtain rfl:=Mk.inj _ _ R;rw[zfK p hp]at d;have K:=s;rw[Array.getElem?_toList]at K;have a7:T<es.size:=(Array.getElem?_eq_some_iff.1 K).1;refine V_yd (w' := { w with heap:=w.heap.setIfInBounds mb (.map (es.eraseIdxIfInBounds T) I) }) (v := .tuple #[]) (fun a8 g=>?_) rfl rfl (d _ (J _ _ _ ?_ ?_) ((v _).tr hB));simp only[execOp];simp[resolve,invoke,builtin,g.eval N,g.eval O,Builtin.delete_,run_underlying M,MapKept.run_getObj_map e,MapKept.run_checkKey c u,MapKept.run_findKey c F,MapKept.run_setObj_map _ e,Result.andThen];rw[zfe a7,zfy,zfy,h];rw[← zfK p hp];exact zhY p}
end steps
end Go.Gw
