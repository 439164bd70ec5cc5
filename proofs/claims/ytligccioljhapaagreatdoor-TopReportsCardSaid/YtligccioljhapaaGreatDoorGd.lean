import Derived.Test.YtligccioljhapaaGreatDoorGa
namespace Go.Gw
open Go Go.RowKit Go.Pu
variable{Dw:Prop}
set_option linter.unusedSimpArgs false
set_option linter.unusedVariables false
theorem Hp.storeAt{P:Program}{B i b off sz:Nat}{A:Nat→Prop}{w:World}{L:List Ob}{cs ds:List Value}{t c:TypeId}{nv:Value}(s:Hp B A w L)(hi:L[i]?=some (obC b cs c))(u:∀w,(Go.sizeOf t).run P w=.ok sz w)(j:nv.cells.size=sz)(z:off+sz≤cs.length)(m:∀x∈nv.cells.toList,x.oneCell'=true)(p:cs.take off++nv.cells.toList++cs.drop (off+sz)=ds)(hB:B≤w.heap.size)(v:∀b,w.heap.size≤b→A b):
  (Instr.storeAt t (.pointer (some ⟨b,off,none⟩)) nv).run P w=.ok () (w.setRow b ds.toArray)∧Hp B A (w.setRow b ds.toArray) (L.set i (obC b ds c))∧Tr Dw B A w A (w.setRow b ds.toArray):=by{
 obtain⟨D,⟨rfl,hp⟩,d,n⟩:=s.at hi;have q:nv.cells.toList.length=sz:=by simpa using j
 have g:=run_storeCells_at P b off c nv.cells.toList 0 cs.toArray w hp (by simp;omega) m;rw[Nat.add_zero]at g
 have o:((cs.toArray.toList.take off++nv.cells.toList++cs.toArray.toList.drop (off+nv.cells.toList.length))).toArray=ds.toArray:=by
  rw[← p,q]
 rw[o]at g
 have l:Mv Dw B A w A (w.setRow b ds.toArray) (some b) :=
  ⟨rfl,rfl,rfl,by simp,fun _=>Nat.le_refl _,fun k e r=>setRow_other w b k _ (fun y=>r (by rw[y])),fun k e=>by cases e;exact⟨(d b (by simp)).1,(d b (by simp)).2.2⟩,fun _ h=>h,fun _ _ h=>h,fun f a=>v f (by simpa using a)⟩
 refine⟨?_,n A _ (some b) _ _ l (fun k e=>by cases e;simp) ⟨rfl,setRow_heap w b cs.toArray _ c _ hp⟩ fun f a=>⟨.inl a,(d f a).1,(d f a).2.2⟩,l.tr hB⟩;simp only[Instr.storeAt,Instr.sureAddr];simp[storeVar,u,j,g]}
section
variable{P:Program}{ops:Array Oper}{md:Region.Mode}{W:World→Prop}
def Flg(ops:Array Oper)(k:Nat)(listed:Array Bool):Prop:=∀t,k≤t→t<ops.size→listed.getD t true=true
theorem Flg.set{k i:Nat}{a:Array Bool}(f:Flg ops k a):Flg ops k (a.setIfInBounds i true):=fun c d e=>by
 by_cases hit:i=c
 ·subst hit
  rcases Nat.lt_or_ge i a.size with b|b
  ·simp[b]
  ·rw[Array.getD_eq_getD_getElem?,Array.getElem?_eq_none (by simpa using b)];rfl
 ·rw[getD_set_ne true hit];exact f c d e
theorem Flg.lt{k j:Nat}{b:Array Bool}(f:Flg ops k b)(d:j∈Region.ready md ops b):j<k:=by{obtain⟨c,g,e,_⟩:=mem_ready.1 d;rcases Nat.lt_or_ge j k with a|a;exact a;rw[f j a (Array.getElem?_eq_some_iff.1 e).1]at c;cases c}
theorem zhH{k i:Nat}{h:Oper}{v:Value}{L:Array Bool→Act→Prop}(hi:ops[i]?=some h)(A:∀(j:Nat) (o:Oper) m p,ops[j]?=some o→o.op≠.select m p)(T:i<k)(G:∀b a,L b a→∀j∈Region.ready md ops b,k≤j):
  ∀(f:Nat) (b:Array Bool) (a:Act),Flg ops k b→
   (∀j e,ops[j]?=some e→j≠i→b.getD j true=false→(∀c∈e.after,Region.binds md c=true→c.on≠i)→h.apart ops e=true)→
   i∈Region.ready md ops b→YieldsIn P ops W h v a→
   zaD P md ops W k L f (b.setIfInBounds i true) (a.put h.dst v)→zaD P md ops W k L (f+1) b a:=by{
 intro f;induction f with
 | zero =>
  intro b a r _ g t q
  refine⟨fun y=>(by rw[y]at g;cases g),fun j l=>?_⟩
  have w:j<k:=r.lt l
  refine⟨w,?_⟩
  by_cases d:j=i
  subst d;exact t.qOp hi q
  have:=G _ _ q j (ready_mono l d)
  omega
 | succ f ih =>
  intro b a r z g t q
  have s:=(mem_ready.1 g).1
  refine⟨fun y=>(by rw[y]at g;cases g),fun j l=>?_⟩
  have w:j<k:=r.lt l
  refine⟨w,?_⟩
  by_cases d:j=i
  subst d;exact t.qOp hi q
  have u:=(q.2 j (ready_mono l d)).2
  obtain⟨B,e,x,H⟩:=mem_ready.1 l
  have I:∀c∈e.after,Region.binds md c=true→c.on≠i:=fun c N O J=>by
   have u:=H c N O
   rw[J,getD_both s]at u
   cases u
  have Q:=qOp_put x (z j e x d B I) (fun m p=>A i h m p hi) (fun m p=>A j e m p x) t u
  have F:∀k n,ops[k]?=some n→k≠i→(b.setIfInBounds j true).getD k true=false→
    (∀c∈n.after,Region.binds md c=true→c.on≠i)→h.apart ops n=true:=fun k n R K s M=>by
   refine z k n R K ?_ M
   by_cases D:j=k
   ·subst D;exact B
   ·rw[getD_set_ne true D]at s;exact s
  refine qOp_mono (fun S E=>ih (b.setIfInBounds j true) S r.set F (ready_mono g (Ne.symm d)) E.1 ?_) Q
  rw[Array.setIfInBounds_comm _ _ d]
  exact E.2}
def zdY(md:Region.Mode)(ops:Array Oper):Nat→Nat→Array Bool→Bool
 | 0,_,listed=>(Region.ready md ops listed).isEmpty
 | f+1,k,listed=>(Region.ready md ops listed).contains k&&Region.free md ops listed k&&zdY md ops f (k+1) (listed.setIfInBounds k true)
theorem zfN{k:Nat}{d:Act→Prop}(f:Region.noSelect ops=true):
  ∀(l:List Oper) (j:Nat) (b:Array Bool) (a:Act),(∀c,c<l.length→l[c]?=ops[j+c]?)→j+l.length=k→Flg ops k b→
  zdY md ops l.length j b=true→wpQuiet P ops W d l a→
  zaD P md ops W k (fun e g=>Region.ready md ops e=[]∧d g) l.length b a
 | [],j,b,a,_,hk,_,hB,h=>⟨by simpa [zdY]using hB,h⟩
 | o::l,j,b,a,hl,hk,inv,hB,h=>by
  have h0:ops[j]?=some o:=by simpa using (hl 0 (by simp)).symm
  simp only[List.length_cons,zdY,Bool.and_eq_true]at hB
  obtain⟨⟨r,s⟩,m⟩:=hB
  have n:j<k:=by simp only[List.length_cons]at hk;omega
  have p:j∈Region.ready md ops b:=by simpa using r
  have q:qOp P ops W j (wpQuiet P ops W d l) a:=by unfold qOp;simp only[h0];exact h
  obtain⟨x,t,u⟩:=yieldsIn_of_qOp h0 q
  exact zhH h0 (Region.noSelect_spec f) n (fun e g v j i=>by rw[v.1]at i;cases i) l.length b a inv (Region.free_spec h0 s) p t
   (zfN f l (j+1) _ _ (fun c w=>by have:=hl (c+1) (by simp;omega);simpa [Nat.add_assoc,Nat.add_comm 1 c]using this) (by simp only[List.length_cons]at hk;omega) inv.set m u)
theorem zeb{k t:Nat}{L:Array Bool→Act→Prop}:∀(f:Nat) (c:Array Bool) (a:Act),zaD P md ops W k L f c a→(∀b j,ops[b]?=some j→b<k→c.getD b true=false→j.dst≠some t)→
  ∃y e,L y e∧e.tmps[t]?=a.tmps[t]?
 | 0,c,a,h,_=>⟨c,a,h,rfl⟩
 | f+1,c,a,h,hd=>by
  obtain⟨b,hi⟩:=List.exists_mem_of_ne_nil _ h.1
  obtain⟨z,l⟩:=h.2 b hi
  obtain⟨A,j,o,_⟩:=mem_ready.1 hi
  unfold qOp at l
  simp only[o]at l
  have v:=hd b j o z A
  have u:∀n,(a.put j.dst n).tmps[t]?=a.tmps[t]?:=fun n=>by
   cases hdst:j.dst with
   | none=>rfl
   | some d =>
    have:d≠t:=fun B=>v (by rw[hdst,B])
    simp[Act.put,Array.getElem?_setIfInBounds_ne this]
  have w:∀g m,ops[g]?=some m→g<k→(c.setIfInBounds b true).getD g true=false→m.dst≠some t:=fun g m p q i=>by
   by_cases x:b=g
   ·subst x;rw[o]at p;cases p;exact v
   ·rw[getD_set_ne true x]at i;exact hd g m p q i
  split at l
  ·obtain⟨n,_,q⟩:=l
   obtain⟨r,e,i,s⟩:=zeb f _ _ q w
   exact⟨r,e,i,s.trans (u n)⟩
  ·obtain⟨r,e,i,s⟩:=zeb f _ _ l w
   exact⟨r,e,i,s.trans (u _)⟩
def StoresAt(P:Program)(ops:Array Oper)(k:Nat):Nat→Nat→List (Nat×TypeId×Value)→List (Nat×Nat)→Prop
 | _,_, [], []=>True
 | ka,s,(d,t,z)::r,(x,h)::xs=>(∃ty pos af,ops[s]?=some ⟨none,.store t (.tmp d) (.tmp x),ty,pos,af,none⟩∧(∃e∈af,Region.binds md e=true∧e.on=h)∧(∃e∈af,Region.binds md e=true∧e.on=ka))∧
   h<k∧(ops[h]?).bind (·.dst)=some x∧(∀w,(Go.sizeOf t).run P w=.ok z.cells.toList.length w)∧StoresAt P ops k (ka+1) (s+1) r xs
 | _,_,_,_=>False
theorem StoresAt.get:∀{als:List (Nat×TypeId×Value)} {xs:List (Nat×Nat)} {k b s j:Nat} {d:Nat} {t:TypeId} {z:Value},StoresAt (md:=md) P ops k b s als xs→als[j]?=some (d,t,z)→∃c a,xs[j]?=some (c,a)∧
  (∃l i f,ops[s+j]?=some ⟨none,.store t (.tmp d) (.tmp c),l,i,f,none⟩∧(∃e∈f,Region.binds md e=true∧e.on=a)∧(∃e∈f,Region.binds md e=true∧e.on=b+j))∧
   a<k∧(ops[a]?).bind (·.dst)=some c∧(∀h,(Go.sizeOf t).run P h=.ok z.cells.toList.length h)
 | [],_,_,_,_,_,_,_,_,_,a=>by simp at a
 | _::_, [],_,_,_,_,_,_,_,hs,_=>hs.elim
 | (d0,t0,z0)::r,(x0,h0)::xs,k,b,s,0,d,t,z,hs,a=>by simp at a;obtain⟨rfl,rfl,rfl⟩:=a;exact⟨x0,h0,rfl,hs.1,hs.2.1,hs.2.2.1,hs.2.2.2.1⟩
 | (d0,t0,z0)::r,(x0,h0)::xs,k,b,s,j+1,d,t,z,hs,a=>by
  obtain⟨c,m,n,g,o⟩:=StoresAt.get hs.2.2.2.2 (j:=j) (by simpa using a)
  rw[show s+1+j=s+(j+1) by omega,show b+1+j=b+(j+1) by omega]at g
  exact⟨c,m,by simpa using n,g,o⟩
def obSt(als:List (Nat×TypeId×Value))(vs:List Value)(dn:List Nat)(j b:Nat):List Ob:=match als[j]?,vs[j]? with|some (_,t,z),some v=>[obC b (if j∈dn then v.cells.toList else z.cells.toList) t]|_,_=>[]
def QJ(als:List (Nat×TypeId×Value))(vs:List Value)(dn:List Nat)(ex:List (Nat×Nat)):List Ob:=ex.flatMap fun p=>obSt als vs dn p.1 p.2
def zle(md:Region.Mode)(ops:Array Oper)(k:Nat)(ds xs:List Nat):Bool :=
 (List.range k).all fun i=>match ops[i]? with
  | some o=>zfV o&&(o.after.all fun e=>!(Region.binds md e)||decide (e.on<k))&&(ds.all fun d=>!(o.looksAt ops).contains d&&o.dst != some d) &&
    (xs.all fun x=>o.dst != some x||(List.range k).all fun i'=>decide (i'=i)||((ops[i']?).bind (·.dst)) != some x)
  | none=>true
theorem ziT{als:List (Nat×TypeId×Value)}{vs:List Value}{dn:List Nat}{j b:Nat}{D:Nat}{t:TypeId}{z v:Value}(o:als[j]?=some (D,t,z))(p:vs[j]?=some v):
  ∀{ex:List (Nat×Nat)},(ex.map (·.1)).Nodup→(∀a∈ex,a.1<als.length)→als.length=vs.length→(j,b)∈ex→∃l,(QJ als vs dn ex)[l]?=some (obC b (if j∈dn then v.cells.toList else z.cells.toList) t)∧∀d,(∀c,c≠j→(c∈d↔c∈dn))→j∈d→(QJ als vs dn ex).set l (obC b v.cells.toList t)=QJ als vs d ex
 | [],_,_,_,e=>by cases e
 | (j0,b0)::ex,hnd,hl,hlv,e=>by
  simp only[List.map_cons,List.nodup_cons]at hnd
  have hone:∀dn c w,c<als.length→∃E,obSt als vs dn c w=[E]:=fun dn c w A=>by
   have h:als[c]?=some als[c]:=List.getElem?_eq_getElem A
   have q:vs[c]?=some (vs[c]'(by omega)):=List.getElem?_eq_getElem (by omega)
   unfold obSt
   rw[h,q]
   exact⟨_,rfl⟩
  obtain⟨G,u⟩:=hone dn j0 b0 (hl (j0,b0) (by simp))
  have y:∀d,(∀c,c≠j→(c∈d↔c∈dn))→∀f:List (Nat×Nat),(∀a∈f,a.1≠j)→QJ als vs dn f=QJ als vs d f:=fun d g f=>by
   induction f with
   | nil=>intro _;rfl
   | cons a f ih =>
    intro hp
    have i:=ih (fun F B=>hp F (List.mem_cons_of_mem _ B))
    have r:obSt als vs dn a.1 a.2=obSt als vs d a.1 a.2:=by
     unfold obSt
     have:=g a.1 (hp a (by simp))
     split <;> simp_all
    simp only[QJ,List.flatMap_cons]at i ⊢
    rw[i,r]
  rcases List.mem_cons.1 e with e|e
  ·cases e
   have x:obSt als vs dn j b=[obC b (if j∈dn then v.cells.toList else z.cells.toList) t]:=by unfold obSt;rw[o,p]
   refine⟨0,by simp[QJ,x],fun d g m=>?_⟩
   have i:obSt als vs d j b=[obC b v.cells.toList t]:=by unfold obSt;rw[o,p];simp[m]
   have n:∀a∈ex,a.1≠j:=fun a hp s=>hnd.1 (by rw[← s];exact List.mem_map.2 ⟨a,hp,rfl⟩)
   have:=y d g ex n
   simp only[QJ,List.flatMap_cons]at this ⊢
   rw[x,i]
   simp[this]
  ·obtain⟨l,h,q⟩:=ziT o p hnd.2 (fun a hp=>hl a (List.mem_cons_of_mem _ hp)) hlv e
   have n:j0≠j:=fun s=>hnd.1 (by rw[s];exact List.mem_map.2 ⟨(j,b),e,rfl⟩)
   refine⟨l+1,?_,fun d g m=>?_⟩
   ·simp only[QJ,List.flatMap_cons]at h ⊢
    rw[u]
    simpa using h
   ·have r:obSt als vs dn j0 b0=obSt als vs d j0 b0:=by
     unfold obSt
     have:=g j0 n
     split <;> simp_all
    have:=q d g m
    simp only[QJ,List.flatMap_cons]at this ⊢
    rw[← r,u]
    simp[this]
theorem zhT{als:List (Nat×TypeId×Value)}{t:Nat}(d:∀(j c:Nat) (ty:TypeId) (z:Value),als[j]?=some (c,ty,z)→c≠t)(a:Act):∀ex,(putA als ex a).tmps[t]?=a.tmps[t]?
 | []=>rfl
 | (j,b)::ex=>by
  rw[putA, ← zhT d a ex]
  cases hj:als[j]? with
  | none=>rfl
  | some p =>
   obtain⟨c,ty,z⟩:=p
   simp[Act.put,Array.getElem?_setIfInBounds_ne (d j c ty z hj)]
theorem zgx{als:List (Nat×TypeId×Value)}{vs:List Value}{dn dn':List Nat}(c:∀b,b<als.length→(b∈dn↔b∈dn')):∀{ex:List (Nat×Nat)},(∀a∈ex,a.1<als.length)→QJ als vs dn ex=QJ als vs dn' ex
 | [],_=>rfl
 | a::ex,hl=>by
  have e1:=zgx (vs:=vs) c (ex:=ex) (fun f d=>hl f (List.mem_cons_of_mem _ d))
  have e:obSt als vs dn a.1 a.2=obSt als vs dn' a.1 a.2:=by
   unfold obSt
   have:=c a.1 (hl a (by simp))
   split <;> simp_all
  simp only[QJ,List.flatMap_cons]at e1 ⊢
  rw[e1,e]
theorem zjE{als:List (Nat×TypeId×Value)}{vs b:List Value}{dn:List Nat}(d:∀e∈dn,vs[e]?=b[e]?)(f:als.length=vs.length)(g:als.length=b.length):∀{ex:List (Nat×Nat)},(∀a∈ex,a.1<als.length)→QJ als vs dn ex=QJ als b dn ex
 | [],_=>rfl
 | a::ex,hl=>by
  have e1:=zjE d f g (ex:=ex) (fun m h=>hl m (List.mem_cons_of_mem _ h))
  have i:obSt als vs dn a.1 a.2=obSt als b dn a.1 a.2:=by
   have hp:=hl a (by simp)
   have g1:vs[a.1]?=some (vs[a.1]'(by omega)):=List.getElem?_eq_getElem _
   have j:b[a.1]?=some (b[a.1]'(by omega)):=List.getElem?_eq_getElem _
   have l:als[a.1]?=some als[a.1]:=List.getElem?_eq_getElem _
   by_cases c:a.1∈dn
   ·unfold obSt;rw[d a.1 c]
   ·unfold obSt
    rw[g1,j,l]
    simp[c]
  simp only[QJ,List.flatMap_cons]at e1 ⊢
  rw[e1,i]
theorem zhF{ro:Option Nat}{nn:Fr}{k B:Nat}{als:List (Nat×TypeId×Value)}{xs:List (Nat×Nat)}{Q:Exit→Act→World→Prop}{d2:Act→Prop}{A:Nat→Prop}{w0:World}{L:List Ob}(n2:k+als.length+als.length=ops.size)(h6:Region.noSelect ops=true)(i9:AllocsAt (md:=md) P ops k als)(g4:StoresAt (md:=md) P ops k k (k+als.length) als xs)(l6:zle md ops k (als.map (·.1)) (xs.map (·.1))=true)(h3:((List.range ops.size).all fun a=>match ops[a]? with|some i=>i.after.all fun m=>!(Region.binds md m)||decide (m.on<a)|none=>true)=true)(j0:(als.map (·.1)).Nodup)(j1:∀g∈als,Nat.blt g.1 nn.sz=true)(j2:∀x∈xs.map (·.1),x∉als.map (·.1))(l7:∀w,Kp Dw w0 w→W w)(hB:B≤w0.heap.size)(j3:∀d7,d2 d7→∀(j:Nat) (x b:Nat) h o n,xs[j]?=some (x,b)→als[j]?=some (h,o,n)→∃d,d7.tmps[x]?=some d∧d.cells.toList.length=n.cells.toList.length∧∀d8∈d.cells.toList,d8.oneCell'=true)(j4:∀(ex:List (Nat×Nat)) (e:Act) (vs:List Value) (w:World) (A':Nat→Prop),(ex.map (·.1)).Nodup→(∀g∈ex,g.1<als.length)→ex.length=als.length→vs.length=als.length→(∀j,j<als.length→∀(x b:Nat),xs[j]?=some (x,b)→e.tmps[x]?=vs[j]?)→d2 e→Hp B A' w (QJ als vs (List.range als.length) ex++L)→Tr Dw B A w0 A' w→Q .normal (putA als ex e) w):
  ∀(r f:Nat) (ex:List (Nat×Nat)) (dn:List Nat) (vs:List Value) (l E:Array Bool) (e:Act) (w:World) (A':Nat→Prop),r=f+(als.length-ex.length)+(als.length-dn.length)→als.length=vs.length→(∀j∈dn,∀(x b:Nat),xs[j]?=some (x,b)→e.tmps[x]?=vs[j]?∧l.getD b false=true)→(ex.map (·.1)).Nodup→(∀g∈ex,g.1<als.length)→(∀g∈ex,w0.heap.size≤g.2)→dn.Nodup→(∀j∈dn,j<als.length)→(∀j∈dn,j∈ex.map (·.1))→
   Fl k ops.size l E→l.size=ops.size→e.tmps.size=nn.sz→
   (∀j,j<als.length→(l.getD (k+j) false=true↔j∈ex.map (·.1)))→(∀j,j<als.length→(l.getD (k+als.length+j) false=true↔j∈dn))→
   zaD P md ops W k (fun d9 c5=>Region.ready md ops d9=[]∧d2 c5) f E e→Hp B A' w (QJ als vs dn ex++L)→Tr Dw B A w0 A' w→Kp Dw w0 w→wpAnyIn (FR ro) 0 P md ops Q r l (putA als ex e) w:=by{
 have c7:∀a i,a<k→ops[a]?=some i→zfV i=true∧(∀m∈i.after,Region.binds md m=true→m.on<k)∧(∀(j h:Nat) (o:TypeId) (n:Value),als[j]?=some (h,o,n)→h∉i.looksAt ops∧i.dst≠some h)∧
   (∀x∈xs.map (·.1),i.dst=some x→∀a6 c6,a6<k→ops[a6]?=some c6→c6.dst=some x→a6=a):=by
  intro a i K u
  have:=List.all_eq_true.1 l6 a (List.mem_range.2 K)
  rw[u]at this
  simp only[Bool.and_eq_true]at this
  obtain⟨⟨⟨s,v⟩,M⟩,d3⟩:=this
  refine⟨s,fun m b6 a7=>?_,fun j h o n c=>?_,fun x F S a6 c6 e5 e6 j5=>?_⟩
  ·have:=Array.all_eq_true'.1 v m b6
   simpa [a7]using this
  ·have N:h∈als.map (·.1):=List.mem_map.2 ⟨_,List.mem_of_getElem? c,rfl⟩
   have:=List.all_eq_true.1 M h N
   simpa using this
  ·have:=List.all_eq_true.1 d3 x F
   rw[S]at this
   simp only[bne_self_eq_false,Bool.false_or]at this
   have:=List.all_eq_true.1 this a6 (List.mem_range.2 e5)
   rw[e6]at this
   simp only[Option.bind_some,j5,bne_self_eq_false,Bool.or_false,decide_eq_true_eq]at this
   exact this
 have a9:∀(q:List Nat),q.Nodup→(∀x∈q,x<als.length)→q.length≤als.length∧(q.length=als.length→∀j,j<als.length→j∈q):=fun q s v=>zeT als.length q s v
 have e0:∀ex:List (Nat×Nat),(∀g∈ex,g.1<als.length)→∀x∈ex.map (·.1),x<als.length:=fun ex b x F=>by
  obtain⟨g,hp,rfl⟩:=List.mem_map.1 F
  exact b g hp
 intro r;induction r with
 | zero =>
  intro f ex dn vs l E e w A' l8 b2 b3 T G c1 a4 X c2 J a2 c3 Z S U b7 O a8
  have d4:=a9 _ T (e0 ex G)
  have d5:=a9 dn a4 X
  simp only[List.length_map]at d4
  have l9:f=0:=by omega
  subst l9
  obtain⟨h7,m0⟩:=U
  have j6:E=l:=by
   apply Array.ext J.size
   intro a s v
   have h2:=J.get a false
   have b8:E.getD a false=E[a]:=by simp[s]
   have a1:l.getD a false=l[a]:=by simp[v]
   rw[b8,a1]at h2
   rw[h2]
   split
   rename_i hki
   rcases Nat.lt_or_ge a (k+als.length)with M|M
   have:=(Z (a-k) (by omega)).2 (d4.2 (by omega) _ (by omega))
   rw[show k+(a-k)=a by omega,a1]at this
   exact this.symm
   have:=(S (a-k-als.length) (by omega)).2 (d5.2 (by omega) _ (by omega))
   rw[show k+als.length+(a-k-als.length)=a by omega,a1]at this
   exact this.symm
   rfl
  subst j6
  refine⟨h7,j4 ex e vs w A' T G (by omega) b2.symm (fun j c x b F=>(b3 j (d5.2 (by omega) j c) x b F).1) m0 ?_ O⟩
  rw[zgx (dn':=dn) (fun j c=>by simp[c,d5.2 (by omega) j c]) G]
  exact b7
 | succ r ih =>
  intro f ex dn vs l E e w A' l8 b2 b3 T G c1 a4 X c2 J a2 c3 Z S U b7 O a8
  have d4:=a9 _ T (e0 ex G)
  have d5:=a9 dn a4 X
  simp only[List.length_map]at d4
  have h8:Region.ready md ops l=[]→∀a,a<ops.size→l.getD a false=true:=by
   intro f6 a
   induction a using Nat.strongRecOn with
   | _ a ihi =>
    intro K
    cases H:l.getD a false with
    | true=>rfl
    | false =>
     exfalso
     have u:ops[a]?=some ops[a]:=Array.getElem?_eq_getElem K
     have a7:=List.all_eq_true.1 h3 a (List.mem_range.2 K)
     rw[u]at a7
     have N:a∈Region.ready md ops l:=mem_ready.2 ⟨getD_in (by rw[a2];exact K) H,_,u,fun m b6 j7=>by
      have s:=Array.all_eq_true'.1 a7 m b6
      simp only[j7,Bool.not_true,Bool.false_or,decide_eq_true_eq]at s
      exact ihi m.on s (by omega)⟩
     rw[f6]at N
     cases N
  refine⟨fun f6=>?_,fun a K=>?_⟩
  ·exfalso
   have H:=h8 f6
   cases f with
   | succ f =>
    obtain⟨a,K⟩:=List.exists_mem_of_ne_nil _ U.1
    have a5:=(U.2 a K).1
    obtain⟨s,i,u,_⟩:=mem_ready.1 K
    rw[J.get,if_neg (by omega)]at s
    have:=H a (Array.getElem?_eq_some_iff.1 u).1
    rw[getD_both s]at this
    cases this
   | zero =>
    have b8:als.length≤ex.length:=by
     have e1:∀j,j<als.length→j∈ex.map (·.1):=fun j c=>(Z j c).1 (H _ (by omega))
     have b4:∀(y:Nat) (q:List Nat),(∀j,j<y→j∈q)→y≤q.length:=by
      intro y
      induction y with
      | zero=>intro q _;omega
      | succ y ih =>
       intro q H
       have N:=H y (by omega)
       have s:=ih (q.erase y) (fun j c=>(List.mem_erase_of_ne (by omega)).2 (H j (by omega)))
       have v:=List.length_erase_of_mem N
       have:=List.length_pos_of_mem N
       omega
     have:=b4 als.length (ex.map (·.1)) e1
     simpa using this
    have a1:als.length≤dn.length:=by
     have e1:∀j,j<als.length→j∈dn:=fun j c=>(S j c).1 (H _ (by omega))
     have b4:∀(y:Nat) (q:List Nat),(∀j,j<y→j∈q)→y≤q.length:=by
      intro y
      induction y with
      | zero=>intro q _;omega
      | succ y ih =>
       intro q H
       have N:=H y (by omega)
       have s:=ih (q.erase y) (fun j c=>(List.mem_erase_of_ne (by omega)).2 (H j (by omega)))
       have v:=List.length_erase_of_mem N
       have:=List.length_pos_of_mem N
       omega
     exact b4 als.length dn e1
    omega
  obtain⟨c8,i,u,e2⟩:=mem_ready.1 K
  have m8:=(Array.getElem?_eq_some_iff.1 u).1
  rcases Nat.lt_or_ge a k with a5|a5
  · -- d7 head
   have e7:a∈Region.ready md ops E:=mem_ready.2 ⟨by rw[J.get,if_neg (by omega)];exact c8,i,u,fun m b6 a7=>by
    have d3:=(c7 a i a5 u).2.1 m b6 a7
    rw[J.get,if_neg (by omega)];exact e2 m b6 a7⟩
   cases f with
   | zero=>rw[U.1]at e7;cases e7
   | succ f =>
    have b0:=(U.2 a e7).2
    obtain⟨j8,_,f9,_⟩:=c7 a i a5 u
    obtain⟨b8,a1⟩:=zia (ops:=ops) (als:=als) (o:=i) (fun m1 z=>Region.noSelect_spec h6 a i m1 z u) (fun j h o n c=>(f9 j h o n c).1) e ex
    have h9:∀d,(putA als ex e).put i.dst d=putA als ex (e.put i.dst d):=fun d=>zjr (fun j h o n c=>(f9 j h o n c).2) e ex
    have g2:∀d,zaD P md ops W k (fun d9 c5=>Region.ready md ops d9=[]∧d2 c5) f (E.setIfInBounds a true) (e.put i.dst d)→
      wpAnyIn (FR ro) 0 P md ops Q r (l.setIfInBounds a true) ((putA als ex e).put i.dst d) w:=fun d b9=>by
     rw[h9]
     refine ih f ex dn vs _ _ _ w A' (by omega) b2 (fun j c x b F=>?_) T G c1 a4 X c2 (J.head a5) (by simp[a2]) ?_ (fun j c=>?_) (fun j c=>?_) b9 b7 O a8
     ·obtain⟨s,v⟩:=b3 j c x b F
      refine⟨?_,getD_set_true v⟩
      have j9:i.dst≠some x:=fun m=>by
       obtain⟨g,hp⟩:∃g,als[j]?=some g:=⟨als[j]'(X j c),List.getElem?_eq_getElem _⟩
       obtain⟨h,o,n⟩:=g
       obtain⟨n3,n4,g5,_,e8,R,_⟩:=g4.get hp
       rw[F]at g5
       cases g5
       cases hoh:ops[b]? with
       | none=>rw[hoh]at R;cases R
       | some oh =>
        rw[hoh,Option.bind_some]at R
        have:=(c7 b oh e8 hoh).2.2.2 x (List.mem_map.2 ⟨(x,b),List.mem_of_getElem? F,rfl⟩) R a i a5 u m
        subst this
        rw[getD_both c8]at v
        cases v
      cases e3:i.dst with
      | none=>exact s
      | some h =>
       have:h≠x:=fun m=>j9 (by rw[e3,m])
       simp only[Act.put]
       rw[Array.getElem?_setIfInBounds_ne this]
       exact s
     ·cases i.dst <;> simp[Act.put,c3]
     ·rw[getD_set_ne false (by omega)];exact Z j c
     ·rw[getD_set_ne false (by omega)];exact S j c
    unfold qOp at b0
    unfold wpOpIn
    simp only[u]at b0 ⊢
    rw[a1]
    split
    ·rename_i hw
     rw[if_pos hw]at b0
     obtain⟨d,s,v⟩:=b0
     have M:=s w (l7 w a8)
     unfold Oper.quietAt at M
     refine⟨fun _ _=>trivial,?_⟩
     generalize a3:(execOp e.eval i).run P w=rr at M
     cases rr with
     | ok nx w' =>
      obtain⟨d8,rfl⟩:=ziU j8 a3
      obtain⟨rfl,rfl⟩:=M
      rw[← b8]at a3
      rw[je a3 (fun h b=>by cases b)]
      exact g2 _ v
     | halt x w'=>simp only[Oper.quietUpon]at M
    ·rename_i hw
     rw[if_neg hw]at b0
     exact⟨fun _ _=>trivial,g2 _ b0⟩
  rcases Nat.lt_or_ge a (k+als.length)with k0|k0
  · -- an allocation
   obtain⟨g,hp⟩:∃g,als[a-k]?=some g:=⟨als[a-k]'(by omega),List.getElem?_eq_getElem _⟩
   obtain⟨h,o,n⟩:=g
   obtain⟨⟨d6,e9,f7,b5,m9⟩,m2⟩:=i9.get hp
   rw[show k+(a-k)=a by omega]at b5
   have f0:=Option.some.inj (u.symm.trans b5)
   subst f0
   have a0:(a-k)∉ex.map (·.1):=fun b=>by
    have:=(Z (a-k) (by omega)).2 b
    rw[show k+(a-k)=a by omega,getD_both c8]at this
    cases this
   have i0:(a-k)∉dn:=fun b=>a0 (c2 _ b)
   unfold wpOpIn
   simp only[b5]
   rw[if_pos (by simp[Region.wanted])]
   refine⟨fun _ _=>trivial,?_⟩
   have a3:(execOp (putA als ex e).eval (⟨some h,.alloc o,d6,e9,f7,none⟩:Oper)).run P w=.ok (.value (.pointer (some ⟨w.heap.size,0,none⟩))) (w.alloc (.cells n.cells o)):=by
    simp only[execOp,Instr.alloc];simp[m2,newVar,newRow]
   rw[je a3 (fun h b=>by cases b)]
   have c9:=Nat.le_trans hB O.ex.size
   obtain⟨d,b9⟩:∃d,vs[a-k]?=some d:=⟨vs[a-k]'(by omega),List.getElem?_eq_getElem _⟩
   have d0:Hp B (fun z=>A' z∧z≠w.heap.size) (w.alloc (.cells n.cells o)) (QJ als vs dn ((a-k,w.heap.size)::ex)++L):=by
    have:=b7.alloc (.cells n.cells o) c9 O.new
    simp only[QJ,List.flatMap_cons,obSt,hp,b9]
    rw[if_neg i0]
    simpa [QJ,obSt]using this
   have g3:(((a-k,w.heap.size)::ex).map (·.1)).Nodup:=by simpa using ⟨by simpa using a0,T⟩
   have b1:∀g∈(a-k,w.heap.size)::ex,g.1<als.length:=by
    intro g hp
    rcases List.mem_cons.1 hp with rfl|hp
    ·show a-k<als.length
     omega
    ·exact G g hp
   have i1:∀g∈(a-k,w.heap.size)::ex,w0.heap.size≤g.2:=by
    intro g hp
    rcases List.mem_cons.1 hp with rfl|hp
    ·exact a8.size
    ·exact c1 g hp
   have h4:=(a9 _ g3 (e0 _ b1)).1
   simp only[List.map_cons,List.length_cons,List.length_map]at h4
   have b4:=ih f ((a-k,w.heap.size)::ex) dn vs (l.setIfInBounds a true) E e (w.alloc (.cells n.cells o)) _ (by simp only[List.length_cons];omega) b2 (fun j c x b F=>⟨(b3 j c x b F).1,getD_set_true (b3 j c x b F).2⟩)
    g3 b1 i1 a4 X (fun j c=>by simp only[List.map_cons];exact List.mem_cons_of_mem _ (c2 j c)) (J.alloc ⟨a5,by omega⟩) (by simp[a2]) c3 (fun j c=>?_) (fun j c=>?_) U d0 (O.trans ((zaT B _ O.new).tr c9)) (Bel.trans a8 (Bel.mono (Kp.alloc _ _) a8.size))
   ·have:putA als ((a-k,w.heap.size)::ex) e=(putA als ex e).put (some h) (.pointer (some ⟨w.heap.size,0,none⟩)):=by
     simp[putA,hp]
    rw[this]at b4
    exact b4
   ·by_cases c4:a=k+j
    ·subst c4
     have:(l.setIfInBounds (k+j) true).getD (k+j) false=true:=by
      have b1:k+j<l.size:=by rw[a2];omega
      simp[b1]
     simp[this]
    ·rw[getD_set_ne false c4,Z j c]
     simp only[List.map_cons,List.mem_cons]
     constructor
     ·exact .inr
     ·rintro (b | b)
      ·omega
      ·exact b
   ·rw[getD_set_ne false (by omega)];exact S j c
  · -- d7 store
   obtain⟨j,rfl⟩:∃j,a=k+als.length+j:=⟨a-k-als.length,by omega⟩
   have c:j<als.length:=by omega
   obtain⟨g,hp⟩:∃g,als[j]?=some g:=⟨als[j],List.getElem?_eq_getElem _⟩
   obtain⟨h,o,n⟩:=g
   obtain⟨x,b,f1,⟨d6,e9,f7,b5,⟨b8,k1,k2,i2⟩,⟨a1,k3,k4,i3⟩⟩,e8,R,i4⟩:=g4.get hp
   have f0:=Option.some.inj (u.symm.trans b5)
   subst f0
   have f2:l.getD b false=true:=by rw[← i2];exact e2 b8 k1 k2
   have k5:l.getD (k+j) false=true:=by rw[← i3];exact e2 a1 k3 k4
   obtain⟨m7,d1,g6⟩:=List.mem_map.1 ((Z j c).1 k5)
   obtain⟨p,z⟩:=m7
   simp only at g6
   subst g6
   have a0:p∉dn:=fun m3=>by
    have:=(S p c).2 m3
    rw[getD_both c8]at this
    cases this
   have g7:x∈xs.map (·.1):=List.mem_map.2 ⟨(x,b),List.mem_of_getElem? f1,rfl⟩
   have k6:∃d,e.tmps[x]?=some d∧d.cells.toList.length=n.cells.toList.length∧∀d8∈d.cells.toList,d8.oneCell'=true:=by
    obtain⟨n5,c5,⟨_,k7⟩,k8⟩:=zeb (t:=x) f E e U (fun a6 c6 e6 e5 g8 e3=>by
     cases hoh:ops[b]? with
     | none=>rw[hoh]at R;cases R
     | some oh =>
      rw[hoh,Option.bind_some]at R
      have:=(c7 b oh e8 hoh).2.2.2 x g7 R a6 c6 e5 e6 e3
      subst this
      rw[J.get,if_neg (by omega), ]at g8
      rw[getD_both g8]at f2
      cases f2)
    rw[← k8]
    exact j3 c5 k7 p x b h o n f1 hp
   obtain⟨d,g9,h0⟩:=k6
   have k9:(putA als ex e).tmps[x]?=some d:=by
    rw[zhT (fun j h d6 n f3 m=>j2 x g7 (by rw[← m];exact List.mem_map.2 ⟨_,List.mem_of_getElem? f3,rfl⟩))]
    exact g9
   have e4:als.length=(vs.set p d).length:=by simpa using b2
   have b9:(vs.set p d)[p]?=some d:=List.getElem?_set_self (by omega)
   have h1:∀t,t≠p→(vs.set p d)[t]?=vs[t]?:=fun t b=>by rw[List.getElem?_set_ne (Ne.symm b)]
   have l0:QJ als vs dn ex=QJ als (vs.set p d) dn ex:=zjE (fun t D=>(h1 t (fun m=>a0 (m▸D))).symm) b2 e4 G
   rw[l0]at b7
   have i5:(putA als ex e).tmps[h]?=some (.pointer (some ⟨z,0,none⟩)):=by
    have:=(zgQ (n:=⟨nn.sz,e.defers,none⟩) (E := []) (als:=als) (a:=e) (fun j h o n f3=>⟨j1 _ (List.mem_of_getElem? f3),rfl⟩) j0 ⟨c3,rfl,fun o d b=>by cases b⟩ ex T G).2 (p,z) d1 h o n hp
    exact this
   obtain⟨i6,f4,i7⟩:=ziT (vs:=vs.set p d) (dn:=dn) hp b9 T G e4 d1
   rw[if_neg a0]at f4
   have c9:=Nat.le_trans hB O.ex.size
   have f8:=(List.getElem?_eq_some_iff.1 f4).1
   have i8:(QJ als (vs.set p d) dn ex++L)[i6]?=some (obC z n.cells.toList o):=by rw[List.getElem?_append_left f8];exact f4
   obtain⟨a3,d0,l4⟩:=b7.storeAt (P:=P) (off:=0) (sz:=n.cells.toList.length) (ds:=d.cells.toList) (nv:=d) i8 i4 (by rw[← Array.length_toList,h0.1]) (by omega) h0.2 (by
    rw[List.drop_eq_nil_of_le (by omega)]
    simp) c9 O.new
   rw[List.set_append_left _ _ f8,i7 (p::dn) (fun t D=>by simp[D]) (by simp)]at d0
   unfold wpOpIn
   simp only[b5]
   rw[if_pos (by simp[Region.wanted])]
   refine⟨fun _ _=>trivial,?_⟩
   have h5:(execOp (putA als ex e).eval (⟨none,.store o (.tmp h) (.tmp x),d6,e9,f7,none⟩:Oper)).run P w=.ok .skip (w.setRow z d.cells.toList.toArray):=by
    have m4:(putA als ex e).eval (.tmp h)=.pointer (some ⟨z,0,none⟩):=by simp[Act.eval,Array.getD_eq_getD_getElem?,i5]
    have l5:(putA als ex e).eval (.tmp x)=d:=by simp[Act.eval,Array.getD_eq_getD_getElem?,k9]
    simp only[execOp,m4,l5]
    simp[a3]
   rw[je h5 (fun h b=>by cases b)]
   have n0:w0.heap.size≤z:=c1 (p,z) d1
   refine ih f ex (p::dn) (vs.set p d) (l.setIfInBounds (k+als.length+p) true) E e (w.setRow z d.cells.toList.toArray) A' (by
     have:=(a9 (p::dn) (List.nodup_cons.2 ⟨a0,a4⟩) (fun c0 I=>by
      rcases List.mem_cons.1 I with rfl|I
      ·exact c
      ·exact X c0 I)).1
     simp only[List.length_cons]at this ⊢
     omega) e4 (fun t D m5 v f5=>?_) T G c1 (List.nodup_cons.2 ⟨a0,a4⟩) (fun c0 I=>?_) (fun c0 I=>?_) (J.alloc ⟨by omega,by omega⟩) (by simp[a2]) c3 (fun t D=>?_) (fun t D=>?_) U d0 (O.trans l4) (Bel.trans a8 ⟨rfl,rfl,rfl,by simp,fun _=>Nat.le_refl _,fun m6 n1=>setRow_other w z m6 _ (by omega)⟩)
   ·rcases List.mem_cons.1 D with rfl|D
    ·rw[f1]at f5
     cases f5
     exact⟨by rw[b9];exact g9,getD_set_true f2⟩
    ·obtain⟨M,d3⟩:=b3 t D m5 v f5
     exact⟨by rw[h1 t (fun m=>a0 (m▸D))];exact M,getD_set_true d3⟩
   ·rcases List.mem_cons.1 I with rfl|I
    ·exact c
    ·exact X c0 I
   ·rcases List.mem_cons.1 I with rfl|I
    ·exact List.mem_map.2 ⟨(c0,z),d1,rfl⟩
    ·exact c2 c0 I
   ·rw[getD_set_ne false (by omega)];exact Z t D
   ·by_cases c4:t=p
    ·subst c4
     have:(l.setIfInBounds (k+als.length+t) true).getD (k+als.length+t) false=true:=by
      have b1:k+als.length+t<l.size:=by rw[a2];omega
      simp[b1]
     simp[this]
    ·rw[getD_set_ne false (by omega),S t D]
     simp[c4]}
def objV:List (Nat×TypeId×Value)→List Value→(Nat→Nat)→Nat→List Ob
 | (_,t,_)::r,v::vs,b,j=>obC (b j) v.cells.toList t::objV r vs b (j+1)
 | _,_,_,_=>[]
def defB(md:Region.Mode)(ops:Array Oper)(k:Nat)(ds xs:List Nat):Bool :=
 Region.noSelect ops&&zle md ops k ds xs&&(xs.all fun x=>!ds.contains x) &&
  ((List.range ops.size).all fun i=>match ops[i]? with|some o=>o.after.all fun e=>!(Region.binds md e)||decide (e.on<i)|none=>true) &&
  zdY md ops k 0 ((List.range ops.size).map fun i=>decide (k≤i∧i<ops.size)).toArray
theorem zhB{E:Env}:∀{xs:List (Nat×Nat)} {vs:List Value},evs E (xs.map fun d=>Operand.tmp d.1)=some vs→xs.length=vs.length∧∀(j:Nat) (x a:Nat),xs[j]?=some (x,a)→∃c,vs[j]?=some c∧E.get x=some c
 | [],vs,a=>by cases a;exact⟨rfl,fun j x a b=>by simp at b⟩
 | (x0,h0)::xs,vs,a=>by
  rw[List.map_cons,evs]at a
  split at a
  ·rename_i c vs' h1 h2
   cases a
   obtain⟨h3,h4⟩:=zhB h2
   refine⟨by simp[h3],fun j x a b=>?_⟩
   cases j with
   | zero=>simp at b;obtain⟨rfl,rfl⟩:=b;exact⟨c,rfl,h1⟩
   | succ j=>simp at b;simpa using h4 j x a b
  ·cases a
theorem ziO(b:Nat→Nat):∀(als a:List (Nat×TypeId×Value)) (vs c:List Value),a.length=c.length→als.length=vs.length→objV als vs b a.length=(List.range' a.length als.length).flatMap fun e=>obSt (a++als) (c++vs) (List.range (a++als).length) e (b e)
 | [],a,vs,c,_,h=>by cases vs <;> simp[objV]
 | (d,t,z)::r,a, [],c,_,h=>by simp at h
 | (d,t,z)::r,a,v::vs,c,hp,h=>by
  have:=ziO b r (a++[(d,t,z)]) vs (c++[v]) (by simp[hp]) (by simpa using h)
  simp only[List.length_append,List.length_cons,List.length_nil,Nat.zero_add,List.append_assoc,List.cons_append,List.nil_append]at this
  simp only[objV,List.length_cons,List.range'_succ,List.flatMap_cons]
  rw[this]
  have f:(a++(d,t,z)::r)[a.length]?=some (d,t,z):=by simp
  have g:(c++v::vs)[a.length]?=some v:=by simp[hp]
  simp only[obSt,f,g,List.length_append,List.length_cons]
  rw[if_pos (by simp)]
  rfl
def Fits:List (Nat×TypeId×Value)→List Value→Prop
 | [], []=>True
 | (_,_,z)::r,v::vs=>v.cells.toList.length=z.cells.toList.length∧(∀u∈v.cells.toList,u.oneCell'=true)∧Fits r vs
 | _,_=>False
theorem Fits.get:∀{als:List (Nat×TypeId×Value)} {vs:List Value} {j:Nat} {a:Nat} {t:TypeId} {z v:Value},Fits als vs→als[j]?=some (a,t,z)→vs[j]?=some v→v.cells.toList.length=z.cells.toList.length∧∀c∈v.cells.toList,c.oneCell'=true
 | [],_,_,_,_,_,_,_,h,_=>by simp at h
 | _::_, [],_,_,_,_,_,h,_,_=>h.elim
 | (d0,t0,z0)::r,b::vs,0,a,t,z,v,hf,h1,h2=>by
  simp at h1 h2
  obtain⟨rfl,rfl,rfl⟩:=h1
  subst h2
  exact⟨hf.1,hf.2.1⟩
 | (d0,t0,z0)::r,b::vs,j+1,a,t,z,v,hf,h1,h2=>Fits.get (j:=j) hf.2.2 (by simpa using h1) (by simpa using h2)
theorem zfW{nn:Fr}{Q:Exit→Act→World→Prop}{E:Env}{w:World}{l:List Oper}{id k B:Nat}{A:Nat→Prop}{L:List Ob}(als:List (Nat×TypeId×Value))(xs:List (Nat×Nat))(x:P.follows .mixedOrders=true)(N:defB .any l.toArray k (als.map (·.1)) (xs.map (·.1))=true)(Z:k+als.length+als.length=l.length)(F:AllocsAt (md := .any) P l.toArray k als)(b4:StoresAt (md := .any) P l.toArray k k (k+als.length) als xs)(d4:als.length=xs.length)(S:(als.all fun d=>Nat.blt d.1 nn.sz)=true)(T:(als.map (·.1)).Nodup)(c4:Hp B A w L)(hB:B≤w.heap.size)(c5:∀b,w.heap.size≤b→A b)(d1:VQ P nn l.toArray (fun w'=>Kp Dw w w') (fun a0=>∃o r,Has nn a0 o∧(als.all fun d=>(o.get d.1).isNone)=true∧evs o (xs.map fun d=>Operand.tmp d.1)=some r∧Fits als r∧
   ∀(b:Nat→Nat) (w':World) (A':Nat→Prop),Hp B A' w' (objV als r b 0++L)→Tr Dw B A w A' w'→∀U,Has nn U (envB als b 0++o)→Q .normal U w') (l.take k) E):
  C P nn (.region id l.toArray true) Q E w:=by{
 intro J a1;simp only[defB,Bool.and_eq_true]at N;obtain⟨⟨⟨⟨O,c6⟩,b5⟩,a6⟩,a9⟩:=N;refine wpIn_region_any x ?_
 have K:∀e f,(((List.range l.toArray.size).map fun e=>decide (k≤e∧e<l.toArray.size)).toArray).getD e f=if k≤e∧e<l.toArray.size then true else (Array.replicate l.toArray.size false).getD e f:=by
  intro e f
  rcases Nat.lt_or_ge e l.toArray.size with I|I
  have s:e<l.length:=by simpa using I
  by_cases W:k≤e
  simp[s,W]
  simp[s,W]
  have s:¬e<l.length:=by simpa using I
  rw[if_neg (by omega)]
  simp[s]
 have b6:Fl k l.toArray.size (Array.replicate l.toArray.size false) (((List.range l.toArray.size).map fun e=>decide (k≤e∧e<l.toArray.size)).toArray):=⟨by simp,by rw[Array.size_replicate];omega,K⟩;have b0:Flg l.toArray k (((List.range l.toArray.size).map fun e=>decide (k≤e∧e<l.toArray.size)).toArray):=fun n i j=>by rw[K,if_pos ⟨i,j⟩]
 have t:(l.take k).length=k:=by rw[List.length_take];omega
 have y:=zfN (md := .any) (k:=k) O (l.take k) 0 _ J (fun a c=>by
  have b7:a<k:=by rw[t]at c;exact c
  simp[b7]) (by simpa using t) b0 (by rw[t];exact a9) (d1 J a1)
 rw[t]at y
 have b1:∀h∈xs.map (·.1),h∉als.map (·.1):=fun h m=>by
  have:=List.all_eq_true.1 b5 h m
  simpa using this
 have X:=zhF (ro:=nn.ro) (nn:=nn) (md := .any) (P:=P) (ops:=l.toArray) (W:=fun w'=>Kp Dw w w') (Q:=Q) (A:=A) (w0:=w) (L:=L) (B:=B) (als:=als) (xs:=xs) (by simpa using Z) O F b4 c6 a6 T (fun d hp=>List.all_eq_true.1 S d hp) b1 (fun w' b8=>b8) hB ?_ ?_
  (k+als.length+als.length) k [] [] (List.replicate als.length undef) (Array.replicate l.toArray.size false) _ J { w with drawn:=w.drawn+1 } A (by simp) (by simp) (fun a c=>by cases c) (by simp) (by simp) (by simp) (by simp) (fun a c=>by cases c) (fun a c=>by cases c) b6 (by simp) a1.size
  (fun a c=>by rw[getD_replicate_false];simp) (fun a c=>by rw[getD_replicate_false];simp) y (by
   show Hp B A _ ([]++L)
   exact c4.kp (Kp.drew (Dw:=Dw) _)) (Kp.tr (Kp.drew (Dw:=Dw) w) c5 hB) (Kp.drew (Dw:=Dw) _)
 have d2:k+als.length+als.length=l.toArray.size:=by simpa using Z
 rw[d2]at X;exact X;rintro a0⟨o,r,u,_,G,R,_⟩a h z f n p m F;obtain⟨D,i,j⟩:=(zhB G).2 a h z m;exact⟨D,u.get h D j,R.get F i⟩;intro ex c7 g w' A' v H b2 d5 b9 c8 c0 c9;obtain⟨o,r,u,a7,G,R,d0⟩:=c8;obtain⟨d6,c1⟩:=zhB G
 have c2:g=r:=by
  apply List.ext_getElem?
  intro a
  rcases Nat.lt_or_ge a als.length with c|c
  obtain⟨⟨h,z⟩,m⟩:∃d,xs[a]?=some d:=⟨xs[a]'(by omega),List.getElem?_eq_getElem _⟩
  obtain⟨D,i,j⟩:=c1 a h z m
  rw[← b9 a c h z m,u.get h D j,i]
  rw[List.getElem?_eq_none (by omega),List.getElem?_eq_none (by omega)]
 subst c2;obtain⟨b,a2⟩:=zlv v
 have a4:∀(a f:Nat) (n:TypeId) (p:Value),als[a]?=some (f,n,p)→Nat.blt f nn.sz=true∧o.get f=none:=by
  intro a f n p c
  have x:=List.mem_of_getElem? c
  have i:=List.all_eq_true.1 S _ x
  have j:=List.all_eq_true.1 a7 _ x
  exact⟨i,Option.isNone_iff_eq_none.1 j⟩
 obtain⟨i,j⟩:=zgQ a4 T u ex v H
 have M:∀a,a<als.length→a∈ex.map (·.1):=(zeT als.length (ex.map (·.1)) v (fun h m=>by
  obtain⟨d,hp,rfl⟩:=List.mem_map.1 m
  exact H d hp)).2 (by simpa using b2)
 have a5:∀(a f:Nat) (n:TypeId) (p:Value),als[a]?=some (f,n,p)→(putA als ex c7).tmps[f]?=some (.pointer (some ⟨b (([]:List (Nat×TypeId×Value)).length+a),0,none⟩)):=by
  intro a f n p c
  obtain⟨d,hp,rfl⟩:=List.mem_map.1 (M a (List.getElem?_eq_some_iff.1 c).1)
  have:=j d hp f n p c
  rw[a2 d hp]at this
  simpa using this
 have b3:QJ als g (List.range als.length) ex=(ex.map (·.1)).flatMap fun a=>obSt als g (List.range als.length) a (b a):=by
  have:∀q:List (Nat×Nat),(∀d∈q,d.2=b d.1)→QJ als g (List.range als.length) q=(q.map (·.1)).flatMap fun a=>obSt als g (List.range als.length) a (b a):=by
   intro q
   induction q with
   | nil=>intro _;rfl
   | cons d q ih =>
    intro hp
    have a3:=ih (fun d3 y=>hp d3 (List.mem_cons_of_mem _ y))
    simp only[QJ,List.flatMap_cons,List.map_cons]at a3 ⊢
    rw[a3,hp d (by simp)]
  exact this ex a2
 have a8:(QJ als g (List.range als.length) ex).Perm (objV als g b 0):=by
  rw[b3,show objV als g b 0=objV als g b ([]:List (Nat×TypeId×Value)).length from rfl,ziO b als [] g [] rfl (by omega)]
  simp only[List.length_nil,List.nil_append]
  refine List.Perm.flatMap_right _ ?_
  rw[← List.range_eq_range']
  refine (List.perm_ext_iff_of_nodup v List.nodup_range).2 fun a=>?_
  constructor
  intro c
  obtain⟨d,hp,rfl⟩:=List.mem_map.1 c
  exact List.mem_range.2 (H d hp)
  intro c
  exact M a (List.mem_range.1 c)
 have c3:Hp B A' w' (objV als g b 0++L):=c0.perm (a8.append_right L);have:=d0 b w' A' c3 c9 _ (zjd i als [] a5);exact this}
end
end Go.Gw
