import Derived.Test.YtcnidlpginehjaaGreatGa
namespace Go.Gw
open Go Go.RowKit Go.Pu
variable{Dw:Prop}
set_option linter.unusedSimpArgs false
set_option linter.unusedVariables false
theorem Hp.storeAt{P:Program}{B i b off sz:Nat}{A:Nat→Prop}{w:World}{L:List Ob}{cs ds:List Value}{t c:TypeId}{nv:Value}(s:Hp B A w L)(hi:L[i]?=some (obC b cs c))(u:∀w,(Go.sizeOf t).run P w=.ok sz w)(k:nv.cells.size=sz)(z:off+sz≤cs.length)(m:∀x∈nv.cells.toList,x.oneCell'=true)(p:cs.take off++nv.cells.toList++cs.drop (off+sz)=ds)(hB:B≤w.heap.size)(v:∀b,w.heap.size≤b→A b):
  (Instr.storeAt t (.pointer (some ⟨b,off,none⟩)) nv).run P w=.ok () (w.setRow b ds.toArray)∧Hp B A (w.setRow b ds.toArray) (L.set i (obC b ds c))∧Tr Dw B A w A (w.setRow b ds.toArray):=by{
 obtain⟨D,⟨rfl,hp⟩,d,n⟩:=s.at hi;have q:nv.cells.toList.length=sz:=by simpa using k
 have g:=run_storeCells_at P b off c nv.cells.toList 0 cs.toArray w hp (by simp;omega) m;rw[Nat.add_zero]at g
 have o:((cs.toArray.toList.take off++nv.cells.toList++cs.toArray.toList.drop (off+nv.cells.toList.length))).toArray=ds.toArray:=by
  rw[← p,q]
 rw[o]at g
 have l:Mv Dw B A w A (w.setRow b ds.toArray) (some b) :=
  ⟨rfl,rfl,rfl,by simp,fun _=>Nat.le_refl _,fun h e r=>setRow_other w b h _ (fun y=>r (by rw[y])),fun h e=>by cases e;exact⟨(d b (by simp)).1,(d b (by simp)).2.2⟩,fun _ j=>j,fun _ _ j=>j,fun f a=>v f (by simpa using a)⟩
 refine⟨?_,n A _ (some b) _ _ l (fun h e=>by cases e;simp) ⟨rfl,setRow_heap w b cs.toArray _ c _ hp⟩ fun f a=>⟨.inl a,(d f a).1,(d f a).2.2⟩,l.tr hB⟩;simp only[Instr.storeAt,Instr.sureAddr];simp[storeVar,u,k,g]}
section
variable{P:Program}{ops:Array Oper}{md:Region.Mode}{W:World→Prop}
def Flg(ops:Array Oper)(k:Nat)(listed:Array Bool):Prop:=∀t,k≤t→t<ops.size→listed.getD t true=true
theorem Flg.set{k i:Nat}{listed:Array Bool}(f:Flg ops k listed):Flg ops k (listed.setIfInBounds i true):=fun c d e=>by
 by_cases b:i=c
 ·subst b
  rcases Nat.lt_or_ge i listed.size with a|a
  ·simp[a]
  ·rw[Array.getD_eq_getD_getElem?,Array.getElem?_eq_none (by simpa using a)];rfl
 ·rw[getD_set_ne true b];exact f c d e
theorem Flg.lt{k j:Nat}{listed:Array Bool}(e:Flg ops k listed)(c:j∈Region.ready md ops listed):j<k:=by{obtain⟨b,f,d,_⟩:=mem_ready.1 c;rcases Nat.lt_or_ge j k with a|a;exact a;rw[e j a (Array.getElem?_eq_some_iff.1 d).1]at b;cases b}
theorem zgd{k i:Nat}{g:Oper}{v:Value}{L:Array Bool→Act→Prop}(hi:ops[i]?=some g)(z:∀(j:Nat) (o:Oper) l n,ops[j]?=some o→o.op≠.select l n)(S:i<k)(F:∀listed a,L listed a→∀j∈Region.ready md ops listed,k≤j):
  ∀(f:Nat) (listed:Array Bool) (a:Act),Flg ops k listed→
   (∀j d,ops[j]?=some d→j≠i→listed.getD j true=false→(∀b∈d.after,Region.binds md b=true→b.on≠i)→g.apart ops d=true)→
   i∈Region.ready md ops listed→YieldsIn P ops W g v a→
   zaz P md ops W k L f (listed.setIfInBounds i true) (a.put g.dst v)→zaz P md ops W k L (f+1) listed a:=by{
 intro f;induction f with
 | zero =>
  intro listed a q _ e s p
  refine⟨fun x=>(by rw[x]at e;cases e),fun j h=>?_⟩
  have u:j<k:=q.lt h
  refine⟨u,?_⟩
  by_cases c:j=i
  subst c;exact s.qOp hi p
  have:=F _ _ p j (ready_mono h c)
  omega
 | succ f ih =>
  intro listed a q y e s p
  have r:=(mem_ready.1 e).1
  refine⟨fun x=>(by rw[x]at e;cases e),fun j h=>?_⟩
  have u:j<k:=q.lt h
  refine⟨u,?_⟩
  by_cases c:j=i
  subst c;exact s.qOp hi p
  have t:=(p.2 j (ready_mono h c)).2
  obtain⟨A,d,w,G⟩:=mem_ready.1 h
  have H:∀b∈d.after,Region.binds md b=true→b.on≠i:=fun b M N I=>by
   have t:=G b M N
   rw[I,getD_both r]at t
   cases t
  have O:=qOp_put w (y j d w c A H) (fun l n=>z i g l n hi) (fun l n=>z j d l n w) s t
  have E:∀k m,ops[k]?=some m→k≠i→(listed.setIfInBounds j true).getD k true=false→
    (∀b∈m.after,Region.binds md b=true→b.on≠i)→g.apart ops m=true:=fun k m Q J r K=>by
   refine y k m Q J ?_ K
   by_cases B:j=k
   ·subst B;exact A
   ·rw[getD_set_ne true B]at r;exact r
  refine qOp_mono (fun R D=>ih (listed.setIfInBounds j true) R q.set E (ready_mono e (Ne.symm c)) D.1 ?_) O
  rw[Array.setIfInBounds_comm _ _ c]
  exact D.2}
def zcX(md:Region.Mode)(ops:Array Oper):Nat→Nat→Array Bool→Bool
 | 0,_,listed=>(Region.ready md ops listed).isEmpty
 | f+1,k,listed=>(Region.ready md ops listed).contains k&&Region.free md ops listed k&&zcX md ops f (k+1) (listed.setIfInBounds k true)
theorem zeO{k:Nat}{c:Act→Prop}(e:Region.noSelect ops=true):
  ∀(l:List Oper) (j:Nat) (listed:Array Bool) (a:Act),(∀b,b<l.length→l[b]?=ops[j+b]?)→j+l.length=k→Flg ops k listed→
  zcX md ops l.length j listed=true→wpQuiet P ops W c l a→
  zaz P md ops W k (fun d f=>Region.ready md ops d=[]∧c f) l.length listed a
 | [],j,listed,a,_,hk,_,hB,h=>⟨by simpa [zcX]using hB,h⟩
 | o::l,j,listed,a,hl,hk,inv,hB,h=>by
  have h0:ops[j]?=some o:=by simpa using (hl 0 (by simp)).symm
  simp only[List.length_cons,zcX,Bool.and_eq_true]at hB
  obtain⟨⟨q,r⟩,i⟩:=hB
  have m:j<k:=by simp only[List.length_cons]at hk;omega
  have n:j∈Region.ready md ops listed:=by simpa using q
  have p:qOp P ops W j (wpQuiet P ops W c l) a:=by unfold qOp;simp only[h0];exact h
  obtain⟨w,s,t⟩:=yieldsIn_of_qOp h0 p
  exact zgd h0 (Region.noSelect_spec e) m (fun d f u j g=>by rw[u.1]at g;cases g) l.length listed a inv (Region.free_spec h0 r) n s
   (zeO e l (j+1) _ _ (fun b v=>by have:=hl (b+1) (by simp;omega);simpa [Nat.add_assoc,Nat.add_comm 1 b]using this) (by simp only[List.length_cons]at hk;omega) inv.set i t)
theorem zcR{k t:Nat}{L:Array Bool→Act→Prop}:∀(f:Nat) (listed:Array Bool) (a:Act),zaz P md ops W k L f listed a→(∀b i,ops[b]?=some i→b<k→listed.getD b true=false→i.dst≠some t)→
  ∃x c,L x c∧c.tmps[t]?=a.tmps[t]?
 | 0,listed,a,h,_=>⟨listed,a,h,rfl⟩
 | f+1,listed,a,h,hd=>by
  obtain⟨b,hi⟩:=List.exists_mem_of_ne_nil _ h.1
  obtain⟨y,j⟩:=h.2 b hi
  obtain⟨z,i,n,_⟩:=mem_ready.1 hi
  unfold qOp at j
  simp only[n]at j
  have u:=hd b i n y z
  have s:∀m,(a.put i.dst m).tmps[t]?=a.tmps[t]?:=fun m=>by
   cases hdst:i.dst with
   | none=>rfl
   | some d =>
    have:d≠t:=fun A=>u (by rw[hdst,A])
    simp[Act.put,Array.getElem?_setIfInBounds_ne this]
  have v:∀e l,ops[e]?=some l→e<k→(listed.setIfInBounds b true).getD e true=false→l.dst≠some t:=fun e l o p g=>by
   by_cases w:b=e
   ·subst w;rw[n]at o;cases o;exact u
   ·rw[getD_set_ne true w]at g;exact hd e l o p g
  split at j
  ·obtain⟨m,_,p⟩:=j
   obtain⟨q,c,g,r⟩:=zcR f _ _ p v
   exact⟨q,c,g,r.trans (s m)⟩
  ·obtain⟨q,c,g,r⟩:=zcR f _ _ j v
   exact⟨q,c,g,r.trans (s _)⟩
def StoresAt(P:Program)(ops:Array Oper)(k:Nat):Nat→Nat→List (Nat×TypeId×Value)→List (Nat×Nat)→Prop
 | _,_, [], []=>True
 | ka,s,(d,t,z)::r,(x,h)::xs=>(∃ty pos af,ops[s]?=some ⟨none,.store t (.tmp d) (.tmp x),ty,pos,af,none⟩∧(∃e∈af,Region.binds md e=true∧e.on=h)∧(∃e∈af,Region.binds md e=true∧e.on=ka))∧
   h<k∧(ops[h]?).bind (·.dst)=some x∧(∀w,(Go.sizeOf t).run P w=.ok z.cells.toList.length w)∧StoresAt P ops k (ka+1) (s+1) r xs
 | _,_,_,_=>False
theorem StoresAt.get:∀{als:List (Nat×TypeId×Value)} {xs:List (Nat×Nat)} {k b s j:Nat} {d:Nat} {t:TypeId} {z:Value},StoresAt (md:=md) P ops k b s als xs→als[j]?=some (d,t,z)→∃c a,xs[j]?=some (c,a)∧
  (∃l i f,ops[s+j]?=some ⟨none,.store t (.tmp d) (.tmp c),l,i,f,none⟩∧(∃e∈f,Region.binds md e=true∧e.on=a)∧(∃e∈f,Region.binds md e=true∧e.on=b+j))∧
   a<k∧(ops[a]?).bind (·.dst)=some c∧(∀h,(Go.sizeOf t).run P h=.ok z.cells.toList.length h)
 | [],_,_,_,_,_,_,_,_,_,a=>by simp at a
 | _::_, [],_,_,_,_,_,_,_,hs,_=>hs.elim
 | (d0,t0,z0)::r,(x0,h0)::xs,k,b,s,0,d,t,z,hs,a=>by simp at a;obtain⟨rfl,rfl,rfl⟩:=a;exact⟨x0,h0,rfl,hs.1,hs.2.1,hs.2.2.1,hs.2.2.2.1⟩
 | (d0,t0,z0)::r,(x0,h0)::xs,k,b,s,j+1,d,t,z,hs,a=>by
  obtain⟨c,m,n,g,o⟩:=StoresAt.get hs.2.2.2.2 (j:=j) (by simpa using a)
  rw[show s+1+j=s+(j+1) by omega,show b+1+j=b+(j+1) by omega]at g
  exact⟨c,m,by simpa using n,g,o⟩
def obSt(als:List (Nat×TypeId×Value))(vs:List Value)(dn:List Nat)(j b:Nat):List Ob:=match als[j]?,vs[j]? with|some (_,t,z),some v=>[obC b (if j∈dn then v.cells.toList else z.cells.toList) t]|_,_=>[]
def QO(als:List (Nat×TypeId×Value))(vs:List Value)(dn:List Nat)(ex:List (Nat×Nat)):List Ob:=ex.flatMap fun p=>obSt als vs dn p.1 p.2
def ziQ(md:Region.Mode)(ops:Array Oper)(k:Nat)(ds xs:List Nat):Bool :=
 (List.range k).all fun i=>match ops[i]? with
  | some o=>zeT o&&(o.after.all fun e=>!(Region.binds md e)||decide (e.on<k))&&(ds.all fun d=>!(o.looksAt ops).contains d&&o.dst != some d) &&
    (xs.all fun x=>o.dst != some x||(List.range k).all fun i'=>decide (i'=i)||((ops[i']?).bind (·.dst)) != some x)
  | none=>true
theorem zgV{als:List (Nat×TypeId×Value)}{vs:List Value}{dn:List Nat}{j b:Nat}{B:Nat}{t:TypeId}{z v:Value}(n:als[j]?=some (B,t,z))(o:vs[j]?=some v):
  ∀{ex:List (Nat×Nat)},(ex.map (·.1)).Nodup→(∀a∈ex,a.1<als.length)→als.length=vs.length→(j,b)∈ex→∃k,(QO als vs dn ex)[k]?=some (obC b (if j∈dn then v.cells.toList else z.cells.toList) t)∧∀d,(∀c,c≠j→(c∈d↔c∈dn))→j∈d→(QO als vs dn ex).set k (obC b v.cells.toList t)=QO als vs d ex
 | [],_,_,_,e=>by cases e
 | (j0,b0)::ex,hnd,hl,hlv,e=>by
  simp only[List.map_cons,List.nodup_cons]at hnd
  have hone:∀dn c u,c<als.length→∃D,obSt als vs dn c u=[D]:=fun dn c u y=>by
   have h:als[c]?=some als[c]:=List.getElem?_eq_getElem y
   have p:vs[c]?=some (vs[c]'(by omega)):=List.getElem?_eq_getElem (by omega)
   unfold obSt
   rw[h,p]
   exact⟨_,rfl⟩
  obtain⟨F,s⟩:=hone dn j0 b0 (hl (j0,b0) (by simp))
  have x:∀d,(∀c,c≠j→(c∈d↔c∈dn))→∀f:List (Nat×Nat),(∀a∈f,a.1≠j)→QO als vs dn f=QO als vs d f:=fun d g f=>by
   induction f with
   | nil=>intro _;rfl
   | cons a f ih =>
    intro hp
    have i:=ih (fun E A=>hp E (List.mem_cons_of_mem _ A))
    have q:obSt als vs dn a.1 a.2=obSt als vs d a.1 a.2:=by
     unfold obSt
     have:=g a.1 (hp a (by simp))
     split <;> simp_all
    simp only[QO,List.flatMap_cons]at i ⊢
    rw[i,q]
  rcases List.mem_cons.1 e with e|e
  ·cases e
   have w:obSt als vs dn j b=[obC b (if j∈dn then v.cells.toList else z.cells.toList) t]:=by unfold obSt;rw[n,o]
   refine⟨0,by simp[QO,w],fun d g l=>?_⟩
   have i:obSt als vs d j b=[obC b v.cells.toList t]:=by unfold obSt;rw[n,o];simp[l]
   have m:∀a∈ex,a.1≠j:=fun a hp r=>hnd.1 (by rw[← r];exact List.mem_map.2 ⟨a,hp,rfl⟩)
   have:=x d g ex m
   simp only[QO,List.flatMap_cons]at this ⊢
   rw[w,i]
   simp[this]
  ·obtain⟨k,h,p⟩:=zgV n o hnd.2 (fun a hp=>hl a (List.mem_cons_of_mem _ hp)) hlv e
   have m:j0≠j:=fun r=>hnd.1 (by rw[r];exact List.mem_map.2 ⟨(j,b),e,rfl⟩)
   refine⟨k+1,?_,fun d g l=>?_⟩
   ·simp only[QO,List.flatMap_cons]at h ⊢
    rw[s]
    simpa using h
   ·have q:obSt als vs dn j0 b0=obSt als vs d j0 b0:=by
     unfold obSt
     have:=g j0 m
     split <;> simp_all
    have:=p d g l
    simp only[QO,List.flatMap_cons]at this ⊢
    rw[← q,s]
    simp[this]
theorem zgw{als:List (Nat×TypeId×Value)}{t:Nat}(d:∀(j c:Nat) (ty:TypeId) (z:Value),als[j]?=some (c,ty,z)→c≠t)(a:Act):∀ex,(putA als ex a).tmps[t]?=a.tmps[t]?
 | []=>rfl
 | (j,b)::ex=>by
  rw[putA, ← zgw d a ex]
  cases hj:als[j]? with
  | none=>rfl
  | some p =>
   obtain⟨c,ty,z⟩:=p
   simp[Act.put,Array.getElem?_setIfInBounds_ne (d j c ty z hj)]
theorem zfn{als:List (Nat×TypeId×Value)}{vs:List Value}{dn dn':List Nat}(c:∀b,b<als.length→(b∈dn↔b∈dn')):∀{ex:List (Nat×Nat)},(∀a∈ex,a.1<als.length)→QO als vs dn ex=QO als vs dn' ex
 | [],_=>rfl
 | a::ex,hl=>by
  have e1:=zfn (vs:=vs) c (ex:=ex) (fun f d=>hl f (List.mem_cons_of_mem _ d))
  have e:obSt als vs dn a.1 a.2=obSt als vs dn' a.1 a.2:=by
   unfold obSt
   have:=c a.1 (hl a (by simp))
   split <;> simp_all
  simp only[QO,List.flatMap_cons]at e1 ⊢
  rw[e1,e]
theorem zgS{als:List (Nat×TypeId×Value)}{vs b:List Value}{dn:List Nat}(d:∀e∈dn,vs[e]?=b[e]?)(f:als.length=vs.length)(g:als.length=b.length):∀{ex:List (Nat×Nat)},(∀a∈ex,a.1<als.length)→QO als vs dn ex=QO als b dn ex
 | [],_=>rfl
 | a::ex,hl=>by
  have e1:=zgS d f g (ex:=ex) (fun l h=>hl l (List.mem_cons_of_mem _ h))
  have i:obSt als vs dn a.1 a.2=obSt als b dn a.1 a.2:=by
   have hp:=hl a (by simp)
   have g1:vs[a.1]?=some (vs[a.1]'(by omega)):=List.getElem?_eq_getElem _
   have j:b[a.1]?=some (b[a.1]'(by omega)):=List.getElem?_eq_getElem _
   have k:als[a.1]?=some als[a.1]:=List.getElem?_eq_getElem _
   by_cases c:a.1∈dn
   ·unfold obSt;rw[d a.1 c]
   ·unfold obSt
    rw[g1,j,k]
    simp[c]
  simp only[QO,List.flatMap_cons]at e1 ⊢
  rw[e1,i]
theorem zgg{ro:Option Nat}{nn:Fr}{k B:Nat}{als:List (Nat×TypeId×Value)}{xs:List (Nat×Nat)}{Q:Exit→Act→World→Prop}{d2:Act→Prop}{A:Nat→Prop}{w0:World}{L:List Ob}(n2:k+als.length+als.length=ops.size)(h6:Region.noSelect ops=true)(i9:AllocsAt (md:=md) P ops k als)(g4:StoresAt (md:=md) P ops k k (k+als.length) als xs)(l6:ziQ md ops k (als.map (·.1)) (xs.map (·.1))=true)(h3:((List.range ops.size).all fun a=>match ops[a]? with|some i=>i.after.all fun l=>!(Region.binds md l)||decide (l.on<a)|none=>true)=true)(j0:(als.map (·.1)).Nodup)(j1:∀g∈als,Nat.blt g.1 nn.sz=true)(j2:∀x∈xs.map (·.1),x∉als.map (·.1))(l7:∀w,Kp Dw w0 w→W w)(hB:B≤w0.heap.size)(j3:∀d7,d2 d7→∀(j:Nat) (x b:Nat) h n m,xs[j]?=some (x,b)→als[j]?=some (h,n,m)→∃d,d7.tmps[x]?=some d∧d.cells.toList.length=m.cells.toList.length∧∀d8∈d.cells.toList,d8.oneCell'=true)(j4:∀(ex:List (Nat×Nat)) (e:Act) (vs:List Value) (w:World) (G:Nat→Prop),(ex.map (·.1)).Nodup→(∀g∈ex,g.1<als.length)→ex.length=als.length→vs.length=als.length→(∀j,j<als.length→∀(x b:Nat),xs[j]?=some (x,b)→e.tmps[x]?=vs[j]?)→d2 e→Hp B G w (QO als vs (List.range als.length) ex++L)→Tr Dw B A w0 G w→Q .normal (putA als ex e) w):
  ∀(r f:Nat) (ex:List (Nat×Nat)) (dn:List Nat) (vs:List Value) (listed D:Array Bool) (e:Act) (w:World) (G:Nat→Prop),r=f+(als.length-ex.length)+(als.length-dn.length)→als.length=vs.length→(∀j∈dn,∀(x b:Nat),xs[j]?=some (x,b)→e.tmps[x]?=vs[j]?∧listed.getD b false=true)→(ex.map (·.1)).Nodup→(∀g∈ex,g.1<als.length)→(∀g∈ex,w0.heap.size≤g.2)→dn.Nodup→(∀j∈dn,j<als.length)→(∀j∈dn,j∈ex.map (·.1))→
   Fl k ops.size listed D→listed.size=ops.size→e.tmps.size=nn.sz→
   (∀j,j<als.length→(listed.getD (k+j) false=true↔j∈ex.map (·.1)))→(∀j,j<als.length→(listed.getD (k+als.length+j) false=true↔j∈dn))→
   zaz P md ops W k (fun d9 c5=>Region.ready md ops d9=[]∧d2 c5) f D e→Hp B G w (QO als vs dn ex++L)→Tr Dw B A w0 G w→Kp Dw w0 w→wpAnyIn (FR ro) 0 P md ops Q r listed (putA als ex e) w:=by{
 have c7:∀a i,a<k→ops[a]?=some i→zeT i=true∧(∀l∈i.after,Region.binds md l=true→l.on<k)∧(∀(j h:Nat) (n:TypeId) (m:Value),als[j]?=some (h,n,m)→h∉i.looksAt ops∧i.dst≠some h)∧
   (∀x∈xs.map (·.1),i.dst=some x→∀a6 c6,a6<k→ops[a6]?=some c6→c6.dst=some x→a6=a):=by
  intro a i K t
  have:=List.all_eq_true.1 l6 a (List.mem_range.2 K)
  rw[t]at this
  simp only[Bool.and_eq_true]at this
  obtain⟨⟨⟨q,u⟩,M⟩,d3⟩:=this
  refine⟨q,fun l b6 a7=>?_,fun j h n m c=>?_,fun x E S a6 c6 e5 e6 j5=>?_⟩
  ·have:=Array.all_eq_true'.1 u l b6
   simpa [a7]using this
  ·have N:h∈als.map (·.1):=List.mem_map.2 ⟨_,List.mem_of_getElem? c,rfl⟩
   have:=List.all_eq_true.1 M h N
   simpa using this
  ·have:=List.all_eq_true.1 d3 x E
   rw[S]at this
   simp only[bne_self_eq_false,Bool.false_or]at this
   have:=List.all_eq_true.1 this a6 (List.mem_range.2 e5)
   rw[e6]at this
   simp only[Option.bind_some,j5,bne_self_eq_false,Bool.or_false,decide_eq_true_eq]at this
   exact this
 have a9:∀(p:List Nat),p.Nodup→(∀x∈p,x<als.length)→p.length≤als.length∧(p.length=als.length→∀j,j<als.length→j∈p):=fun p q u=>zej als.length p q u
 have e0:∀ex:List (Nat×Nat),(∀g∈ex,g.1<als.length)→∀x∈ex.map (·.1),x<als.length:=fun ex b x E=>by
  obtain⟨g,hp,rfl⟩:=List.mem_map.1 E
  exact b g hp
 intro r;induction r with
 | zero =>
  intro f ex dn vs listed D e w G l8 b2 b3 T F c1 a4 X c2 J a2 c3 Z S U b7 O a8
  have d4:=a9 _ T (e0 ex F)
  have d5:=a9 dn a4 X
  simp only[List.length_map]at d4
  have l9:f=0:=by omega
  subst l9
  obtain⟨h7,m0⟩:=U
  have j6:D=listed:=by
   apply Array.ext J.size
   intro a q u
   have h2:=J.get a false
   have b8:D.getD a false=D[a]:=by simp[q]
   have a1:listed.getD a false=listed[a]:=by simp[u]
   rw[b8,a1]at h2
   rw[h2]
   split
   rename_i hki
   rcases Nat.lt_or_ge a (k+als.length)with M|M
   have:=(Z (a-k) (by omega)).2 (d4.2 (by omega) _ (by omega))
   rw[show k+(a-k)=a by omega,a1]at this
   exact this.symm
   have:=(S (a-k-als.length) (by omega)).2 (d5.2 (by omega) _ (by omega))
   rw[show k+als.length+(a-k-als.length)=a by omega,a1]at this
   exact this.symm
   rfl
  subst j6
  refine⟨h7,j4 ex e vs w G T F (by omega) b2.symm (fun j c x b E=>(b3 j (d5.2 (by omega) j c) x b E).1) m0 ?_ O⟩
  rw[zfn (dn':=dn) (fun j c=>by simp[c,d5.2 (by omega) j c]) F]
  exact b7
 | succ r ih =>
  intro f ex dn vs listed D e w G l8 b2 b3 T F c1 a4 X c2 J a2 c3 Z S U b7 O a8
  have d4:=a9 _ T (e0 ex F)
  have d5:=a9 dn a4 X
  simp only[List.length_map]at d4
  have h8:Region.ready md ops listed=[]→∀a,a<ops.size→listed.getD a false=true:=by
   intro f6 a
   induction a using Nat.strongRecOn with
   | _ a ihi =>
    intro K
    cases H:listed.getD a false with
    | true=>rfl
    | false =>
     exfalso
     have t:ops[a]?=some ops[a]:=Array.getElem?_eq_getElem K
     have a7:=List.all_eq_true.1 h3 a (List.mem_range.2 K)
     rw[t]at a7
     have N:a∈Region.ready md ops listed:=mem_ready.2 ⟨getD_in (by rw[a2];exact K) H,_,t,fun l b6 j7=>by
      have q:=Array.all_eq_true'.1 a7 l b6
      simp only[j7,Bool.not_true,Bool.false_or,decide_eq_true_eq]at q
      exact ihi l.on q (by omega)⟩
     rw[f6]at N
     cases N
  refine⟨fun f6=>?_,fun a K=>?_⟩
  ·exfalso
   have H:=h8 f6
   cases f with
   | succ f =>
    obtain⟨a,K⟩:=List.exists_mem_of_ne_nil _ U.1
    have a5:=(U.2 a K).1
    obtain⟨q,i,t,_⟩:=mem_ready.1 K
    rw[J.get,if_neg (by omega)]at q
    have:=H a (Array.getElem?_eq_some_iff.1 t).1
    rw[getD_both q]at this
    cases this
   | zero =>
    have b8:als.length≤ex.length:=by
     have e1:∀j,j<als.length→j∈ex.map (·.1):=fun j c=>(Z j c).1 (H _ (by omega))
     have b4:∀(v:Nat) (p:List Nat),(∀j,j<v→j∈p)→v≤p.length:=by
      intro v
      induction v with
      | zero=>intro p _;omega
      | succ v ih =>
       intro p H
       have N:=H v (by omega)
       have q:=ih (p.erase v) (fun j c=>(List.mem_erase_of_ne (by omega)).2 (H j (by omega)))
       have u:=List.length_erase_of_mem N
       have:=List.length_pos_of_mem N
       omega
     have:=b4 als.length (ex.map (·.1)) e1
     simpa using this
    have a1:als.length≤dn.length:=by
     have e1:∀j,j<als.length→j∈dn:=fun j c=>(S j c).1 (H _ (by omega))
     have b4:∀(v:Nat) (p:List Nat),(∀j,j<v→j∈p)→v≤p.length:=by
      intro v
      induction v with
      | zero=>intro p _;omega
      | succ v ih =>
       intro p H
       have N:=H v (by omega)
       have q:=ih (p.erase v) (fun j c=>(List.mem_erase_of_ne (by omega)).2 (H j (by omega)))
       have u:=List.length_erase_of_mem N
       have:=List.length_pos_of_mem N
       omega
     exact b4 als.length dn e1
    omega
  obtain⟨c8,i,t,e2⟩:=mem_ready.1 K
  have m8:=(Array.getElem?_eq_some_iff.1 t).1
  rcases Nat.lt_or_ge a k with a5|a5
  · -- d7 head
   have e7:a∈Region.ready md ops D:=mem_ready.2 ⟨by rw[J.get,if_neg (by omega)];exact c8,i,t,fun l b6 a7=>by
    have d3:=(c7 a i a5 t).2.1 l b6 a7
    rw[J.get,if_neg (by omega)];exact e2 l b6 a7⟩
   cases f with
   | zero=>rw[U.1]at e7;cases e7
   | succ f =>
    have b0:=(U.2 a e7).2
    obtain⟨j8,_,f9,_⟩:=c7 a i a5 t
    obtain⟨b8,a1⟩:=zgt (ops:=ops) (als:=als) (o:=i) (fun m1 y=>Region.noSelect_spec h6 a i m1 y t) (fun j h n m c=>(f9 j h n m c).1) e ex
    have h9:∀d,(putA als ex e).put i.dst d=putA als ex (e.put i.dst d):=fun d=>zgW (fun j h n m c=>(f9 j h n m c).2) e ex
    have g2:∀d,zaz P md ops W k (fun d9 c5=>Region.ready md ops d9=[]∧d2 c5) f (D.setIfInBounds a true) (e.put i.dst d)→
      wpAnyIn (FR ro) 0 P md ops Q r (listed.setIfInBounds a true) ((putA als ex e).put i.dst d) w:=fun d b9=>by
     rw[h9]
     refine ih f ex dn vs _ _ _ w G (by omega) b2 (fun j c x b E=>?_) T F c1 a4 X c2 (J.head a5) (by simp[a2]) ?_ (fun j c=>?_) (fun j c=>?_) b9 b7 O a8
     ·obtain⟨q,u⟩:=b3 j c x b E
      refine⟨?_,getD_set_true u⟩
      have j9:i.dst≠some x:=fun l=>by
       obtain⟨g,hp⟩:∃g,als[j]?=some g:=⟨als[j]'(X j c),List.getElem?_eq_getElem _⟩
       obtain⟨h,n,m⟩:=g
       obtain⟨n3,n4,g5,_,e8,R,_⟩:=g4.get hp
       rw[E]at g5
       cases g5
       cases hoh:ops[b]? with
       | none=>rw[hoh]at R;cases R
       | some oh =>
        rw[hoh,Option.bind_some]at R
        have:=(c7 b oh e8 hoh).2.2.2 x (List.mem_map.2 ⟨(x,b),List.mem_of_getElem? E,rfl⟩) R a i a5 t l
        subst this
        rw[getD_both c8]at u
        cases u
      cases e3:i.dst with
      | none=>exact q
      | some h =>
       have:h≠x:=fun l=>j9 (by rw[e3,l])
       simp only[Act.put]
       rw[Array.getElem?_setIfInBounds_ne this]
       exact q
     ·cases i.dst <;> simp[Act.put,c3]
     ·rw[getD_set_ne false (by omega)];exact Z j c
     ·rw[getD_set_ne false (by omega)];exact S j c
    unfold qOp at b0
    unfold wpOpIn
    simp only[t]at b0 ⊢
    rw[a1]
    split
    ·rename_i hw
     rw[if_pos hw]at b0
     obtain⟨d,q,u⟩:=b0
     have M:=q w (l7 w a8)
     unfold Oper.quietAt at M
     refine⟨fun _ _=>trivial,?_⟩
     generalize a3:(execOp e.eval i).run P w=rr at M
     cases rr with
     | ok nx w' =>
      obtain⟨d8,rfl⟩:=zhg j8 a3
      obtain⟨rfl,rfl⟩:=M
      rw[← b8]at a3
      rw[jA a3 (fun h b=>by cases b)]
      exact g2 _ u
     | halt x w'=>simp only[Oper.quietUpon]at M
    ·rename_i hw
     rw[if_neg hw]at b0
     exact⟨fun _ _=>trivial,g2 _ b0⟩
  rcases Nat.lt_or_ge a (k+als.length)with k0|k0
  · -- an allocation
   obtain⟨g,hp⟩:∃g,als[a-k]?=some g:=⟨als[a-k]'(by omega),List.getElem?_eq_getElem _⟩
   obtain⟨h,n,m⟩:=g
   obtain⟨⟨d6,e9,f7,b5,m9⟩,m2⟩:=i9.get hp
   rw[show k+(a-k)=a by omega]at b5
   have f0:=Option.some.inj (t.symm.trans b5)
   subst f0
   have a0:(a-k)∉ex.map (·.1):=fun b=>by
    have:=(Z (a-k) (by omega)).2 b
    rw[show k+(a-k)=a by omega,getD_both c8]at this
    cases this
   have i0:(a-k)∉dn:=fun b=>a0 (c2 _ b)
   unfold wpOpIn
   simp only[b5]
   rw[if_pos (by simp[Region.wanted])]
   refine⟨fun _ _=>trivial,?_⟩
   have a3:(execOp (putA als ex e).eval (⟨some h,.alloc n,d6,e9,f7,none⟩:Oper)).run P w=.ok (.value (.pointer (some ⟨w.heap.size,0,none⟩))) (w.alloc (.cells m.cells n)):=by
    simp only[execOp,Instr.alloc];simp[m2,newVar,newRow]
   rw[jA a3 (fun h b=>by cases b)]
   have c9:=Nat.le_trans hB O.ex.size
   obtain⟨d,b9⟩:∃d,vs[a-k]?=some d:=⟨vs[a-k]'(by omega),List.getElem?_eq_getElem _⟩
   have d0:Hp B (fun y=>G y∧y≠w.heap.size) (w.alloc (.cells m.cells n)) (QO als vs dn ((a-k,w.heap.size)::ex)++L):=by
    have:=b7.alloc (.cells m.cells n) c9 O.new
    simp only[QO,List.flatMap_cons,obSt,hp,b9]
    rw[if_neg i0]
    simpa [QO,obSt]using this
   have g3:(((a-k,w.heap.size)::ex).map (·.1)).Nodup:=by simpa using ⟨by simpa using a0,T⟩
   have b1:∀g∈(a-k,w.heap.size)::ex,g.1<als.length:=by
    intro g hp
    rcases List.mem_cons.1 hp with rfl|hp
    ·show a-k<als.length
     omega
    ·exact F g hp
   have i1:∀g∈(a-k,w.heap.size)::ex,w0.heap.size≤g.2:=by
    intro g hp
    rcases List.mem_cons.1 hp with rfl|hp
    ·exact a8.size
    ·exact c1 g hp
   have h4:=(a9 _ g3 (e0 _ b1)).1
   simp only[List.map_cons,List.length_cons,List.length_map]at h4
   have b4:=ih f ((a-k,w.heap.size)::ex) dn vs (listed.setIfInBounds a true) D e (w.alloc (.cells m.cells n)) _ (by simp only[List.length_cons];omega) b2 (fun j c x b E=>⟨(b3 j c x b E).1,getD_set_true (b3 j c x b E).2⟩)
    g3 b1 i1 a4 X (fun j c=>by simp only[List.map_cons];exact List.mem_cons_of_mem _ (c2 j c)) (J.alloc ⟨a5,by omega⟩) (by simp[a2]) c3 (fun j c=>?_) (fun j c=>?_) U d0 (O.trans ((zaJ B _ O.new).tr c9)) (Bel.trans a8 (Bel.mono (Kp.alloc _ _) a8.size))
   ·have:putA als ((a-k,w.heap.size)::ex) e=(putA als ex e).put (some h) (.pointer (some ⟨w.heap.size,0,none⟩)):=by
     simp[putA,hp]
    rw[this]at b4
    exact b4
   ·by_cases c4:a=k+j
    ·subst c4
     have:(listed.setIfInBounds (k+j) true).getD (k+j) false=true:=by
      have b1:k+j<listed.size:=by rw[a2];omega
      simp[b1]
     simp[this]
    ·rw[getD_set_ne false c4,Z j c]
     simp only[List.map_cons,List.mem_cons]
     constructor
     ·exact .inr
     ·rintro (b | b)
      ·omega
      ·exact b
   ·rw[getD_set_ne false (by omega)];exact S j c
  · -- d7 store
   obtain⟨j,rfl⟩:∃j,a=k+als.length+j:=⟨a-k-als.length,by omega⟩
   have c:j<als.length:=by omega
   obtain⟨g,hp⟩:∃g,als[j]?=some g:=⟨als[j],List.getElem?_eq_getElem _⟩
   obtain⟨h,n,m⟩:=g
   obtain⟨x,b,f1,⟨d6,e9,f7,b5,⟨b8,k1,k2,i2⟩,⟨a1,k3,k4,i3⟩⟩,e8,R,i4⟩:=g4.get hp
   have f0:=Option.some.inj (t.symm.trans b5)
   subst f0
   have f2:listed.getD b false=true:=by rw[← i2];exact e2 b8 k1 k2
   have k5:listed.getD (k+j) false=true:=by rw[← i3];exact e2 a1 k3 k4
   obtain⟨m7,d1,g6⟩:=List.mem_map.1 ((Z j c).1 k5)
   obtain⟨o,y⟩:=m7
   simp only at g6
   subst g6
   have a0:o∉dn:=fun m3=>by
    have:=(S o c).2 m3
    rw[getD_both c8]at this
    cases this
   have g7:x∈xs.map (·.1):=List.mem_map.2 ⟨(x,b),List.mem_of_getElem? f1,rfl⟩
   have k6:∃d,e.tmps[x]?=some d∧d.cells.toList.length=m.cells.toList.length∧∀d8∈d.cells.toList,d8.oneCell'=true:=by
    obtain⟨n5,c5,⟨_,k7⟩,k8⟩:=zcR (t:=x) f D e U (fun a6 c6 e6 e5 g8 e3=>by
     cases hoh:ops[b]? with
     | none=>rw[hoh]at R;cases R
     | some oh =>
      rw[hoh,Option.bind_some]at R
      have:=(c7 b oh e8 hoh).2.2.2 x g7 R a6 c6 e5 e6 e3
      subst this
      rw[J.get,if_neg (by omega), ]at g8
      rw[getD_both g8]at f2
      cases f2)
    rw[← k8]
    exact j3 c5 k7 o x b h n m f1 hp
   obtain⟨d,g9,h0⟩:=k6
   have k9:(putA als ex e).tmps[x]?=some d:=by
    rw[zgw (fun j h d6 m f3 l=>j2 x g7 (by rw[← l];exact List.mem_map.2 ⟨_,List.mem_of_getElem? f3,rfl⟩))]
    exact g9
   have e4:als.length=(vs.set o d).length:=by simpa using b2
   have b9:(vs.set o d)[o]?=some d:=List.getElem?_set_self (by omega)
   have h1:∀s,s≠o→(vs.set o d)[s]?=vs[s]?:=fun s b=>by rw[List.getElem?_set_ne (Ne.symm b)]
   have l0:QO als vs dn ex=QO als (vs.set o d) dn ex:=zgS (fun s z=>(h1 s (fun l=>a0 (l▸z))).symm) b2 e4 F
   rw[l0]at b7
   have i5:(putA als ex e).tmps[h]?=some (.pointer (some ⟨y,0,none⟩)):=by
    have:=(zfv (n:=⟨nn.sz,e.defers,none⟩) (E := []) (als:=als) (a:=e) (fun j h n m f3=>⟨j1 _ (List.mem_of_getElem? f3),rfl⟩) j0 ⟨c3,rfl,fun n d b=>by cases b⟩ ex T F).2 (o,y) d1 h n m hp
    exact this
   obtain⟨i6,f4,i7⟩:=zgV (vs:=vs.set o d) (dn:=dn) hp b9 T F e4 d1
   rw[if_neg a0]at f4
   have c9:=Nat.le_trans hB O.ex.size
   have f8:=(List.getElem?_eq_some_iff.1 f4).1
   have i8:(QO als (vs.set o d) dn ex++L)[i6]?=some (obC y m.cells.toList n):=by rw[List.getElem?_append_left f8];exact f4
   obtain⟨a3,d0,l4⟩:=b7.storeAt (P:=P) (off:=0) (sz:=m.cells.toList.length) (ds:=d.cells.toList) (nv:=d) i8 i4 (by rw[← Array.length_toList,h0.1]) (by omega) h0.2 (by
    rw[List.drop_eq_nil_of_le (by omega)]
    simp) c9 O.new
   rw[List.set_append_left _ _ f8,i7 (o::dn) (fun s z=>by simp[z]) (by simp)]at d0
   unfold wpOpIn
   simp only[b5]
   rw[if_pos (by simp[Region.wanted])]
   refine⟨fun _ _=>trivial,?_⟩
   have h5:(execOp (putA als ex e).eval (⟨none,.store n (.tmp h) (.tmp x),d6,e9,f7,none⟩:Oper)).run P w=.ok .skip (w.setRow y d.cells.toList.toArray):=by
    have m4:(putA als ex e).eval (.tmp h)=.pointer (some ⟨y,0,none⟩):=by simp[Act.eval,Array.getD_eq_getD_getElem?,i5]
    have l5:(putA als ex e).eval (.tmp x)=d:=by simp[Act.eval,Array.getD_eq_getD_getElem?,k9]
    simp only[execOp,m4,l5]
    simp[a3]
   rw[jA h5 (fun h b=>by cases b)]
   have n0:w0.heap.size≤y:=c1 (o,y) d1
   refine ih f ex (o::dn) (vs.set o d) (listed.setIfInBounds (k+als.length+o) true) D e (w.setRow y d.cells.toList.toArray) G (by
     have:=(a9 (o::dn) (List.nodup_cons.2 ⟨a0,a4⟩) (fun c0 I=>by
      rcases List.mem_cons.1 I with rfl|I
      ·exact c
      ·exact X c0 I)).1
     simp only[List.length_cons]at this ⊢
     omega) e4 (fun s z m5 u f5=>?_) T F c1 (List.nodup_cons.2 ⟨a0,a4⟩) (fun c0 I=>?_) (fun c0 I=>?_) (J.alloc ⟨by omega,by omega⟩) (by simp[a2]) c3 (fun s z=>?_) (fun s z=>?_) U d0 (O.trans l4) (Bel.trans a8 ⟨rfl,rfl,rfl,by simp,fun _=>Nat.le_refl _,fun m6 n1=>setRow_other w y m6 _ (by omega)⟩)
   ·rcases List.mem_cons.1 z with rfl|z
    ·rw[f1]at f5
     cases f5
     exact⟨by rw[b9];exact g9,getD_set_true f2⟩
    ·obtain⟨M,d3⟩:=b3 s z m5 u f5
     exact⟨by rw[h1 s (fun l=>a0 (l▸z))];exact M,getD_set_true d3⟩
   ·rcases List.mem_cons.1 I with rfl|I
    ·exact c
    ·exact X c0 I
   ·rcases List.mem_cons.1 I with rfl|I
    ·exact List.mem_map.2 ⟨(c0,y),d1,rfl⟩
    ·exact c2 c0 I
   ·rw[getD_set_ne false (by omega)];exact Z s z
   ·by_cases c4:s=o
    ·subst c4
     have:(listed.setIfInBounds (k+als.length+s) true).getD (k+als.length+s) false=true:=by
      have b1:k+als.length+s<listed.size:=by rw[a2];omega
      simp[b1]
     simp[this]
    ·rw[getD_set_ne false (by omega),S s z]
     simp[c4]}
def objV:List (Nat×TypeId×Value)→List Value→(Nat→Nat)→Nat→List Ob
 | (_,t,_)::r,v::vs,b,j=>obC (b j) v.cells.toList t::objV r vs b (j+1)
 | _,_,_,_=>[]
def defB(md:Region.Mode)(ops:Array Oper)(k:Nat)(ds xs:List Nat):Bool :=
 Region.noSelect ops&&ziQ md ops k ds xs&&(xs.all fun x=>!ds.contains x) &&
  ((List.range ops.size).all fun i=>match ops[i]? with|some o=>o.after.all fun e=>!(Region.binds md e)||decide (e.on<i)|none=>true) &&
  zcX md ops k 0 ((List.range ops.size).map fun i=>decide (k≤i∧i<ops.size)).toArray
theorem zge{E:Env}:∀{xs:List (Nat×Nat)} {vs:List Value},evs E (xs.map fun d=>Operand.tmp d.1)=some vs→xs.length=vs.length∧∀(j:Nat) (x a:Nat),xs[j]?=some (x,a)→∃c,vs[j]?=some c∧E.get x=some c
 | [],vs,a=>by cases a;exact⟨rfl,fun j x a b=>by simp at b⟩
 | (x0,h0)::xs,vs,a=>by
  rw[List.map_cons,evs]at a
  split at a
  ·rename_i c vs' h1 h2
   cases a
   obtain⟨h3,h4⟩:=zge h2
   refine⟨by simp[h3],fun j x a b=>?_⟩
   cases j with
   | zero=>simp at b;obtain⟨rfl,rfl⟩:=b;exact⟨c,rfl,h1⟩
   | succ j=>simp at b;simpa using h4 j x a b
  ·cases a
theorem zhp(b:Nat→Nat):∀(als a:List (Nat×TypeId×Value)) (vs c:List Value),a.length=c.length→als.length=vs.length→objV als vs b a.length=(List.range' a.length als.length).flatMap fun e=>obSt (a++als) (c++vs) (List.range (a++als).length) e (b e)
 | [],a,vs,c,_,h=>by cases vs <;> simp[objV]
 | (d,t,z)::r,a, [],c,_,h=>by simp at h
 | (d,t,z)::r,a,v::vs,c,hp,h=>by
  have:=zhp b r (a++[(d,t,z)]) vs (c++[v]) (by simp[hp]) (by simpa using h)
  simp only[List.length_append,List.length_cons,List.length_nil,Nat.zero_add,List.append_assoc,List.cons_append,List.nil_append]at this
  simp only[objV,List.length_cons,List.range'_succ,List.flatMap_cons]
  rw[this]
  have f:(a++(d,t,z)::r)[a.length]?=some (d,t,z):=by simp
  have g:(c++v::vs)[a.length]?=some v:=by simp[hp]
  simp only[obSt,f,g,List.length_append,List.length_cons]
  rw[if_pos (by simp)]
  rfl
def Fits:List (Nat×TypeId×Value)→List Value→Prop
 | [], []=>True
 | (_,_,z)::r,v::vs=>v.cells.toList.length=z.cells.toList.length∧(∀u∈v.cells.toList,u.oneCell'=true)∧Fits r vs
 | _,_=>False
theorem Fits.get:∀{als:List (Nat×TypeId×Value)} {vs:List Value} {j:Nat} {a:Nat} {t:TypeId} {z v:Value},Fits als vs→als[j]?=some (a,t,z)→vs[j]?=some v→v.cells.toList.length=z.cells.toList.length∧∀c∈v.cells.toList,c.oneCell'=true
 | [],_,_,_,_,_,_,_,h,_=>by simp at h
 | _::_, [],_,_,_,_,_,h,_,_=>h.elim
 | (d0,t0,z0)::r,b::vs,0,a,t,z,v,hf,h1,h2=>by
  simp at h1 h2
  obtain⟨rfl,rfl,rfl⟩:=h1
  subst h2
  exact⟨hf.1,hf.2.1⟩
 | (d0,t0,z0)::r,b::vs,j+1,a,t,z,v,hf,h1,h2=>Fits.get (j:=j) hf.2.2 (by simpa using h1) (by simpa using h2)
theorem zcS{nn:Fr}{Q:Exit→Act→World→Prop}{E:Env}{w:World}{l:List Oper}{id k B:Nat}{A:Nat→Prop}{L:List Ob}(als:List (Nat×TypeId×Value))(xs:List (Nat×Nat))(y:P.follows .mixedOrders=true)(O:defB .any l.toArray k (als.map (·.1)) (xs.map (·.1))=true)(a0:k+als.length+als.length=l.length)(G:AllocsAt (md := .any) P l.toArray k als)(b5:StoresAt (md := .any) P l.toArray k k (k+als.length) als xs)(d5:als.length=xs.length)(T:(als.all fun d=>Nat.blt d.1 nn.sz)=true)(U:(als.map (·.1)).Nodup)(c5:Hp B A w L)(hB:B≤w.heap.size)(c6:∀b,w.heap.size≤b→A b)(d2:VQ P nn l.toArray (fun w'=>Kp Dw w w') (fun a1=>∃o r,Has nn a1 o∧(als.all fun d=>(o.get d.1).isNone)=true∧evs o (xs.map fun d=>Operand.tmp d.1)=some r∧Fits als r∧
   ∀(b:Nat→Nat) (w':World) (s:Nat→Prop),Hp B s w' (objV als r b 0++L)→Tr Dw B A w s w'→∀W,Has nn W (envB als b 0++o)→Q .normal W w') (l.take k) E):
  C P nn (.region id l.toArray true) Q E w:=by{
 intro K a2;simp only[defB,Bool.and_eq_true]at O;obtain⟨⟨⟨⟨R,c7⟩,b6⟩,a7⟩,b0⟩:=O;refine wpIn_region_any y ?_
 have M:∀e f,(((List.range l.toArray.size).map fun e=>decide (k≤e∧e<l.toArray.size)).toArray).getD e f=if k≤e∧e<l.toArray.size then true else (Array.replicate l.toArray.size false).getD e f:=by
  intro e f
  rcases Nat.lt_or_ge e l.toArray.size with J|J
  have t:e<l.length:=by simpa using J
  by_cases X:k≤e
  simp[t,X]
  simp[t,X]
  have t:¬e<l.length:=by simpa using J
  rw[if_neg (by omega)]
  simp[t]
 have b7:Fl k l.toArray.size (Array.replicate l.toArray.size false) (((List.range l.toArray.size).map fun e=>decide (k≤e∧e<l.toArray.size)).toArray):=⟨by simp,by rw[Array.size_replicate];omega,M⟩;have b1:Flg l.toArray k (((List.range l.toArray.size).map fun e=>decide (k≤e∧e<l.toArray.size)).toArray):=fun n i j=>by rw[M,if_pos ⟨i,j⟩]
 have u:(l.take k).length=k:=by rw[List.length_take];omega
 have z:=zeO (md := .any) (k:=k) R (l.take k) 0 _ K (fun a c=>by
  have b8:a<k:=by rw[u]at c;exact c
  simp[b8]) (by simpa using u) b1 (by rw[u];exact b0) (d2 K a2)
 rw[u]at z
 have b2:∀h∈xs.map (·.1),h∉als.map (·.1):=fun h m=>by
  have:=List.all_eq_true.1 b6 h m
  simpa using this
 have Z:=zgg (ro:=nn.ro) (nn:=nn) (md := .any) (P:=P) (ops:=l.toArray) (W:=fun w'=>Kp Dw w w') (Q:=Q) (A:=A) (w0:=w) (L:=L) (B:=B) (als:=als) (xs:=xs) (by simpa using a0) R G b5 c7 a7 U (fun d hp=>List.all_eq_true.1 T d hp) b2 (fun w' b9=>b9) hB ?_ ?_
  (k+als.length+als.length) k [] [] (List.replicate als.length undef) (Array.replicate l.toArray.size false) _ K { w with drawn:=w.drawn+1 } A (by simp) (by simp) (fun a c=>by cases c) (by simp) (by simp) (by simp) (by simp) (fun a c=>by cases c) (fun a c=>by cases c) b7 (by simp) a2.size
  (fun a c=>by rw[getD_replicate_false];simp) (fun a c=>by rw[getD_replicate_false];simp) z (by
   show Hp B A _ ([]++L)
   exact c5.kp (Kp.drew (Dw:=Dw) _)) (Kp.tr (Kp.drew (Dw:=Dw) w) c6 hB) (Kp.drew (Dw:=Dw) _)
 have d3:k+als.length+als.length=l.toArray.size:=by simpa using a0
 rw[d3]at Z;exact Z;rintro a1⟨o,r,v,_,H,S,_⟩a h D f n p m G;obtain⟨F,i,j⟩:=(zge H).2 a h D m;exact⟨F,v.get h F j,S.get G i⟩;intro ex c8 g w' s x I b3 d6 c0 c9 c1 d0;obtain⟨o,r,v,a8,H,S,d1⟩:=c9;obtain⟨d7,c2⟩:=zge H
 have c3:g=r:=by
  apply List.ext_getElem?
  intro a
  rcases Nat.lt_or_ge a als.length with c|c
  obtain⟨⟨h,D⟩,m⟩:∃d,xs[a]?=some d:=⟨xs[a]'(by omega),List.getElem?_eq_getElem _⟩
  obtain⟨F,i,j⟩:=c2 a h D m
  rw[← c0 a c h D m,v.get h F j,i]
  rw[List.getElem?_eq_none (by omega),List.getElem?_eq_none (by omega)]
 subst c3;obtain⟨b,a3⟩:=ziU x
 have a5:∀(a f:Nat) (n:TypeId) (p:Value),als[a]?=some (f,n,p)→Nat.blt f nn.sz=true∧o.get f=none:=by
  intro a f n p c
  have y:=List.mem_of_getElem? c
  have i:=List.all_eq_true.1 T _ y
  have j:=List.all_eq_true.1 a8 _ y
  exact⟨i,Option.isNone_iff_eq_none.1 j⟩
 obtain⟨i,j⟩:=zfv a5 U v ex x I
 have N:∀a,a<als.length→a∈ex.map (·.1):=(zej als.length (ex.map (·.1)) x (fun h m=>by
  obtain⟨d,hp,rfl⟩:=List.mem_map.1 m
  exact I d hp)).2 (by simpa using b3)
 have a6:∀(a f:Nat) (n:TypeId) (p:Value),als[a]?=some (f,n,p)→(putA als ex c8).tmps[f]?=some (.pointer (some ⟨b (([]:List (Nat×TypeId×Value)).length+a),0,none⟩)):=by
  intro a f n p c
  obtain⟨d,hp,rfl⟩:=List.mem_map.1 (N a (List.getElem?_eq_some_iff.1 c).1)
  have:=j d hp f n p c
  rw[a3 d hp]at this
  simpa using this
 have b4:QO als g (List.range als.length) ex=(ex.map (·.1)).flatMap fun a=>obSt als g (List.range als.length) a (b a):=by
  have:∀q:List (Nat×Nat),(∀d∈q,d.2=b d.1)→QO als g (List.range als.length) q=(q.map (·.1)).flatMap fun a=>obSt als g (List.range als.length) a (b a):=by
   intro q
   induction q with
   | nil=>intro _;rfl
   | cons d q ih =>
    intro hp
    have a4:=ih (fun d4 z=>hp d4 (List.mem_cons_of_mem _ z))
    simp only[QO,List.flatMap_cons,List.map_cons]at a4 ⊢
    rw[a4,hp d (by simp)]
  exact this ex a3
 have a9:(QO als g (List.range als.length) ex).Perm (objV als g b 0):=by
  rw[b4,show objV als g b 0=objV als g b ([]:List (Nat×TypeId×Value)).length from rfl,zhp b als [] g [] rfl (by omega)]
  simp only[List.length_nil,List.nil_append]
  refine List.Perm.flatMap_right _ ?_
  rw[← List.range_eq_range']
  refine (List.perm_ext_iff_of_nodup x List.nodup_range).2 fun a=>?_
  constructor
  intro c
  obtain⟨d,hp,rfl⟩:=List.mem_map.1 c
  exact List.mem_range.2 (I d hp)
  intro c
  exact N a (List.mem_range.1 c)
 have c4:Hp B s w' (objV als g b 0++L):=c1.perm (a9.append_right L);have:=d1 b w' s c4 d0 _ (zgN i als [] a6);exact this}
end
end Go.Gw
