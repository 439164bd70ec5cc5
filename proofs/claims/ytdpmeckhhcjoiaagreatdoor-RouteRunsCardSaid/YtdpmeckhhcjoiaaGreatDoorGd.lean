import Derived.Test.YtdpmeckhhcjoiaaGreatDoorGa
namespace Go.Gw
open Go Go.RowKit Go.Pu
variable{Dw:Prop}
set_option linter.unusedSimpArgs false
set_option linter.unusedVariables false
theorem Hp.storeAt{P:Program}{B i b off sz:Nat}{A:Nat→Prop}{w:World}{L:List Ob}{cs ds:List Value}{t c:TypeId}{nv:Value}(u:Hp B A w L)(hi:L[i]?=some (obC b cs c))(v:∀w,(Go.sizeOf t).run P w=.ok sz w)(k:nv.cells.size=sz)(D:off+sz≤cs.length)(n:∀y∈nv.cells.toList,y.oneCell'=true)(q:cs.take off++nv.cells.toList++cs.drop (off+sz)=ds)(hB:B≤w.heap.size)(x:∀b,w.heap.size≤b→A b):
  (Instr.storeAt t (.pointer (some ⟨b,off,none⟩)) nv).run P w=.ok () (w.setRow b ds.toArray)∧Hp B A (w.setRow b ds.toArray) (L.set i (obC b ds c))∧Tr Dw B A w A (w.setRow b ds.toArray):=by{
 obtain⟨E,⟨rfl,m⟩,d,o⟩:=u.at hi;have r:nv.cells.toList.length=sz:=by simpa using k
 have g:=run_storeCells_at P b off c nv.cells.toList 0 cs.toArray w m (by simp;omega) n;rw[Nat.add_zero]at g
 have p:((cs.toArray.toList.take off++nv.cells.toList++cs.toArray.toList.drop (off+nv.cells.toList.length))).toArray=ds.toArray:=by
  rw[← q,r]
 rw[p]at g
 have l:Mv Dw B A w A (w.setRow b ds.toArray) (some b) :=
  ⟨rfl,rfl,rfl,by simp,fun _=>Nat.le_refl _,fun h e s=>setRow_other w b h _ (fun z=>s (by rw[z])),fun h e=>by cases e;exact⟨(d b (by simp)).1,(d b (by simp)).2.2⟩,fun _ j=>j,fun _ _ j=>j,fun f a=>x f (by simpa using a)⟩
 refine⟨?_,o A _ (some b) _ _ l (fun h e=>by cases e;simp) ⟨rfl,setRow_heap w b cs.toArray _ c _ m⟩ fun f a=>⟨.inl a,(d f a).1,(d f a).2.2⟩,l.tr hB⟩;simp only[Instr.storeAt,Instr.sureAddr];simp[storeVar,v,k,g]}
section
variable{P:Program}{ops:Array Oper}{md:Region.Mode}{W:World→Prop}
def Flg(ops:Array Oper)(k:Nat)(listed:Array Bool):Prop:=∀t,k≤t→t<ops.size→listed.getD t true=true
theorem Flg.set{k i:Nat}{listed:Array Bool}(f:Flg ops k listed):Flg ops k (listed.setIfInBounds i true):=fun c d e=>by
 by_cases b:i=c
 ·subst b
  rcases Nat.lt_or_ge i listed.size with a|a
  ·simp[a]
  ·rw[Array.getD_eq_getD_getElem?,Array.getElem?_eq_none (by simpa using a)];rfl
 ·rw[getD_set_ne true b];exact f c d e
theorem Flg.lt{k j:Nat}{listed:Array Bool}(e:Flg ops k listed)(c:j∈Region.ready md ops listed):j<k:=by{obtain⟨b,f,d,_⟩:=mem_ready.1 c;rcases Nat.lt_or_ge j k with a|a;exact a;rw[e j a (Array.getElem?_eq_some_iff.1 d).1]at b;cases b}
theorem zlD{k i:Nat}{g:Oper}{v:Value}{L:Array Bool→Act→Prop}(hi:ops[i]?=some g)(z:∀(j:Nat) (o:Oper) l n,ops[j]?=some o→o.op≠.select l n)(S:i<k)(F:∀listed a,L listed a→∀j∈Region.ready md ops listed,k≤j):
  ∀(f:Nat) (listed:Array Bool) (a:Act),Flg ops k listed→
   (∀j d,ops[j]?=some d→j≠i→listed.getD j true=false→(∀b∈d.after,Region.binds md b=true→b.on≠i)→g.apart ops d=true)→
   i∈Region.ready md ops listed→YieldsIn P ops W g v a→
   zdc P md ops W k L f (listed.setIfInBounds i true) (a.put g.dst v)→zdc P md ops W k L (f+1) listed a:=by{
 intro f;induction f with
 | zero =>
  intro listed a q _ e s p
  refine⟨fun x=>(by rw[x]at e;cases e),fun j h=>?_⟩
  have u:j<k:=q.lt h
  refine⟨u,?_⟩
  by_cases c:j=i
  subst c;exact s.qOp hi p
  have:=F _ _ p j (ready_mono h c)
  omega
 | succ f ih =>
  intro listed a q y e s p
  have r:=(mem_ready.1 e).1
  refine⟨fun x=>(by rw[x]at e;cases e),fun j h=>?_⟩
  have u:j<k:=q.lt h
  refine⟨u,?_⟩
  by_cases c:j=i
  subst c;exact s.qOp hi p
  have t:=(p.2 j (ready_mono h c)).2
  obtain⟨A,d,w,G⟩:=mem_ready.1 h
  have H:∀b∈d.after,Region.binds md b=true→b.on≠i:=fun b M N I=>by
   have t:=G b M N
   rw[I,getD_both r]at t
   cases t
  have O:=qOp_put w (y j d w c A H) (fun l n=>z i g l n hi) (fun l n=>z j d l n w) s t
  have E:∀k m,ops[k]?=some m→k≠i→(listed.setIfInBounds j true).getD k true=false→
    (∀b∈m.after,Region.binds md b=true→b.on≠i)→g.apart ops m=true:=fun k m Q J r K=>by
   refine y k m Q J ?_ K
   by_cases B:j=k
   ·subst B;exact A
   ·rw[getD_set_ne true B]at r;exact r
  refine qOp_mono (fun R D=>ih (listed.setIfInBounds j true) R q.set E (ready_mono e (Ne.symm c)) D.1 ?_) O
  rw[Array.setIfInBounds_comm _ _ c]
  exact D.2}
def zgJ(md:Region.Mode)(ops:Array Oper):Nat→Nat→Array Bool→Bool
 | 0,_,listed=>(Region.ready md ops listed).isEmpty
 | f+1,k,listed=>(Region.ready md ops listed).contains k&&Region.free md ops listed k&&zgJ md ops f (k+1) (listed.setIfInBounds k true)
theorem zjG{k:Nat}{c:Act→Prop}(e:Region.noSelect ops=true):
  ∀(l:List Oper) (j:Nat) (listed:Array Bool) (a:Act),(∀b,b<l.length→l[b]?=ops[j+b]?)→j+l.length=k→Flg ops k listed→
  zgJ md ops l.length j listed=true→wpQuiet P ops W c l a→
  zdc P md ops W k (fun d f=>Region.ready md ops d=[]∧c f) l.length listed a
 | [],j,listed,a,_,hk,_,hB,h=>⟨by simpa [zgJ]using hB,h⟩
 | o::l,j,listed,a,hl,hk,inv,hB,h=>by
  have h0:ops[j]?=some o:=by simpa using (hl 0 (by simp)).symm
  simp only[List.length_cons,zgJ,Bool.and_eq_true]at hB
  obtain⟨⟨q,r⟩,i⟩:=hB
  have m:j<k:=by simp only[List.length_cons]at hk;omega
  have n:j∈Region.ready md ops listed:=by simpa using q
  have p:qOp P ops W j (wpQuiet P ops W c l) a:=by unfold qOp;simp only[h0];exact h
  obtain⟨w,s,t⟩:=yieldsIn_of_qOp h0 p
  exact zlD h0 (Region.noSelect_spec e) m (fun d f u j g=>by rw[u.1]at g;cases g) l.length listed a inv (Region.free_spec h0 r) n s
   (zjG e l (j+1) _ _ (fun b v=>by have:=hl (b+1) (by simp;omega);simpa [Nat.add_assoc,Nat.add_comm 1 b]using this) (by simp only[List.length_cons]at hk;omega) inv.set i t)
theorem zgA{k t:Nat}{L:Array Bool→Act→Prop}:∀(f:Nat) (listed:Array Bool) (a:Act),zdc P md ops W k L f listed a→(∀b i,ops[b]?=some i→b<k→listed.getD b true=false→i.dst≠some t)→
  ∃x c,L x c∧c.tmps[t]?=a.tmps[t]?
 | 0,listed,a,h,_=>⟨listed,a,h,rfl⟩
 | f+1,listed,a,h,hd=>by
  obtain⟨b,hi⟩:=List.exists_mem_of_ne_nil _ h.1
  obtain⟨y,j⟩:=h.2 b hi
  obtain⟨z,i,n,_⟩:=mem_ready.1 hi
  unfold qOp at j
  simp only[n]at j
  have u:=hd b i n y z
  have s:∀m,(a.put i.dst m).tmps[t]?=a.tmps[t]?:=fun m=>by
   cases hdst:i.dst with
   | none=>rfl
   | some d =>
    have:d≠t:=fun A=>u (by rw[hdst,A])
    simp[Act.put,Array.getElem?_setIfInBounds_ne this]
  have v:∀e l,ops[e]?=some l→e<k→(listed.setIfInBounds b true).getD e true=false→l.dst≠some t:=fun e l o p g=>by
   by_cases w:b=e
   ·subst w;rw[n]at o;cases o;exact u
   ·rw[getD_set_ne true w]at g;exact hd e l o p g
  split at j
  ·obtain⟨m,_,p⟩:=j
   obtain⟨q,c,g,r⟩:=zgA f _ _ p v
   exact⟨q,c,g,r.trans (s m)⟩
  ·obtain⟨q,c,g,r⟩:=zgA f _ _ j v
   exact⟨q,c,g,r.trans (s _)⟩
def StoresAt(P:Program)(ops:Array Oper)(k:Nat):Nat→Nat→List (Nat×TypeId×Value)→List (Nat×Nat)→Prop
 | _,_, [], []=>True
 | ka,s,(d,t,z)::r,(x,h)::xs=>(∃ty pos af,ops[s]?=some ⟨none,.store t (.tmp d) (.tmp x),ty,pos,af,none⟩∧(∃e∈af,Region.binds md e=true∧e.on=h)∧(∃e∈af,Region.binds md e=true∧e.on=ka))∧
   h<k∧(ops[h]?).bind (·.dst)=some x∧(∀w,(Go.sizeOf t).run P w=.ok z.cells.toList.length w)∧StoresAt P ops k (ka+1) (s+1) r xs
 | _,_,_,_=>False
theorem StoresAt.get:∀{als:List (Nat×TypeId×Value)} {xs:List (Nat×Nat)} {k b s j:Nat} {d:Nat} {t:TypeId} {z:Value},StoresAt (md:=md) P ops k b s als xs→als[j]?=some (d,t,z)→∃c a,xs[j]?=some (c,a)∧
  (∃i pos f,ops[s+j]?=some ⟨none,.store t (.tmp d) (.tmp c),i,pos,f,none⟩∧(∃e∈f,Region.binds md e=true∧e.on=a)∧(∃e∈f,Region.binds md e=true∧e.on=b+j))∧
   a<k∧(ops[a]?).bind (·.dst)=some c∧(∀h,(Go.sizeOf t).run P h=.ok z.cells.toList.length h)
 | [],_,_,_,_,_,_,_,_,_,a=>by simp at a
 | _::_, [],_,_,_,_,_,_,_,hs,_=>hs.elim
 | (d0,t0,z0)::r,(x0,h0)::xs,k,b,s,0,d,t,z,hs,a=>by simp at a;obtain⟨rfl,rfl,rfl⟩:=a;exact⟨x0,h0,rfl,hs.1,hs.2.1,hs.2.2.1,hs.2.2.2.1⟩
 | (d0,t0,z0)::r,(x0,h0)::xs,k,b,s,j+1,d,t,z,hs,a=>by
  obtain⟨c,l,m,g,n⟩:=StoresAt.get hs.2.2.2.2 (j:=j) (by simpa using a)
  rw[show s+1+j=s+(j+1) by omega,show b+1+j=b+(j+1) by omega]at g
  exact⟨c,l,by simpa using m,g,n⟩
def obSt(als:List (Nat×TypeId×Value))(vs:List Value)(dn:List Nat)(j b:Nat):List Ob:=match als[j]?,vs[j]? with|some (_,t,z),some v=>[obC b (if j∈dn then v.cells.toList else z.cells.toList) t]|_,_=>[]
def Jo(als:List (Nat×TypeId×Value))(vs:List Value)(dn:List Nat)(ex:List (Nat×Nat)):List Ob:=ex.flatMap fun p=>obSt als vs dn p.1 p.2
def zqA(md:Region.Mode)(ops:Array Oper)(k:Nat)(ds xs:List Nat):Bool :=
 (List.range k).all fun i=>match ops[i]? with
  | some o=>zjN o&&(o.after.all fun e=>!(Region.binds md e)||decide (e.on<k))&&(ds.all fun d=>!(o.looksAt ops).contains d&&o.dst != some d) &&
    (xs.all fun x=>o.dst != some x||(List.range k).all fun i'=>decide (i'=i)||((ops[i']?).bind (·.dst)) != some x)
  | none=>true
theorem znH{als:List (Nat×TypeId×Value)}{vs:List Value}{dn:List Nat}{j b:Nat}{d:Nat}{t:TypeId}{z v:Value}(p:als[j]?=some (d,t,z))(q:vs[j]?=some v):
  ∀{ex:List (Nat×Nat)},(ex.map (·.1)).Nodup→(∀a∈ex,a.1<als.length)→als.length=vs.length→(j,b)∈ex→∃m,(Jo als vs dn ex)[m]?=some (obC b (if j∈dn then v.cells.toList else z.cells.toList) t)∧∀e,(∀c,c≠j→(c∈e↔c∈dn))→j∈e→(Jo als vs dn ex).set m (obC b v.cells.toList t)=Jo als vs e ex
 | [],_,_,_,f=>by cases f
 | (j0,b0)::ex,hnd,hl,hlv,f=>by
  simp only[List.map_cons,List.nodup_cons]at hnd
  have hone:∀dn c x,c<als.length→∃E,obSt als vs dn c x=[E]:=fun dn c x B=>by
   have k:als[c]?=some als[c]:=List.getElem?_eq_getElem B
   have r:vs[c]?=some (vs[c]'(by omega)):=List.getElem?_eq_getElem (by omega)
   unfold obSt
   rw[k,r]
   exact⟨_,rfl⟩
  obtain⟨G,w⟩:=hone dn j0 b0 (hl (j0,b0) (by simp))
  have A:∀e,(∀c,c≠j→(c∈e↔c∈dn))→∀g:List (Nat×Nat),(∀a∈g,a.1≠j)→Jo als vs dn g=Jo als vs e g:=fun e h g=>by
   induction g with
   | nil=>intro _;rfl
   | cons a g ih =>
    intro i
    have l:=ih (fun F D=>i F (List.mem_cons_of_mem _ D))
    have s:obSt als vs dn a.1 a.2=obSt als vs e a.1 a.2:=by
     unfold obSt
     have:=h a.1 (i a (by simp))
     split <;> simp_all
    simp only[Jo,List.flatMap_cons]at l ⊢
    rw[l,s]
  rcases List.mem_cons.1 f with f|f
  ·cases f
   have y:obSt als vs dn j b=[obC b (if j∈dn then v.cells.toList else z.cells.toList) t]:=by unfold obSt;rw[p,q]
   refine⟨0,by simp[Jo,y],fun e h n=>?_⟩
   have l:obSt als vs e j b=[obC b v.cells.toList t]:=by unfold obSt;rw[p,q];simp[n]
   have o:∀a∈ex,a.1≠j:=fun a i u=>hnd.1 (by rw[← u];exact List.mem_map.2 ⟨a,i,rfl⟩)
   have:=A e h ex o
   simp only[Jo,List.flatMap_cons]at this ⊢
   rw[y,l]
   simp[this]
  ·obtain⟨m,k,r⟩:=znH p q hnd.2 (fun a i=>hl a (List.mem_cons_of_mem _ i)) hlv f
   have o:j0≠j:=fun u=>hnd.1 (by rw[u];exact List.mem_map.2 ⟨(j,b),f,rfl⟩)
   refine⟨m+1,?_,fun e h n=>?_⟩
   ·simp only[Jo,List.flatMap_cons]at k ⊢
    rw[w]
    simpa using k
   ·have s:obSt als vs dn j0 b0=obSt als vs e j0 b0:=by
     unfold obSt
     have:=h j0 o
     split <;> simp_all
    have:=r e h n
    simp only[Jo,List.flatMap_cons]at this ⊢
    rw[← s,w]
    simp[this]
theorem zmn{als:List (Nat×TypeId×Value)}{t:Nat}(c:∀(j d:Nat) (ty:TypeId) (z:Value),als[j]?=some (d,ty,z)→d≠t)(a:Act):∀ex,(putA als ex a).tmps[t]?=a.tmps[t]?
 | []=>rfl
 | (j,b)::ex=>by
  rw[putA, ← zmn c a ex]
  cases hj:als[j]? with
  | none=>rfl
  | some p =>
   obtain⟨d,ty,z⟩:=p
   simp[Act.put,Array.getElem?_setIfInBounds_ne (c j d ty z hj)]
theorem zkt{als:List (Nat×TypeId×Value)}{vs:List Value}{dn dn':List Nat}(c:∀b,b<als.length→(b∈dn↔b∈dn')):∀{ex:List (Nat×Nat)},(∀a∈ex,a.1<als.length)→Jo als vs dn ex=Jo als vs dn' ex
 | [],_=>rfl
 | a::ex,hl=>by
  have e1:=zkt (vs:=vs) c (ex:=ex) (fun f d=>hl f (List.mem_cons_of_mem _ d))
  have e:obSt als vs dn a.1 a.2=obSt als vs dn' a.1 a.2:=by
   unfold obSt
   have:=c a.1 (hl a (by simp))
   split <;> simp_all
  simp only[Jo,List.flatMap_cons]at e1 ⊢
  rw[e1,e]
theorem znu{als:List (Nat×TypeId×Value)}{vs b:List Value}{dn:List Nat}(d:∀e∈dn,vs[e]?=b[e]?)(f:als.length=vs.length)(g:als.length=b.length):∀{ex:List (Nat×Nat)},(∀a∈ex,a.1<als.length)→Jo als vs dn ex=Jo als b dn ex
 | [],_=>rfl
 | a::ex,hl=>by
  have e1:=znu d f g (ex:=ex) (fun m h=>hl m (List.mem_cons_of_mem _ h))
  have i:obSt als vs dn a.1 a.2=obSt als b dn a.1 a.2:=by
   have n:=hl a (by simp)
   have j:vs[a.1]?=some (vs[a.1]'(by omega)):=List.getElem?_eq_getElem _
   have k:b[a.1]?=some (b[a.1]'(by omega)):=List.getElem?_eq_getElem _
   have l:als[a.1]?=some als[a.1]:=List.getElem?_eq_getElem _
   by_cases c:a.1∈dn
   ·unfold obSt;rw[d a.1 c]
   ·unfold obSt
    rw[j,k,l]
    simp[c]
  simp only[Jo,List.flatMap_cons]at e1 ⊢
  rw[e1,i]
theorem zlO{ro:Option Nat}{nn:Fr}{k B:Nat}{als:List (Nat×TypeId×Value)}{xs:List (Nat×Nat)}{Q:Exit→Act→World→Prop}{d3:Act→Prop}{A:Nat→Prop}{w0:World}{L:List Ob}(n0:k+als.length+als.length=ops.size)(h4:Region.noSelect ops=true)(i7:AllocsAt (md:=md) P ops k als)(g2:StoresAt (md:=md) P ops k k (k+als.length) als xs)(l4:zqA md ops k (als.map (·.1)) (xs.map (·.1))=true)(h1:((List.range ops.size).all fun a=>match ops[a]? with|some i=>i.after.all fun l=>!(Region.binds md l)||decide (l.on<a)|none=>true)=true)(i8:(als.map (·.1)).Nodup)(i9:∀g∈als,Nat.blt g.1 nn.sz=true)(j0:∀x∈xs.map (·.1),x∉als.map (·.1))(l5:∀w,Kp Dw w0 w→W w)(hB:B≤w0.heap.size)(j1:∀d8,d3 d8→∀(j:Nat) (x b:Nat) h n m,xs[j]?=some (x,b)→als[j]?=some (h,n,m)→∃d,d8.tmps[x]?=some d∧d.cells.toList.length=m.cells.toList.length∧∀d9∈d.cells.toList,d9.oneCell'=true)(j2:∀(ex:List (Nat×Nat)) (e:Act) (vs:List Value) (w:World) (H:Nat→Prop),(ex.map (·.1)).Nodup→(∀g∈ex,g.1<als.length)→ex.length=als.length→vs.length=als.length→(∀j,j<als.length→∀(x b:Nat),xs[j]?=some (x,b)→e.tmps[x]?=vs[j]?)→d3 e→Hp B H w (Jo als vs (List.range als.length) ex++L)→Tr Dw B A w0 H w→Q .normal (putA als ex e) w):
  ∀(r f:Nat) (ex:List (Nat×Nat)) (dn:List Nat) (vs:List Value) (listed E:Array Bool) (e:Act) (w:World) (H:Nat→Prop),r=f+(als.length-ex.length)+(als.length-dn.length)→als.length=vs.length→(∀j∈dn,∀(x b:Nat),xs[j]?=some (x,b)→e.tmps[x]?=vs[j]?∧listed.getD b false=true)→(ex.map (·.1)).Nodup→(∀g∈ex,g.1<als.length)→(∀g∈ex,w0.heap.size≤g.2)→dn.Nodup→(∀j∈dn,j<als.length)→(∀j∈dn,j∈ex.map (·.1))→
   Fl k ops.size listed E→listed.size=ops.size→e.tmps.size=nn.sz→
   (∀j,j<als.length→(listed.getD (k+j) false=true↔j∈ex.map (·.1)))→(∀j,j<als.length→(listed.getD (k+als.length+j) false=true↔j∈dn))→
   zdc P md ops W k (fun e0 c6=>Region.ready md ops e0=[]∧d3 c6) f E e→Hp B H w (Jo als vs dn ex++L)→Tr Dw B A w0 H w→Kp Dw w0 w→wpAnyIn (FR ro) 0 P md ops Q r listed (putA als ex e) w:=by{
 have c8:∀a i,a<k→ops[a]?=some i→zjN i=true∧(∀l∈i.after,Region.binds md l=true→l.on<k)∧(∀(j h:Nat) (n:TypeId) (m:Value),als[j]?=some (h,n,m)→h∉i.looksAt ops∧i.dst≠some h)∧
   (∀x∈xs.map (·.1),i.dst=some x→∀a7 c7,a7<k→ops[a7]?=some c7→c7.dst=some x→a7=a):=by
  intro a i M u
  have:=List.all_eq_true.1 l4 a (List.mem_range.2 M)
  rw[u]at this
  simp only[Bool.and_eq_true]at this
  obtain⟨⟨⟨s,v⟩,N⟩,d4⟩:=this
  refine⟨s,fun l b7 a8=>?_,fun j h n m c=>?_,fun x F T a7 c7 e6 e7 j3=>?_⟩
  ·have:=Array.all_eq_true'.1 v l b7
   simpa [a8]using this
  ·have O:h∈als.map (·.1):=List.mem_map.2 ⟨_,List.mem_of_getElem? c,rfl⟩
   have:=List.all_eq_true.1 N h O
   simpa using this
  ·have:=List.all_eq_true.1 d4 x F
   rw[T]at this
   simp only[bne_self_eq_false,Bool.false_or]at this
   have:=List.all_eq_true.1 this a7 (List.mem_range.2 e6)
   rw[e7]at this
   simp only[Option.bind_some,j3,bne_self_eq_false,Bool.or_false,decide_eq_true_eq]at this
   exact this
 have b0:∀(q:List Nat),q.Nodup→(∀x∈q,x<als.length)→q.length≤als.length∧(q.length=als.length→∀j,j<als.length→j∈q):=fun q s v=>zis als.length q s v
 have e1:∀ex:List (Nat×Nat),(∀g∈ex,g.1<als.length)→∀x∈ex.map (·.1),x<als.length:=fun ex b x F=>by
  obtain⟨g,o,rfl⟩:=List.mem_map.1 F
  exact b g o
 intro r;induction r with
 | zero =>
  intro f ex dn vs listed E e w H l6 b3 b4 U G c2 a5 Z c3 K a3 c4 a0 T X b8 R a9
  have d5:=b0 _ U (e1 ex G)
  have d6:=b0 dn a5 Z
  simp only[List.length_map]at d5
  have l7:f=0:=by omega
  subst l7
  obtain⟨h5,l8⟩:=X
  have j4:E=listed:=by
   apply Array.ext K.size
   intro a s v
   have h0:=K.get a false
   have b9:E.getD a false=E[a]:=by simp[s]
   have a2:listed.getD a false=listed[a]:=by simp[v]
   rw[b9,a2]at h0
   rw[h0]
   split
   rename_i hki
   rcases Nat.lt_or_ge a (k+als.length)with N|N
   have:=(a0 (a-k) (by omega)).2 (d5.2 (by omega) _ (by omega))
   rw[show k+(a-k)=a by omega,a2]at this
   exact this.symm
   have:=(T (a-k-als.length) (by omega)).2 (d6.2 (by omega) _ (by omega))
   rw[show k+als.length+(a-k-als.length)=a by omega,a2]at this
   exact this.symm
   rfl
  subst j4
  refine⟨h5,j2 ex e vs w H U G (by omega) b3.symm (fun j c x b F=>(b4 j (d6.2 (by omega) j c) x b F).1) l8 ?_ R⟩
  rw[zkt (dn':=dn) (fun j c=>by simp[c,d6.2 (by omega) j c]) G]
  exact b8
 | succ r ih =>
  intro f ex dn vs listed E e w H l6 b3 b4 U G c2 a5 Z c3 K a3 c4 a0 T X b8 R a9
  have d5:=b0 _ U (e1 ex G)
  have d6:=b0 dn a5 Z
  simp only[List.length_map]at d5
  have h6:Region.ready md ops listed=[]→∀a,a<ops.size→listed.getD a false=true:=by
   intro f6 a
   induction a using Nat.strongRecOn with
   | _ a ihi =>
    intro M
    cases I:listed.getD a false with
    | true=>rfl
    | false =>
     exfalso
     have u:ops[a]?=some ops[a]:=Array.getElem?_eq_getElem M
     have a8:=List.all_eq_true.1 h1 a (List.mem_range.2 M)
     rw[u]at a8
     have O:a∈Region.ready md ops listed:=mem_ready.2 ⟨getD_in (by rw[a3];exact M) I,_,u,fun l b7 j5=>by
      have s:=Array.all_eq_true'.1 a8 l b7
      simp only[j5,Bool.not_true,Bool.false_or,decide_eq_true_eq]at s
      exact ihi l.on s (by omega)⟩
     rw[f6]at O
     cases O
  refine⟨fun f6=>?_,fun a M=>?_⟩
  ·exfalso
   have I:=h6 f6
   cases f with
   | succ f =>
    obtain⟨a,M⟩:=List.exists_mem_of_ne_nil _ X.1
    have a6:=(X.2 a M).1
    obtain⟨s,i,u,_⟩:=mem_ready.1 M
    rw[K.get,if_neg (by omega)]at s
    have:=I a (Array.getElem?_eq_some_iff.1 u).1
    rw[getD_both s]at this
    cases this
   | zero =>
    have b9:als.length≤ex.length:=by
     have e2:∀j,j<als.length→j∈ex.map (·.1):=fun j c=>(a0 j c).1 (I _ (by omega))
     have b5:∀(y:Nat) (q:List Nat),(∀j,j<y→j∈q)→y≤q.length:=by
      intro y
      induction y with
      | zero=>intro q _;omega
      | succ y ih =>
       intro q I
       have O:=I y (by omega)
       have s:=ih (q.erase y) (fun j c=>(List.mem_erase_of_ne (by omega)).2 (I j (by omega)))
       have v:=List.length_erase_of_mem O
       have:=List.length_pos_of_mem O
       omega
     have:=b5 als.length (ex.map (·.1)) e2
     simpa using this
    have a2:als.length≤dn.length:=by
     have e2:∀j,j<als.length→j∈dn:=fun j c=>(T j c).1 (I _ (by omega))
     have b5:∀(y:Nat) (q:List Nat),(∀j,j<y→j∈q)→y≤q.length:=by
      intro y
      induction y with
      | zero=>intro q _;omega
      | succ y ih =>
       intro q I
       have O:=I y (by omega)
       have s:=ih (q.erase y) (fun j c=>(List.mem_erase_of_ne (by omega)).2 (I j (by omega)))
       have v:=List.length_erase_of_mem O
       have:=List.length_pos_of_mem O
       omega
     exact b5 als.length dn e2
    omega
  obtain⟨c9,i,u,e3⟩:=mem_ready.1 M
  have m6:=(Array.getElem?_eq_some_iff.1 u).1
  rcases Nat.lt_or_ge a k with a6|a6
  · -- d8 head
   have e8:a∈Region.ready md ops E:=mem_ready.2 ⟨by rw[K.get,if_neg (by omega)];exact c9,i,u,fun l b7 a8=>by
    have d4:=(c8 a i a6 u).2.1 l b7 a8
    rw[K.get,if_neg (by omega)];exact e3 l b7 a8⟩
   cases f with
   | zero=>rw[X.1]at e8;cases e8
   | succ f =>
    have b1:=(X.2 a e8).2
    obtain⟨j6,_,f9,_⟩:=c8 a i a6 u
    obtain⟨b9,a2⟩:=zmA (ops:=ops) (als:=als) (o:=i) (fun l9 z=>Region.noSelect_spec h4 a i l9 z u) (fun j h n m c=>(f9 j h n m c).1) e ex
    have h7:∀d,(putA als ex e).put i.dst d=putA als ex (e.put i.dst d):=fun d=>znV (fun j h n m c=>(f9 j h n m c).2) e ex
    have g0:∀d,zdc P md ops W k (fun e0 c6=>Region.ready md ops e0=[]∧d3 c6) f (E.setIfInBounds a true) (e.put i.dst d)→
      wpAnyIn (FR ro) 0 P md ops Q r (listed.setIfInBounds a true) ((putA als ex e).put i.dst d) w:=fun d c0=>by
     rw[h7]
     refine ih f ex dn vs _ _ _ w H (by omega) b3 (fun j c x b F=>?_) U G c2 a5 Z c3 (K.head a6) (by simp[a3]) ?_ (fun j c=>?_) (fun j c=>?_) c0 b8 R a9
     ·obtain⟨s,v⟩:=b4 j c x b F
      refine⟨?_,getD_set_true v⟩
      have j7:i.dst≠some x:=fun l=>by
       obtain⟨g,o⟩:∃g,als[j]?=some g:=⟨als[j]'(Z j c),List.getElem?_eq_getElem _⟩
       obtain⟨h,n,m⟩:=g
       obtain⟨n1,n2,g3,_,e9,S,_⟩:=g2.get o
       rw[F]at g3
       cases g3
       cases hoh:ops[b]? with
       | none=>rw[hoh]at S;cases S
       | some oh =>
        rw[hoh,Option.bind_some]at S
        have:=(c8 b oh e9 hoh).2.2.2 x (List.mem_map.2 ⟨(x,b),List.mem_of_getElem? F,rfl⟩) S a i a6 u l
        subst this
        rw[getD_both c9]at v
        cases v
      cases e4:i.dst with
      | none=>exact s
      | some h =>
       have:h≠x:=fun l=>j7 (by rw[e4,l])
       simp only[Act.put]
       rw[Array.getElem?_setIfInBounds_ne this]
       exact s
     ·cases i.dst <;> simp[Act.put,c4]
     ·rw[getD_set_ne false (by omega)];exact a0 j c
     ·rw[getD_set_ne false (by omega)];exact T j c
    unfold qOp at b1
    unfold wpOpIn
    simp only[u]at b1 ⊢
    rw[a2]
    split
    ·rename_i hw
     rw[if_pos hw]at b1
     obtain⟨d,s,v⟩:=b1
     have N:=s w (l5 w a9)
     unfold Oper.quietAt at N
     refine⟨fun _ _=>trivial,?_⟩
     generalize a4:(execOp e.eval i).run P w=rr at N
     cases rr with
     | ok nx w' =>
      obtain⟨d9,rfl⟩:=zny j6 a4
      obtain⟨rfl,rfl⟩:=N
      rw[← b9]at a4
      rw[JQ a4 (fun h b=>by cases b)]
      exact g0 _ v
     | halt x w'=>simp only[Oper.quietUpon]at N
    ·rename_i hw
     rw[if_neg hw]at b1
     exact⟨fun _ _=>trivial,g0 _ b1⟩
  rcases Nat.lt_or_ge a (k+als.length)with j8|j8
  · -- an allocation
   obtain⟨g,o⟩:∃g,als[a-k]?=some g:=⟨als[a-k]'(by omega),List.getElem?_eq_getElem _⟩
   obtain⟨h,n,m⟩:=g
   obtain⟨⟨d7,pos,f7,b6,m7⟩,m0⟩:=i7.get o
   rw[show k+(a-k)=a by omega]at b6
   have f0:=Option.some.inj (u.symm.trans b6)
   subst f0
   have a1:(a-k)∉ex.map (·.1):=fun b=>by
    have:=(a0 (a-k) (by omega)).2 b
    rw[show k+(a-k)=a by omega,getD_both c9]at this
    cases this
   have h8:(a-k)∉dn:=fun b=>a1 (c3 _ b)
   unfold wpOpIn
   simp only[b6]
   rw[if_pos (by simp[Region.wanted])]
   refine⟨fun _ _=>trivial,?_⟩
   have a4:(execOp (putA als ex e).eval (⟨some h,.alloc n,d7,pos,f7,none⟩:Oper)).run P w=.ok (.value (.pointer (some ⟨w.heap.size,0,none⟩))) (w.alloc (.cells m.cells n)):=by
    simp only[execOp,Instr.alloc];simp[m0,newVar,newRow]
   rw[JQ a4 (fun h b=>by cases b)]
   have d0:=Nat.le_trans hB R.ex.size
   obtain⟨d,c0⟩:∃d,vs[a-k]?=some d:=⟨vs[a-k]'(by omega),List.getElem?_eq_getElem _⟩
   have d1:Hp B (fun z=>H z∧z≠w.heap.size) (w.alloc (.cells m.cells n)) (Jo als vs dn ((a-k,w.heap.size)::ex)++L):=by
    have:=b8.alloc (.cells m.cells n) d0 R.new
    simp only[Jo,List.flatMap_cons,obSt,o,c0]
    rw[if_neg h8]
    simpa [Jo,obSt]using this
   have g1:(((a-k,w.heap.size)::ex).map (·.1)).Nodup:=by simpa using ⟨by simpa using a1,U⟩
   have b2:∀g∈(a-k,w.heap.size)::ex,g.1<als.length:=by
    intro g o
    rcases List.mem_cons.1 o with rfl|o
    ·show a-k<als.length
     omega
    ·exact G g o
   have h9:∀g∈(a-k,w.heap.size)::ex,w0.heap.size≤g.2:=by
    intro g o
    rcases List.mem_cons.1 o with rfl|o
    ·exact a9.size
    ·exact c2 g o
   have h2:=(b0 _ g1 (e1 _ b2)).1
   simp only[List.map_cons,List.length_cons,List.length_map]at h2
   have b5:=ih f ((a-k,w.heap.size)::ex) dn vs (listed.setIfInBounds a true) E e (w.alloc (.cells m.cells n)) _ (by simp only[List.length_cons];omega) b3 (fun j c x b F=>⟨(b4 j c x b F).1,getD_set_true (b4 j c x b F).2⟩)
    g1 b2 h9 a5 Z (fun j c=>by simp only[List.map_cons];exact List.mem_cons_of_mem _ (c3 j c)) (K.alloc ⟨a6,by omega⟩) (by simp[a3]) c4 (fun j c=>?_) (fun j c=>?_) X d1 (R.trans ((zaH B _ R.new).tr d0)) (Bel.trans a9 (Bel.mono (Kp.alloc _ _) a9.size))
   ·have:putA als ((a-k,w.heap.size)::ex) e=(putA als ex e).put (some h) (.pointer (some ⟨w.heap.size,0,none⟩)):=by
     simp[putA,o]
    rw[this]at b5
    exact b5
   ·by_cases c5:a=k+j
    ·subst c5
     have:(listed.setIfInBounds (k+j) true).getD (k+j) false=true:=by
      have b2:k+j<listed.size:=by rw[a3];omega
      simp[b2]
     simp[this]
    ·rw[getD_set_ne false c5,a0 j c]
     simp only[List.map_cons,List.mem_cons]
     constructor
     ·exact .inr
     ·rintro (b | b)
      ·omega
      ·exact b
   ·rw[getD_set_ne false (by omega)];exact T j c
  · -- d8 store
   obtain⟨j,rfl⟩:∃j,a=k+als.length+j:=⟨a-k-als.length,by omega⟩
   have c:j<als.length:=by omega
   obtain⟨g,o⟩:∃g,als[j]?=some g:=⟨als[j],List.getElem?_eq_getElem _⟩
   obtain⟨h,n,m⟩:=g
   obtain⟨x,b,f1,⟨d7,pos,f7,b6,⟨b9,j9,k0,i0⟩,⟨a2,k1,k2,i1⟩⟩,e9,S,i2⟩:=g2.get o
   have f0:=Option.some.inj (u.symm.trans b6)
   subst f0
   have f2:listed.getD b false=true:=by rw[← i0];exact e3 b9 j9 k0
   have k3:listed.getD (k+j) false=true:=by rw[← i1];exact e3 a2 k1 k2
   obtain⟨m5,d2,g4⟩:=List.mem_map.1 ((a0 j c).1 k3)
   obtain⟨p,z⟩:=m5
   simp only at g4
   subst g4
   have a1:p∉dn:=fun m1=>by
    have:=(T p c).2 m1
    rw[getD_both c9]at this
    cases this
   have g5:x∈xs.map (·.1):=List.mem_map.2 ⟨(x,b),List.mem_of_getElem? f1,rfl⟩
   have k4:∃d,e.tmps[x]?=some d∧d.cells.toList.length=m.cells.toList.length∧∀d9∈d.cells.toList,d9.oneCell'=true:=by
    obtain⟨n3,c6,⟨_,k5⟩,k6⟩:=zgA (t:=x) f E e X (fun a7 c7 e7 e6 g6 e4=>by
     cases hoh:ops[b]? with
     | none=>rw[hoh]at S;cases S
     | some oh =>
      rw[hoh,Option.bind_some]at S
      have:=(c8 b oh e9 hoh).2.2.2 x g5 S a7 c7 e6 e7 e4
      subst this
      rw[K.get,if_neg (by omega), ]at g6
      rw[getD_both g6]at f2
      cases f2)
    rw[← k6]
    exact j1 c6 k5 p x b h n m f1 o
   obtain⟨d,g7,g8⟩:=k4
   have k7:(putA als ex e).tmps[x]?=some d:=by
    rw[zmn (fun j h d7 m f3 l=>j0 x g5 (by rw[← l];exact List.mem_map.2 ⟨_,List.mem_of_getElem? f3,rfl⟩))]
    exact g7
   have e5:als.length=(vs.set p d).length:=by simpa using b3
   have c0:(vs.set p d)[p]?=some d:=List.getElem?_set_self (by omega)
   have g9:∀t,t≠p→(vs.set p d)[t]?=vs[t]?:=fun t b=>by rw[List.getElem?_set_ne (Ne.symm b)]
   have k8:Jo als vs dn ex=Jo als (vs.set p d) dn ex:=znu (fun t D=>(g9 t (fun l=>a1 (l▸D))).symm) b3 e5 G
   rw[k8]at b8
   have i3:(putA als ex e).tmps[h]?=some (.pointer (some ⟨z,0,none⟩)):=by
    have:=(zkC (n:=⟨nn.sz,e.defers,none⟩) (E := []) (als:=als) (a:=e) (fun j h n m f3=>⟨i9 _ (List.mem_of_getElem? f3),rfl⟩) i8 ⟨c4,rfl,fun n d b=>by cases b⟩ ex U G).2 (p,z) d2 h n m o
    exact this
   obtain⟨i4,f4,i5⟩:=znH (vs:=vs.set p d) (dn:=dn) o c0 U G e5 d2
   rw[if_neg a1]at f4
   have d0:=Nat.le_trans hB R.ex.size
   have f8:=(List.getElem?_eq_some_iff.1 f4).1
   have i6:(Jo als (vs.set p d) dn ex++L)[i4]?=some (obC z m.cells.toList n):=by rw[List.getElem?_append_left f8];exact f4
   obtain⟨a4,d1,k9⟩:=b8.storeAt (P:=P) (off:=0) (sz:=m.cells.toList.length) (ds:=d.cells.toList) (nv:=d) i6 i2 (by rw[← Array.length_toList,g8.1]) (by omega) g8.2 (by
    rw[List.drop_eq_nil_of_le (by omega)]
    simp) d0 R.new
   rw[List.set_append_left _ _ f8,i5 (p::dn) (fun t D=>by simp[D]) (by simp)]at d1
   unfold wpOpIn
   simp only[b6]
   rw[if_pos (by simp[Region.wanted])]
   refine⟨fun _ _=>trivial,?_⟩
   have h3:(execOp (putA als ex e).eval (⟨none,.store n (.tmp h) (.tmp x),d7,pos,f7,none⟩:Oper)).run P w=.ok .skip (w.setRow z d.cells.toList.toArray):=by
    have m2:(putA als ex e).eval (.tmp h)=.pointer (some ⟨z,0,none⟩):=by simp[Act.eval,Array.getD_eq_getD_getElem?,i3]
    have l0:(putA als ex e).eval (.tmp x)=d:=by simp[Act.eval,Array.getD_eq_getD_getElem?,k7]
    simp only[execOp,m2,l0]
    simp[a4]
   rw[JQ h3 (fun h b=>by cases b)]
   have m8:w0.heap.size≤z:=c2 (p,z) d2
   refine ih f ex (p::dn) (vs.set p d) (listed.setIfInBounds (k+als.length+p) true) E e (w.setRow z d.cells.toList.toArray) H (by
     have:=(b0 (p::dn) (List.nodup_cons.2 ⟨a1,a5⟩) (fun c1 J=>by
      rcases List.mem_cons.1 J with rfl|J
      ·exact c
      ·exact Z c1 J)).1
     simp only[List.length_cons]at this ⊢
     omega) e5 (fun t D m3 v f5=>?_) U G c2 (List.nodup_cons.2 ⟨a1,a5⟩) (fun c1 J=>?_) (fun c1 J=>?_) (K.alloc ⟨by omega,by omega⟩) (by simp[a3]) c4 (fun t D=>?_) (fun t D=>?_) X d1 (R.trans k9) (Bel.trans a9 ⟨rfl,rfl,rfl,by simp,fun _=>Nat.le_refl _,fun m4 m9=>setRow_other w z m4 _ (by omega)⟩)
   ·rcases List.mem_cons.1 D with rfl|D
    ·rw[f1]at f5
     cases f5
     exact⟨by rw[c0];exact g7,getD_set_true f2⟩
    ·obtain⟨N,d4⟩:=b4 t D m3 v f5
     exact⟨by rw[g9 t (fun l=>a1 (l▸D))];exact N,getD_set_true d4⟩
   ·rcases List.mem_cons.1 J with rfl|J
    ·exact c
    ·exact Z c1 J
   ·rcases List.mem_cons.1 J with rfl|J
    ·exact List.mem_map.2 ⟨(c1,z),d2,rfl⟩
    ·exact c3 c1 J
   ·rw[getD_set_ne false (by omega)];exact a0 t D
   ·by_cases c5:t=p
    ·subst c5
     have:(listed.setIfInBounds (k+als.length+t) true).getD (k+als.length+t) false=true:=by
      have b2:k+als.length+t<listed.size:=by rw[a3];omega
      simp[b2]
     simp[this]
    ·rw[getD_set_ne false (by omega),T t D]
     simp[c5]}
def objV:List (Nat×TypeId×Value)→List Value→(Nat→Nat)→Nat→List Ob
 | (_,t,_)::r,v::vs,b,j=>obC (b j) v.cells.toList t::objV r vs b (j+1)
 | _,_,_,_=>[]
def defB(md:Region.Mode)(ops:Array Oper)(k:Nat)(ds xs:List Nat):Bool :=
 Region.noSelect ops&&zqA md ops k ds xs&&(xs.all fun x=>!ds.contains x) &&
  ((List.range ops.size).all fun i=>match ops[i]? with|some o=>o.after.all fun e=>!(Region.binds md e)||decide (e.on<i)|none=>true) &&
  zgJ md ops k 0 ((List.range ops.size).map fun i=>decide (k≤i∧i<ops.size)).toArray
theorem zlC{E:Env}:∀{xs:List (Nat×Nat)} {vs:List Value},evs E (xs.map fun d=>Operand.tmp d.1)=some vs→xs.length=vs.length∧∀(j:Nat) (x a:Nat),xs[j]?=some (x,a)→∃c,vs[j]?=some c∧E.get x=some c
 | [],vs,a=>by cases a;exact⟨rfl,fun j x a b=>by simp at b⟩
 | (x0,h0)::xs,vs,a=>by
  rw[List.map_cons,evs]at a
  split at a
  ·rename_i c vs' h1 h2
   cases a
   obtain⟨h3,h4⟩:=zlC h2
   refine⟨by simp[h3],fun j x a b=>?_⟩
   cases j with
   | zero=>simp at b;obtain⟨rfl,rfl⟩:=b;exact⟨c,rfl,h1⟩
   | succ j=>simp at b;simpa using h4 j x a b
  ·cases a
theorem zno(b:Nat→Nat):∀(als a:List (Nat×TypeId×Value)) (vs c:List Value),a.length=c.length→als.length=vs.length→objV als vs b a.length=(List.range' a.length als.length).flatMap fun e=>obSt (a++als) (c++vs) (List.range (a++als).length) e (b e)
 | [],a,vs,c,_,h=>by cases vs <;> simp[objV]
 | (d,t,z)::r,a, [],c,_,h=>by simp at h
 | (d,t,z)::r,a,v::vs,c,hp,h=>by
  have:=zno b r (a++[(d,t,z)]) vs (c++[v]) (by simp[hp]) (by simpa using h)
  simp only[List.length_append,List.length_cons,List.length_nil,Nat.zero_add,List.append_assoc,List.cons_append,List.nil_append]at this
  simp only[objV,List.length_cons,List.range'_succ,List.flatMap_cons]
  rw[this]
  have f:(a++(d,t,z)::r)[a.length]?=some (d,t,z):=by simp
  have g:(c++v::vs)[a.length]?=some v:=by simp[hp]
  simp only[obSt,f,g,List.length_append,List.length_cons]
  rw[if_pos (by simp)]
  rfl
def Fits:List (Nat×TypeId×Value)→List Value→Prop
 | [], []=>True
 | (_,_,z)::r,v::vs=>v.cells.toList.length=z.cells.toList.length∧(∀u∈v.cells.toList,u.oneCell'=true)∧Fits r vs
 | _,_=>False
theorem Fits.get:∀{als:List (Nat×TypeId×Value)} {vs:List Value} {j:Nat} {d:Nat} {t:TypeId} {z v:Value},Fits als vs→als[j]?=some (d,t,z)→vs[j]?=some v→v.cells.toList.length=z.cells.toList.length∧∀b∈v.cells.toList,b.oneCell'=true
 | [],_,_,_,_,_,_,_,h,_=>by simp at h
 | _::_, [],_,_,_,_,_,h,_,_=>h.elim
 | (d0,t0,z0)::r,a::vs,0,d,t,z,v,hf,h1,h2=>by
  simp at h1 h2
  obtain⟨rfl,rfl,rfl⟩:=h1
  subst h2
  exact⟨hf.1,hf.2.1⟩
 | (d0,t0,z0)::r,a::vs,j+1,d,t,z,v,hf,h1,h2=>Fits.get (j:=j) hf.2.2 (by simpa using h1) (by simpa using h2)
theorem zcc{nn:Fr}{Q:Exit→Act→World→Prop}{E:Env}{w:World}{l:List Oper}{id k B:Nat}{A:Nat→Prop}{L:List Ob}(als:List (Nat×TypeId×Value))(xs:List (Nat×Nat))(z:P.follows .mixedOrders=true)(R:defB .any l.toArray k (als.map (·.1)) (xs.map (·.1))=true)(a1:k+als.length+als.length=l.length)(H:AllocsAt (md := .any) P l.toArray k als)(b5:StoresAt (md := .any) P l.toArray k k (k+als.length) als xs)(d5:als.length=xs.length)(U:(als.all fun d=>Nat.blt d.1 nn.sz)=true)(W:(als.map (·.1)).Nodup)(c5:Hp B A w L)(hB:B≤w.heap.size)(c6:∀b,w.heap.size≤b→A b)(d2:VQ P nn l.toArray (fun w'=>Kp Dw w w') (fun a2=>∃p s,Has nn a2 p∧(als.all fun d=>(p.get d.1).isNone)=true∧evs p (xs.map fun d=>Operand.tmp d.1)=some s∧Fits als s∧
   ∀(b:Nat→Nat) (w':World) (t:Nat→Prop),Hp B t w' (objV als s b 0++L)→Tr Dw B A w t w'→∀X,Has nn X (envB als b 0++p)→Q .normal X w') (l.take k) E):
  C P nn (.region id l.toArray true) Q E w:=by{
 intro M a3;simp only[defB,Bool.and_eq_true]at R;obtain⟨⟨⟨⟨S,c7⟩,b6⟩,a8⟩,b1⟩:=R;refine wpIn_region_any z ?_
 have N:∀e f,(((List.range l.toArray.size).map fun e=>decide (k≤e∧e<l.toArray.size)).toArray).getD e f=if k≤e∧e<l.toArray.size then true else (Array.replicate l.toArray.size false).getD e f:=by
  intro e f
  rcases Nat.lt_or_ge e l.toArray.size with K|K
  have u:e<l.length:=by simpa using K
  by_cases Z:k≤e
  simp[u,Z]
  simp[u,Z]
  have u:¬e<l.length:=by simpa using K
  rw[if_neg (by omega)]
  simp[u]
 have b7:Fl k l.toArray.size (Array.replicate l.toArray.size false) (((List.range l.toArray.size).map fun e=>decide (k≤e∧e<l.toArray.size)).toArray):=⟨by simp,by rw[Array.size_replicate];omega,N⟩;have b2:Flg l.toArray k (((List.range l.toArray.size).map fun e=>decide (k≤e∧e<l.toArray.size)).toArray):=fun o j m=>by rw[N,if_pos ⟨j,m⟩]
 have v:(l.take k).length=k:=by rw[List.length_take];omega
 have D:=zjG (md := .any) (k:=k) S (l.take k) 0 _ M (fun a c=>by
  have b8:a<k:=by rw[v]at c;exact c
  simp[b8]) (by simpa using v) b2 (by rw[v];exact b1) (d2 M a3)
 rw[v]at D
 have b3:∀i∈xs.map (·.1),i∉als.map (·.1):=fun i n=>by
  have:=List.all_eq_true.1 b6 i n
  simpa using this
 have a0:=zlO (ro:=nn.ro) (nn:=nn) (md := .any) (P:=P) (ops:=l.toArray) (W:=fun w'=>Kp Dw w w') (Q:=Q) (A:=A) (w0:=w) (L:=L) (B:=B) (als:=als) (xs:=xs) (by simpa using a1) S H b5 c7 a8 W (fun d h=>List.all_eq_true.1 U d h) b3 (fun w' b9=>b9) hB ?_ ?_
  (k+als.length+als.length) k [] [] (List.replicate als.length undef) (Array.replicate l.toArray.size false) _ M { w with drawn:=w.drawn+1 } A (by simp) (by simp) (fun a c=>by cases c) (by simp) (by simp) (by simp) (by simp) (fun a c=>by cases c) (fun a c=>by cases c) b7 (by simp) a3.size
  (fun a c=>by rw[getD_replicate_false];simp) (fun a c=>by rw[getD_replicate_false];simp) D (by
   show Hp B A _ ([]++L)
   exact c5.kp (Kp.drew (Dw:=Dw) _)) (Kp.tr (Kp.drew (Dw:=Dw) w) c6 hB) (Kp.drew (Dw:=Dw) _)
 have d3:k+als.length+als.length=l.toArray.size:=by simpa using a1
 rw[d3]at a0;exact a0;rintro a2⟨p,s,x,_,I,T,_⟩a i F f o q n H;obtain⟨G,j,m⟩:=(zlC I).2 a i F n;exact⟨G,x.get i G m,T.get H j⟩;intro ex c8 g w' t y J hlen d6 c0 c9 c1 d0;obtain⟨p,s,x,a9,I,T,d1⟩:=c9;obtain⟨d7,c2⟩:=zlC I
 have c3:g=s:=by
  apply List.ext_getElem?
  intro a
  rcases Nat.lt_or_ge a als.length with c|c
  obtain⟨⟨i,F⟩,n⟩:∃d,xs[a]?=some d:=⟨xs[a]'(by omega),List.getElem?_eq_getElem _⟩
  obtain⟨G,j,m⟩:=c2 a i F n
  rw[← c0 a c i F n,x.get i G m,j]
  rw[List.getElem?_eq_none (by omega),List.getElem?_eq_none (by omega)]
 subst c3;obtain⟨b,a4⟩:=zqy y
 have a6:∀(a f:Nat) (o:TypeId) (q:Value),als[a]?=some (f,o,q)→Nat.blt f nn.sz=true∧p.get f=none:=by
  intro a f o q c
  have z:=List.mem_of_getElem? c
  have j:=List.all_eq_true.1 U _ z
  have m:=List.all_eq_true.1 a9 _ z
  exact⟨j,Option.isNone_iff_eq_none.1 m⟩
 obtain⟨j,m⟩:=zkC a6 W x ex y J
 have O:∀a,a<als.length→a∈ex.map (·.1):=(zis als.length (ex.map (·.1)) y (fun i n=>by
  obtain⟨d,h,rfl⟩:=List.mem_map.1 n
  exact J d h)).2 (by simpa using hlen)
 have a7:∀(a f:Nat) (o:TypeId) (q:Value),als[a]?=some (f,o,q)→(putA als ex c8).tmps[f]?=some (.pointer (some ⟨b (([]:List (Nat×TypeId×Value)).length+a),0,none⟩)):=by
  intro a f o q c
  obtain⟨d,h,rfl⟩:=List.mem_map.1 (O a (List.getElem?_eq_some_iff.1 c).1)
  have:=m d h f o q c
  rw[a4 d h]at this
  simpa using this
 have b4:Jo als g (List.range als.length) ex=(ex.map (·.1)).flatMap fun a=>obSt als g (List.range als.length) a (b a):=by
  have:∀r:List (Nat×Nat),(∀d∈r,d.2=b d.1)→Jo als g (List.range als.length) r=(r.map (·.1)).flatMap fun a=>obSt als g (List.range als.length) a (b a):=by
   intro r
   induction r with
   | nil=>intro _;rfl
   | cons d r ih =>
    intro h
    have a5:=ih (fun d4 D=>h d4 (List.mem_cons_of_mem _ D))
    simp only[Jo,List.flatMap_cons,List.map_cons]at a5 ⊢
    rw[a5,h d (by simp)]
  exact this ex a4
 have b0:(Jo als g (List.range als.length) ex).Perm (objV als g b 0):=by
  rw[b4,show objV als g b 0=objV als g b ([]:List (Nat×TypeId×Value)).length from rfl,zno b als [] g [] rfl (by omega)]
  simp only[List.length_nil,List.nil_append]
  refine List.Perm.flatMap_right _ ?_
  rw[← List.range_eq_range']
  refine (List.perm_ext_iff_of_nodup y List.nodup_range).2 fun a=>?_
  constructor
  intro c
  obtain⟨d,h,rfl⟩:=List.mem_map.1 c
  exact List.mem_range.2 (J d h)
  intro c
  exact O a (List.mem_range.1 c)
 have c4:Hp B t w' (objV als g b 0++L):=c1.perm (b0.append_right L);have:=d1 b w' t c4 d0 _ (znk j als [] a7);exact this}
end
end Go.Gw
