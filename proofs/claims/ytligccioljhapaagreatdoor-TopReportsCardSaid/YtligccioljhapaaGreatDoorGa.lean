import Derived.Test.YtligccioljhapaaGreatDoorGs
namespace Go.Gw
open Go Go.RowKit Go.Pu
variable{Dw:Prop}
set_option linter.unusedSimpArgs false
set_option linter.unusedVariables false
def zfV(o:Oper):Bool:=match o.op with
 | .load .. | .fieldAddr .. | .move _ | .assign _ | .binOp .. | .unOp .. | .extract .. | .field .. | .indexAddr .. | .index .. | .convert .. | .slice .. | .build .. | .nilCheck _ | .lookup .. => true
 | .call ⟨.builtin .len,_,_⟩ | .call ⟨.builtin .min,_,_⟩ | .call ⟨.builtin .max,_,_⟩=>true
 | _=>false
theorem Zi{P:Program}{w w':World}{s:Sem Value}{c:Next}(a:(do pure (Next.value (← s)):Sem Next).run P w=.ok c w'):∃b,c=.value b:=by{
 simp only[Sem.run_bind]at a;cases hs:s.run P w with
 | ok b w1=>rw[hs]at a;simp[Result.andThen]at a;exact⟨b,a.1.symm⟩
 | halt x w1=>rw[hs]at a;simp[Result.andThen]at a}
theorem ziU{r:Operand→Value}{o:Oper}{P:Program}{w w':World}{h:Next}(e:zfV o=true)(d:(execOp r o).run P w=.ok h w'):∃l,h=.value l:=by{
 obtain⟨p,g,u,q,v,z⟩:=o;unfold zfV at e;cases g with
 | move x=>simp only[execOp]at d;simp at d;exact⟨_,d.1.symm⟩
 | assign x=>simp only[execOp]at d;simp at d;exact⟨_,d.1.symm⟩
 | load t a=>exact Zi d
 | fieldAddr t a i=>exact Zi d
 | indexAddr t a i=>exact Zi d
 | unOp g t x=>exact Zi d
 | extract x i=>exact Zi d
 | field t x i=>exact Zi d
 | binOp g t x y t2=>exact Zi d
 | index t x i=>exact Zi d
 | convert a b x=>exact Zi d
 | slice t x lo hi mx=>exact Zi d
 | build t ps=>exact Zi d
 | lookup t x k c=>exact Zi d
 | nilCheck x =>
  simp only[execOp]at d
  split at d
  simp[runtimePanic]at d
  simp[runtimePanic]at d
  simp[runtimePanic]at d
  split at d
  simp[runtimePanic]at d
  simp[Result.andThen]at d
  split at d
  split at d
  simp at d;exact⟨_,d.1.symm⟩
  cases d
  cases d
  simp at d;exact⟨_,d.1.symm⟩
  simp at d;exact⟨_,d.1.symm⟩
 | call c =>
  obtain⟨j,n,s⟩:=c
  cases j with
  | builtin b =>
   cases b <;> simp only[Bool.false_eq_true]at e <;> (simp only[execOp,resolve,invoke,builtin,pure_bind]at d;exact Zi d)
  | value f=>simp at e
  | invoke x m=>simp at e
 | _=>simp at e}
theorem zeT:∀(m:Nat) (l:List Nat),l.Nodup→(∀a∈l,a<m)→l.length≤m∧(l.length=m→∀c,c<m→c∈l)
 | 0,l,_,h=>by
  have:l=[]:=List.eq_nil_iff_forall_not_mem.2 fun a b=>by have:=h a b;omega
  subst this
  exact⟨Nat.le_refl _,fun _ c i=>by omega⟩
 | m+1,l,hnd,h=>by
  by_cases d:m∈l
  ·have p:=List.length_erase_of_mem d
   have q:0<l.length:=List.length_pos_of_mem d
   obtain⟨j,f⟩:=zeT m (l.erase m) (hnd.erase m) (fun a b=>by
    have e:=(hnd.mem_erase_iff).1 b
    have:=h a e.2
    have:=e.1
    omega)
   refine⟨by omega,fun n c i=>?_⟩
   by_cases g:c=m
   ·subst g;exact d
   ·exact ((hnd.mem_erase_iff).1 (f (by omega) c (by omega))).2
  ·obtain⟨j,f⟩:=zeT m l hnd (fun a b=>by
    have:=h a b
    have:a≠m:=fun o=>d (o▸b)
    omega)
   exact⟨by omega,fun n=>by omega⟩
section
variable{P:Program}{ops:Array Oper}{md:Region.Mode}{W:World→Prop}
def zjf(md:Region.Mode)(ops:Array Oper)(g n:Nat):Nat→Nat→Array Bool→Bool
 | 0,_,listed=>Region.seqB md ops g n listed
 | f+1,k,listed=>(Region.ready md ops listed).contains k&&Region.free md ops listed k&&zjf md ops g n f (k+1) (listed.setIfInBounds k true)
def AllocsAt(P:Program)(ops:Array Oper):Nat→List (Nat×TypeId×Value)→Prop
 | _, []=>True
 | k,(d,t,z)::r=>(∃ty pos af,ops[k]?=some ⟨some d,.alloc t,ty,pos,af,none⟩∧(∀e∈af,Region.binds md e=false))∧(∀w,(zeroValue t).run P w=.ok z w)∧AllocsAt P ops (k+1) r
theorem AllocsAt.get:∀{als:List (Nat×TypeId×Value)} {k j:Nat} {a:Nat} {t:TypeId} {z:Value},AllocsAt (md:=md) P ops k als→als[j]?=some (a,t,z)→
  (∃e d b,ops[k+j]?=some ⟨some a,.alloc t,e,d,b,none⟩∧(∀f∈b,Region.binds md f=false))∧(∀c,(zeroValue t).run P c=.ok z c)
 | [],_,_,_,_,_,_,h=>by simp at h
 | (d0,t0,z0)::r,k,0,a,t,z,hal,h=>by simp at h;obtain⟨rfl,rfl,rfl⟩:=h;exact⟨hal.1,hal.2.1⟩
 | (d0,t0,z0)::r,k,j+1,a,t,z,hal,h=>by
  have:=AllocsAt.get hal.2.2 (j:=j) (by simpa using h)
  rwa[show k+1+j=k+(j+1) by omega]at this
def znf(md:Region.Mode)(ops:Array Oper)(k n:Nat)(ds:List Nat):Bool :=
 (List.range k).all fun i=>match ops[i]? with
  | some o=>zfV o&&(o.after.all fun e=>!(Region.binds md e)||decide (e.on<k))&&(ds.all fun d=>!(o.looksAt ops).contains d&&o.dst != some d)
  | none=>true
structure Fl(k n:Nat)(listed lq:Array Bool):Prop where
 size:lq.size=listed.size
 le:n≤listed.size
 get:∀i d,lq.getD i d=if k≤i∧i<n then true else listed.getD i d
theorem Fl.head{k n i:Nat}{b d:Array Bool}(a:Fl k n b d)(hi:i<k):Fl k n (b.setIfInBounds i true) (d.setIfInBounds i true):=by{
 refine⟨by simp[a.size],by simpa using a.le,fun f e=>?_⟩;by_cases c:i=f;subst c;have g:i<d.size↔i<b.size:=by rw[a.size]
 rw[if_neg (by omega)];simp only[Array.getD_eq_getD_getElem?,Array.getElem?_setIfInBounds_self,g];rw[getD_set_ne e c,getD_set_ne e c];exact a.get f e}
theorem Fl.alloc{k n i:Nat}{b d:Array Bool}(a:Fl k n b d)(hi:k≤i∧i<n):Fl k n (b.setIfInBounds i true) d:=by{refine⟨by simp[a.size],by simpa using a.le,fun e f=>?_⟩;by_cases c:i=e;subst c;rw[a.get,if_pos hi,if_pos hi];rw[getD_set_ne f c];exact a.get e f}
def putA(als:List (Nat×TypeId×Value)):List (Nat×Nat)→Act→Act
 | [],a=>a
 | (j,b)::ex,a=>(putA als ex a).put ((als[j]?).map (·.1)) (.pointer (some ⟨b,0,none⟩))
def obAt(als:List (Nat×TypeId×Value))(j b:Nat):List Ob:=match als[j]? with|some (_,t,z)=>[obC b z.cells.toList t]|none=>[]
def objA(als:List (Nat×TypeId×Value)):List (Nat×Nat)→List Ob
 | []=>[]
 | (j,b)::ex=>obAt als j b++objA als ex
theorem zia{als:List (Nat×TypeId×Value)}{o:Oper}(d:∀h g,o.op≠.select h g)(e:∀(j b:Nat) (t:TypeId) (z:Value),als[j]?=some (b,t,z)→b∉o.looksAt ops)(a:Act):∀ex,execOp (putA als ex a).eval o=execOp a.eval o∧Region.wanted o (yielded ops (putA als ex a).tmps)=Region.wanted o (yielded ops a.tmps)
 | []=>⟨rfl,rfl⟩
 | (j,g)::ex=>by
  obtain⟨h1,h2⟩:=zia d e a ex
  have f:∀b,(als[j]?).map (·.1)=some b→b∉o.looksAt ops:=fun b c=>by
   cases hj:als[j]? with
   | none=>rw[hj]at c;cases c
   | some p=>obtain⟨d',t,z⟩:=p;rw[hj]at c;simp at c;subst c;exact e j _ t z hj
  exact⟨(execOp_put (ops:=ops) o d _ _ _ f).trans h1,(wanted_put o _ _ _ f).trans h2⟩
theorem zjr{als:List (Nat×TypeId×Value)}{d:Option Nat}{v:Value}(f:∀(j e:Nat) (t:TypeId) (z:Value),als[j]?=some (e,t,z)→d≠some e)(a:Act):∀ex,(putA als ex a).put d v=putA als ex (a.put d v)
 | []=>rfl
 | (j,b)::ex=>by
  rw[putA,putA, ← zjr f a ex]
  refine Act.put_comm _ _ _ fun e c=>?_
  cases hj:als[j]? with
  | none=>rw[hj]at c;cases c
  | some p=>obtain⟨d',t,z⟩:=p;rw[hj]at c;simp at c;subst c;exact f j _ t z hj
def objB:List (Nat×TypeId×Value)→(Nat→Nat)→Nat→List Ob
 | [],_,_=>[]
 | (_,t,z)::r,b,j=>obC (b j) z.cells.toList t::objB r b (j+1)
def envB:List (Nat×TypeId×Value)→(Nat→Nat)→Nat→Env
 | [],_,_=>[]
 | (d,_,_)::r,b,j=>(d,.pointer (some ⟨b j,0,none⟩))::envB r b (j+1)
theorem zlv{ex:List (Nat×Nat)}(b:(ex.map (·.1)).Nodup):∃c:Nat→Nat,∀a∈ex,a.2=c a.1:=by{
 induction ex with
 | nil=>exact⟨fun _=>0,fun a hp=>by cases hp⟩
 | cons q ex ih =>
  simp only[List.map_cons,List.nodup_cons]at b
  obtain⟨c,e⟩:=ih b.2
  refine⟨fun d=>if d=q.1 then q.2 else c d,fun a hp=>?_⟩
  rcases List.mem_cons.1 hp with rfl|hp
  simp
  have:a.1≠q.1:=fun f=>b.1 (by rw[← f];exact List.mem_map.2 ⟨a,hp,rfl⟩)
  simp[this,e a hp]}
theorem zgQ{n:Fr}{E:Env}{als:List (Nat×TypeId×Value)}(m:∀(j d:Nat) (t:TypeId) (z:Value),als[j]?=some (d,t,z)→Nat.blt d n.sz=true∧E.get d=none)(i:(als.map (·.1)).Nodup){a:Act}(o:Has n a E):∀(ex:List (Nat×Nat)),(ex.map (·.1)).Nodup→(∀b∈ex,b.1<als.length)→
  Has n (putA als ex a) E∧∀b∈ex,∀d t z,als[b.1]?=some (d,t,z)→(putA als ex a).tmps[d]?=some (.pointer (some ⟨b.2,0,none⟩))
 | [],_,_=>⟨o,fun b hp=>by cases hp⟩
 | (j,c)::ex,hnd,hl=>by
  simp only[List.map_cons,List.nodup_cons]at hnd
  obtain⟨h1,h2⟩:=zgQ m i o ex hnd.2 (fun b hp=>hl b (List.mem_cons_of_mem _ hp))
  have u:=hl (j,c) (by simp)
  obtain⟨g,e⟩:∃g,als[j]?=some g:=⟨als[j],by simp[u]⟩
  obtain⟨d,t,z⟩:=g
  have l:=m j d t z e
  refine⟨by rw[putA,e];exact h1.skip l.2,fun b hp p v w f=>?_⟩
  rw[putA,e]
  rcases List.mem_cons.1 hp with rfl|hp
  ·rw[e]at f
   cases f
   have:=(h1.put (v := .pointer (some ⟨c,0,none⟩)) l.1).get d (.pointer (some ⟨c,0,none⟩)) (by simp[Env.get])
   exact this
  ·have q:d≠p:=fun h=>by
    subst h
    have r:b.1≠j:=fun h=>hnd.1 (by rw[← h];exact List.mem_map.2 ⟨b,hp,rfl⟩)
    have s:=hl b (List.mem_cons_of_mem _ hp)
    have x:(als.map (·.1))[b.1]?=some d:=by simp[f]
    have y:(als.map (·.1))[j]?=some d:=by simp[e]
    exact r ((List.getElem?_inj (by simpa using s) i).1 (x.trans y.symm))
   have:=h2 b hp p v w f
   simp only[Option.map_some,Act.put]
   rw[Array.getElem?_setIfInBounds_ne q]
   exact this
theorem zjd{n:Fr}{E:Env}{b:Nat→Nat}{a:Act}(g:Has n a E):∀(als c:List (Nat×TypeId×Value)),(∀(j d:Nat) (t:TypeId) (z:Value),als[j]?=some (d,t,z)→a.tmps[d]?=some (.pointer (some ⟨b (c.length+j),0,none⟩)))→Has n a (envB als b c.length++E)
 | [],c,_=>g
 | (d,t,z)::r,c,h=>by
  have ih:=zjd g r (c++[(d,t,z)]) (fun j i f l m=>by
   have:=h (j+1) i f l (by simpa using m)
   rw[this]
   simp only[List.length_append,List.length_cons,List.length_nil]
   rw[show c.length+(j+1)=c.length+(0+1)+j by omega])
  simp only[List.length_append,List.length_cons,List.length_nil,Nat.zero_add]at ih
  refine⟨ih.size,ih.defers,fun f o e=>?_⟩
  simp only[envB,List.cons_append,Env.get]at e
  cases hb:Nat.beq d f with
  | true =>
   rw[hb]at e
   have:=Nat.eq_of_beq_eq_true hb
   subst this
   cases e
   exact h 0 d t z rfl
  | false=>rw[hb]at e;exact ih.get f o e
def allB(md:Region.Mode)(ops:Array Oper)(k n:Nat)(ds:List Nat):Bool :=
 Region.noSelect ops&&decide (n<ops.size)&&Region.sinkB md ops n&&Region.chainB md ops n&&znf md ops k n ds&&decide (k≤n) &&
  zjf md ops (ops.size-n) n k 0 ((List.range ops.size).map fun i=>decide (k≤i∧i<n)).toArray
end
end Go.Gw
