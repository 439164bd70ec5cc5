import Derived.Test.YtcnidlpginehjaaGreatGe
import Derived.Test.YtcnidlpginehjaaGreatIf
import Derived.Test.YtcnidlpginehjaaGreatHm
import Derived.Test.YtcnidlpginehjaaGreatHv
import Derived.Test.YtcnidlpginehjaaGreatIa
namespace Go.Gw
open Go Go.RowKit Go.Pu
variable{Dw:Prop}
set_option linter.unusedSimpArgs false
set_option linter.unusedVariables false
theorem zgA{P:Program}(w:World)(f q ty c:TypeId)(g o d k:Nat)(a:Addr)(e l:Nat)(b:Array Value)(t:TypeId)(cs:List Value)(s:Nat)(r:P.underlying f=some (.slice c))(h:(P.info? c).map (·.size)=some s)(u:w.heap[g]?=some (.cells b t (0,0)))(x:cs.length=Nat.min e d*s)(m:∀j v,cs[j]?=some v→w.cell? (a.add j)=some v)(n:o+cs.length≤b.size)(y:∀v∈cs,v.oneCell'=true):
  (Builtin.copy_ #[f,q] ty #[.slice (some ⟨g,o,none⟩) d k,.slice (some a) e l]).run P w =
   .ok (goInt (Nat.min e d:Nat)) (w.setRow g (b.toList.take o++cs++b.toList.drop (o+cs.length)).toArray):=by{
 have z:=run_loadCells_list (P:=P) w a cs m;have p:=run_storeCells_at P g o t cs 0 b w u (by simpa using n) y;cases hq:P.info? c with
 | none=>simp[hq]at h
 | some i =>
  have A:i.size=s:=by simpa [hq]using h
  simp[Builtin.copy_,run_underlying r,Builtin.lenOf,Builtin.firstCells,sizeOf,typeInfo,hq,A, ← x,z,p]}
section steps
variable{P:Program}{n:Fr}{ops:Array Oper}{Q:Exit→Act→World→Prop}{E:Env}{w:World}{rest:List Oper}{v u:Value}{d:Nat}
variable{ty t t2 e:TypeId}{pos:String}{af:Array Edge}{x y:Operand}{A:Nat→Prop}{α:Type}[GoT α]{B:Nat}{L:List Ob}{i:Nat}
theorem zhO{l b:List α}(a4:Hp B A w L)(hi:L[i]?=some (obS e v l))(c5:Sl A w u b)(T:P.underlying t=some (.slice e))(U:(P.info? e).map (·.size)=some (GoT.cells α))(hB:B≤w.heap.size)(a5:∀D,w.heap.size≤D→A D)(a6:ev E x=some v)(a7:ev E y=some u)(a8:Nat.blt d n.sz=true)(h:∀w1,Hp B A w1 (L.set i (obS e v (jR l b)))→Tr Dw B A w A w1→V P n ops Q rest ((d,.int .i64 ((min b.length l.length:Nat):Int))::E) w1):
  V P n ops Q (⟨some d,.call ⟨.builtin .copy,#[x,y],#[t,t2]⟩,ty,pos,af,none⟩::rest) E w:=by
 obtain⟨f,hp,H,b3⟩:=a4.at hi
 obtain⟨j,F,p,a,c6,G,a2,b4,c7⟩:∃(j:Option Addr) (F p:Nat) (a:List Value),u=.slice j F p∧a.length=min b.length l.length*GoT.cells α∧repL A w a (b.take l.length)∧(∀(q:Addr),j=some q→∀o v,a[o]?=some v→w.cell? (q.add o)=some v)∧F=b.length∧(j=none→F=0∧p=0):=by
  rcases c5 with ⟨j,m,rfl,rfl,_,c8⟩|⟨D,off,m,a,rfl,d8,d9,e0,e1,b5,b9⟩
  ·exact⟨j,0,m, [],rfl,by simp,by simp[repL],fun _ _ o v I=>by simp at I,rfl,fun h=>⟨rfl,c8 h⟩⟩
  ·obtain⟨W,X,rfl,J,Z⟩:=b5.cut l.length
   have r:=J.len
   rw[List.length_take]at r
   refine⟨_,_,m,W,rfl,by rw[r,Nat.min_comm],J,fun q c0 o v I=>?_,rfl,fun h=>by cases h⟩
   cases c0
   have:=b9 o v (by rw[List.getElem?_append_left (List.getElem?_eq_some_iff.1 I).1];exact I)
   have b6:(⟨D,off,none⟩:Addr).add o=⟨D,off+o,none⟩:=by unfold Addr.add;split <;> simp_all
   rw[b6]
   exact this
 obtain⟨rfl,b7⟩:=c7
 subst c6
 have b1:∀v∈a,v.oneCell'=true:=a2.one
 rcases hp with ⟨rfl,rfl,rfl⟩|⟨c,m,g,c9,rfl,rfl,a0,a9,d0,b0,d1,d2⟩
 · -- into nil
  have O:(Builtin.copy_ #[t,t2] ty #[.slice none 0 0,.slice j b.length p]).run P w=.ok (goInt 0) w:=by
   cases K:P.info? e with
   | none=>simp[K]at U
   | some ii=>cases j <;> simp[Builtin.copy_,run_underlying T,Builtin.lenOf,Builtin.firstCells,sizeOf,typeInfo,K,loadCells,loadCellsFrom]
  refine V_y (w':=w) (v := .int .i64 ((min b.length 0:Nat):Int)) (fun d3 s=>?_) rfl rfl a8 (h w ?_ (Tr.refl a5))
  ·simp only[execOp,resolve,invoke,builtin,List.map_toArray,List.map_cons,List.map_nil,s.eval a6,s.eval a7]
   simp[O,goInt]
  ·have a1:jR ([]:List α) b=[]:=by simp[jR]
   have d4:L.set i (obS e (.slice none 0 0) (jR ([]:List α) b))=L:=by
    rw[a1]
    apply List.ext_getElem?
    intro o
    rw[List.getElem?_set]
    split
    ·rename_i hij
     subst hij
     rw[hi]
     simp[(List.getElem?_eq_some_iff.1 hi).1]
    ·rfl
   rw[d4]
   exact a4
 ·have d7:l.length*GoT.cells α≤g.size:=by rw[b0];exact Nat.mul_le_mul_right _ a9
  have e2:a.length≤l.length*GoT.cells α:=by rw[G];exact Nat.mul_le_mul_right _ (Nat.min_le_right _ _)
  have O:(Builtin.copy_ #[t,t2] ty #[.slice (some ⟨c,0,none⟩) l.length m,.slice j b.length p]).run P w=.ok (goInt (min b.length l.length:Nat)) (w.setRow c (a++g.toList.drop a.length).toArray):=by
   cases j with
   | some q =>
    have:=zgA (P:=P) w t t2 ty e c 0 l.length m q b.length p g e a (GoT.cells α) T U a0 G (b4 q rfl) (by omega) b1
    simpa using this
   | none =>
    obtain⟨d5,d6⟩:=b7 rfl
    have a3:b.length=0:=d5
    subst d6
    have b8:a=[]:=List.eq_nil_of_length_eq_zero (by rw[G,a3];simp)
    subst b8
    have:=run_copy_nil (P:=P) w t t2 ty e ⟨c,0,none⟩ l.length m T (by cases K:P.info? e with|none=>simp[K]at U|some ii=>rfl)
    rw[a3]
    have b2:=setRow_self w c g e (0,0) a0
    simp only[List.length_nil,List.nil_append,List.drop_zero,Array.toArray_toList,b2]
    simpa using this
  have R:(jR l b).length=l.length:=by simp[jR];omega
  have S:Mv Dw B A w A (w.setRow c (a++g.toList.drop a.length).toArray) (some c) :=
   ⟨rfl,rfl,rfl,by simp,fun _=>Nat.le_refl _,fun k M c1=>setRow_other w c k _ (fun e=>c1 (by rw[e])),fun k M=>by cases M;exact⟨(H c (by simp)).1,(H c (by simp)).2.2⟩,fun _ h=>h,fun _ _ h=>h,fun N z=>a5 N (by simpa using z)⟩
  refine V_y (w':=w.setRow c (a++g.toList.drop a.length).toArray) (v := .int .i64 ((min b.length l.length:Nat):Int)) (fun d3 s=>?_) rfl rfl a8 (h _ (b3 A _ (some c) (obS e (.slice (some ⟨c,0,none⟩) l.length m) (jR l b)) [c] S (fun k M=>by cases M;simp) ?_ fun N z=>⟨.inl z,(H N z).1,(H N z).2.2⟩) (S.tr hB))
  ·simp only[execOp,resolve,invoke,builtin,List.map_toArray,List.map_cons,List.map_nil,s.eval a6,s.eval a7]
   simp[O,goInt]
  ·obtain⟨W,X,c2,J,Z⟩:=d1.cut b.length
   have r:=J.len
   rw[List.length_take]at r
   refine .inr ⟨c,m,(a++g.toList.drop a.length).toArray,a++X,by rw[R],rfl,setRow_heap w c g _ e _ a0,by rw[R];exact a9,d0,?_,?_,?_⟩
   ·have a1:((a++g.toList.drop a.length).toArray).size=a.length+(g.size-a.length):=by simp
    rw[a1, ← b0]
    omega
   ·unfold jR
    exact (a2.append Z).keep S.ex
   ·rw[R]
    rw[List.take_append,List.take_of_length_le (by omega)]
    congr 1
    have:(g.toList.drop a.length).take (l.length*GoT.cells α-a.length)=c9.drop a.length:=by
     rw[← d2,List.drop_take]
    rw[this,c2]
    rw[List.drop_append,List.drop_of_length_le (by omega),List.nil_append]
    by_cases c3:b.length≤l.length
    ·rw[show a.length-W.length=0 by rw[G,r,Nat.min_eq_left c3];omega,List.drop_zero]
    ·have c4:X.length=0:=by
      have:=Z.len
      rw[List.length_drop,Nat.sub_eq_zero_of_le (by omega),Nat.zero_mul]at this
      exact this
     rw[List.eq_nil_of_length_eq_zero c4]
     simp
end steps
theorem Res.four{P:Program}{n:Fr}{fn:Func}{E:Env}{w:World}{v x y z:Value}{t u s c:Nat}(d:fn.results=#[.tmp t,.tmp u,.tmp s,.tmp c])(e:E.get t=some v)(f:E.get u=some x)(g:E.get s=some y)(h:E.get c=some z):Res P fn E n w (.tuple #[v,x,y,z]):=fun a b=>by
 rw[show (results fn a.tmps).run P w=.ok (.tuple #[a.tmps.getD t undef,a.tmps.getD u undef,a.tmps.getD s undef,a.tmps.getD c undef]) w by simp[results,d],b.getD e,b.getD f,b.getD g,b.getD h]
def Rm{κ α:Type}[Mk κ][GoT α](A:Nat→Prop)(w:World)(mb:Nat)(l:List (κ×α)):Prop:=A mb∧mb<w.heap.size∧∃es clk,w.heap[mb]?=some (.map es clk)∧es.size=l.length∧(∀(j:Nat) (e:MapEntry) (p:κ×α),es[j]?=some e→l[j]?=some p→ReE A w e p)∧(l.map (·.1)).Nodup
section
variable{κ α:Type}[Mk κ][GoT α]{A A1:Nat→Prop}{w w1:World}{B mb:Nat}{l:List (κ×α)}{L:List Ob}{i:Nat}
theorem Rm.keep(n:Rm A w mb l)(a:Ex A w A1 w1):Rm A1 w1 mb l:=by{obtain⟨d,b,f,c,g,h,i,j⟩:=n;obtain⟨k,m⟩:=a.block mb b d;exact⟨k,Nat.lt_of_lt_of_le b a.size,f,c,m.trans g,h,fun o e p q r=>(i o e p q r).keep a,j⟩}
theorem Rm.kp(b:Rm A w mb l)(a:Kp Dw w w1):Rm A w1 mb l:=b.keep (.kp a)
theorem Rm.tr(a:Rm A w mb l)(b:Tr Dw B A w A1 w1):Rm A1 w1 mb l:=a.keep b.ex
instance:GoT (Rmap κ α) where
 cells:=1
 wf _:=True
 rep A w cs x:=∃mb,cs=[.map (some mb)]∧Rm A w mb x.l
 len h:=by obtain⟨mb,rfl,_⟩:=h;rfl
 one {_ _ _ x} h u hu:=by obtain⟨mb,rfl,_⟩:=h;simp at hu;subst hu;rfl
 keep h he:=by obtain⟨mb,e,h1⟩:=h;exact⟨mb,e,h1.keep he⟩
theorem El.rmap{b off:Nat}{x:Rmap κ α}(d:El A w b off x):∃mb,w.cell? ⟨b,off,none⟩=some (.map (some mb))∧Rm A w mb x.l:=by{obtain⟨e,f,g,⟨mb,rfl,a⟩,c⟩:=d;refine⟨mb,?_,a⟩;have:=c 0 (.map (some mb)) rfl;simpa using this}
end
section
variable{P:Program}{n:Fr}{ops:Array Oper}{Q:Exit→Act→World→Prop}{E:Env}{w:World}{rest:List Oper}{d mb:Nat}
variable{ty t kt et:TypeId}{pos:String}{af:Array Edge}{x y:Operand}{A:Nat→Prop}{κ α:Type}[DecidableEq κ][Mk κ][GoT α]{l:List (κ×α)}{k:κ}
theorem zjt{z:α}{zc:Array Value}(F:Rm A w mb l)(k:κ)(s:P.underlying t=some (.map kt et))(c:P.underlying kt=some (Mk.dsc κ))(G:∀w,(zeroValue et).run P w=.ok (.agg zc) w)(B:GoT.rep A w zc.toList z):
  ∃d:Array Value,GoT.rep A w d.toList ((zy l k).getD z)∧∀{E:Env} {x y:Operand} {ρd:Option Nat} {H:Option (Nat×Bool)} {w':World},Kp Dw w w'→ev E x=some (.map (some mb))→ev E y=some (Mk.enc k)→
   Y P n E ⟨ρd,.lookup t x y true,ty,pos,af,H⟩ w' (.tuple #[.agg d,.bool (zy l k).isSome]) w':=by{
 obtain⟨_,_,u,Q,h,i,j,I⟩:=F;have D:=zdC i j;have f:MapKept.IsKey (Mk.dsc κ) (Mk.enc k):=Mk.isK _;have r:mb<w.heap.size:=(Array.getElem?_eq_some_iff.1 h).1;rcases MapKept.findNow_spec f u.toList 0 D with ⟨m,b⟩|⟨N,e,m,b,v⟩;have J:zy l k=none:=zbp (zgb i j b);rw[J,Option.getD_none,Option.isSome_none];refine⟨zc,B,fun o p q O a=>?_⟩;have g:=(o.block mb r).trans h;simp only[execOp,a.eval p,a.eval q,Instr.lookup];simp[run_underlying s,MapKept.run_getObj_map g,MapKept.run_checkKey c f,MapKept.run_findKey c m,Result.andThen,G];rw[Array.getElem?_toList]at b;obtain⟨S,hp,K,d,L,M⟩:=zfc i j b;rw[K]at v;obtain rfl:=Mk.inj _ _ v;rw[zbo I (List.mem_of_getElem? hp),Option.getD_some,Option.isSome_some];refine⟨d,M,fun o p q O a=>?_⟩;have g:=(o.block mb r).trans h;have R:u.toList[N]?=some e:=by rw[Array.getElem?_toList];exact b
 simp only[execOp,a.eval p,a.eval q,Instr.lookup];simp[run_underlying s,MapKept.run_getObj_map g,MapKept.run_checkKey c f,MapKept.run_findKey c m,Result.andThen,L]}
end
section
variable{P:Program}{n:Fr}{E:Env}{w:World}{d mb i B:Nat}{ty t kt et:TypeId}{pos:String}{af:Array Edge}{x y:Operand}{A:Nat→Prop}{κ α:Type}[DecidableEq κ][Mk κ][Cel α]{l:List (κ×α)}{k:κ}{L:List Ob}
theorem zid{z:α}{q:Value}(J:Hp B A w L)(hi:L[i]?=some (obSM mb l))(r:P.underlying t=some (.map kt et))(b:P.underlying kt=some (Mk.dsc κ))(K:∀w,(zeroValue et).run P w=.ok q w)(G:q=Cel.enc z)(s:ev E x=some (.map (some mb)))(u:ev E y=some (Mk.enc k)):Y P n E ⟨some d,.lookup t x y true,ty,pos,af,none⟩ w (.tuple #[Cel.enc ((zy l k).getD z),.bool (zy l k).isSome]) w:=by{
 obtain⟨f,⟨rfl,g,R,v,h,M⟩,_,_⟩:=J.at hi
 have H:∀e∈g.toList,MapKept.IsKey (Mk.dsc κ) e.key:=fun e j=>by
  obtain⟨p,_,hp,_⟩:=zgk h e j
  rw[hp]
  exact Mk.isK _
 have c:MapKept.IsKey (Mk.dsc κ) (Mk.enc k):=Mk.isK _;intro S a;rcases MapKept.findNow_spec c g.toList 0 H with ⟨m,o⟩|⟨T,e,m,o,D⟩
 have N:zy l k=none:=zbp fun p hp I=>by
  have:encE p∈g.toList.map (fun e=>(e.key,e.val)):=by rw[h];exact List.mem_map_of_mem hp
  obtain⟨e,j,F⟩:=List.mem_map.1 this
  simp only[encE,Prod.mk.injEq]at F
  exact o e j (by rw[F.1,I])
 rw[N,Option.getD_none,Option.isSome_none, ← G];simp only[execOp,a.eval s,a.eval u,Instr.lookup];simp[run_underlying r,MapKept.run_getObj_map v,MapKept.run_checkKey b c,MapKept.run_findKey b m,Result.andThen,K];obtain⟨p,hp,O,Q⟩:=zij h o;rw[O]at D;obtain rfl:=Mk.inj _ _ D;rw[zbo M (List.mem_of_getElem? hp),Option.getD_some,Option.isSome_some, ← Q];simp only[execOp,a.eval s,a.eval u,Instr.lookup];simp[run_underlying r,MapKept.run_getObj_map v,MapKept.run_checkKey b c,MapKept.run_findKey b m,Result.andThen]}
end
theorem Ownd.sl{α:Type}[GoT α][Flat α]{e:TypeId}{A:Nat→Prop}{w w':World}{v:Value}{l:List α}(b:Ownd e w w' v l)(c:∀a,w.heap.size≤a→A a):Sl A w' v l:=by{obtain⟨f,hp,d⟩:=b;exact OwP.sl (A:=A) (OwP.flat hp) (fun _ b=>b) fun a g=>c a (d a g)}
section
variable{P:Program}{n:Fr}{ops:Array Oper}{Q:Exit→Act→World→Prop}{E:Env}{w:World}{rest:List Oper}{v u:Value}{d:Nat}
variable{ty t e:TypeId}{pos:String}{af:Array Edge}{x y:Operand}{A:Nat→Prop}{B:Nat}{L:List Ob}{ρ γ:Type}[GoT ρ][GoT γ]{f:ρ→γ→Ob}{l r:List γ}
theorem JN{lim bytes:Nat}{ti:TypeInfo}{h:Value}{z:ρ}{c:γ}{F:List Ob}(M:Hp B A w (obGS f e v l::F++L))(N:Sl A w u [z])(p:∀{A1:Nat→Prop} {w1:World} {i:List Ob},Hp B A1 w1 (F++i)→Hp B A1 w1 (f z c::i))(O:Zc lim l [c]=some r)(R:P.underlying t=some (.slice e))(q:P.info? e=some ti)(S:ti.zero=some h)(m:ti.size=GoT.cells ρ)(s:ti.bytes=bytes)(D:h.cells.size=GoT.cells ρ)(G:GoT.cells ρ≠0)(o:lim*bytes≤140737488355328)(H:lim≤maxLen)(hB:B≤w.heap.size)(T:∀j,w.heap.size≤j→A j)(U:ev E x=some v)(W:ev E y=some u)(X:Nat.blt d n.sz=true)(a6:∀a w1 A1,Hp B A1 w1 (obGS f e a r::L)→Tr Dw B A w A1 w1→(w.heap.size≤w1.heap.size∧∀k,k<w.heap.size→some k≠v.ownBlock→w1.heap[k]?=w.heap[k]?)→V P n ops Q rest ((d,a)::E) w1):
  V P n ops Q (⟨some d,.call ⟨.builtin .append,#[x,y],#[t,t]⟩,ty,pos,af,none⟩::rest) E w:=by{
 obtain⟨ys,b,Z⟩:=Hp.gsOpen M (i:=0) rfl;obtain⟨a0,rfl⟩:=zeM O;have I:Zc lim ys [z]=some (ys++[z]):=by unfold Zc;rw[if_pos (by rw[b];exact a0)]
 refine zaD Z (i:=0) rfl N I R q S m s D G o H hB T U W X fun a w1 A1 g J K=>a6 a w1 A1 ?_ J K;replace g:Hp B A1 w1 (obS e a (ys++[z])::obY f ys l::(F++L)):=g
 have a1:Hp B A1 w1 (F++(obS e a (ys++[z])::obY f ys l::L)):=by
  refine g.perm ?_
  refine List.Perm.trans (List.Perm.cons _ List.perm_middle.symm) ?_
  exact List.perm_middle.symm
 have a2:=p a1;obtain⟨_,a3⟩:=Hp.open (F:=fun (_:Unit)=>gsZ f ys l) (a2.perm ((List.Perm.cons _ (.swap _ _ _)).trans (.swap _ _ _)))
 have a4:Hp B A1 w1 (gsZ f (ys++[z]) (l++[c])++(obS e a (ys++[z])::L)):=by
  refine a3.perm ?_
  have:gsZ f (ys++[z]) (l++[c])=gsZ f ys l++[f z c]:=by unfold gsZ;rw[List.zipWith_append b];rfl
  rw[this,List.append_assoc]
  exact List.Perm.refl _
 have a5:=Hp.pack (F:=fun (_:Unit)=>gsZ f (ys++[z]) (l++[c])) () a4;exact Hp.gsPack (a5.perm (.swap _ _ _)) (by rw[List.length_append,List.length_append,b];rfl)}
theorem zfk{lim bytes:Nat}{ti:TypeInfo}{g:Value}{z:ρ}{c:γ}{F:List Ob}(D:Hp B A w (obGS f e v l::F++L))(G:Sl A w u [z])(k:∀{A1:Nat→Prop} {w1:World} {h:List Ob},Hp B A1 w1 (F++h)→Hp B A1 w1 (f z c::h))(H:Zc lim l [c]=some r)(I:P.underlying t=some (.slice e))(m:P.info? e=some ti)(J:ti.zero=some g)(i:ti.size=GoT.cells ρ)(o:ti.bytes=bytes)(p:g.cells.size=GoT.cells ρ)(q:GoT.cells ρ≠0)(j:lim*bytes≤140737488355328)(s:lim≤maxLen)(hB:B≤w.heap.size)(K:∀b,w.heap.size≤b→A b)(M:ev E x=some v)(N:ev E y=some u)(O:Nat.blt d n.sz=true)(R:∀a w1 A1,Hp B A1 w1 (obGS f e a r::L)→Tr Dw B A w A1 w1→V P n ops Q rest ((d,a)::E) w1):
  V P n ops Q (⟨some d,.call ⟨.builtin .append,#[x,y],#[t,t]⟩,ty,pos,af,none⟩::rest) E w:=by{exact JN D G k H I m J i o p q j s hB K M N O fun a w1 A1 S b _=>R a w1 A1 S b}
theorem Hp.ownOffGS{i j b:Nat}{cs:List Value}(h:Hp B A w L)(hi:L[i]?=some (obGS f e v l))(d:(L.eraseIdx i)[j]?=some (obC b cs t))(c:e≠t):∀a,v.ownBlock=some a→¬A a∧a≠b:=by{obtain⟨ys,_,g⟩:=Hp.gsOpen h hi;exact Hp.ownOff g (i:=0) rfl (j:=j+2) d c}
end
section
variable{B:Nat}{A:Nat→Prop}{w:World}{L:List Ob}{ρ γ:Type}[GoT ρ][GoT γ]{f:ρ→γ→Ob}{e:TypeId}{v:Value}{l r:List γ}{ys:List ρ}{c c':γ}{y:ρ}{ix:Int}
theorem Hp.gsBack(k:Hp B A w (f y c'::obS e v ys::obYX f ys l ix.toNat::L))(g:ys.length=l.length)(h:idx ys ix=some y)(i:idx l ix=some c)(a:setI l ix c'=some r):Hp B A w (obGS f e v r::L):=by{
 obtain⟨m,n,_⟩:=Jv i;have j:ix.toNat<l.length:=by omega
 have b:r=l.set ix.toNat c':=by
  unfold setI at a
  split at a
  cases a;rfl
  cases a
 subst b;obtain⟨_,_,d⟩:=Jv h;refine Hp.gsClose (k:=ix.toNat) (y:=y) ?_ g j;rw[zjm d];exact k.perm (.swap _ _ _)}
end
section
variable{B i mb:Nat}{A:Nat→Prop}{w:World}{L:List Ob}{κ α:Type}[Mk κ]
theorem Hp.fm[Cel α]{l:List (κ×α)}(c:Hp B A w L)(hi:L[i]?=some (obSM mb l)):Fm (fun _=>True) w mb l:=by{obtain⟨f,⟨rfl,a⟩,b,_⟩:=c.at hi;exact⟨trivial,(b mb (by simp)).2.1,a⟩}
theorem Hp.rm[GoT α]{l:List (κ×α)}(k:Hp B A w L)(hi:L[i]?=some (obRM mb l)):Rm (fun _=>True) w mb l:=by{obtain⟨f,⟨rfl,b,a,c,d,g,h⟩,j,_⟩:=k.at hi;exact⟨trivial,(j mb (by simp)).2.1,b,a,c,d,fun m e n o p=>(g m e n o p).keep (.sub fun _ _ _=>trivial),h⟩}
end
end Go.Gw
