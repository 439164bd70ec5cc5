import Derived.Test.YtligccioljhapaaGreatDoorGe
import Derived.Test.YtligccioljhapaaGreatDoorIf
import Derived.Test.YtligccioljhapaaGreatDoorHm
import Derived.Test.YtligccioljhapaaGreatDoorHv
import Derived.Test.YtligccioljhapaaGreatDoorIa
namespace Go.Gw
open Go Go.RowKit Go.Pu
variable{Dw:Prop}
set_option linter.unusedSimpArgs false
set_option linter.unusedVariables false
theorem zil{P:Program}(w:World)(f r ty c:TypeId)(g o d l:Nat)(a:Addr)(e m:Nat)(b:Array Value)(t:TypeId)(cs:List Value)(s:Nat)(u:P.underlying f=some (.slice c))(h:(P.info? c).map (·.size)=some s)(x:w.heap[g]?=some (.cells b t (0,0)))(y:cs.length=Nat.min e d*s)(n:∀j v,cs[j]?=some v→w.cell? (a.add j)=some v)(p:o+cs.length≤b.size)(z:∀v∈cs,v.oneCell'=true):
  (Builtin.copy_ #[f,r] ty #[.slice (some ⟨g,o,none⟩) d l,.slice (some a) e m]).run P w =
   .ok (goInt (Nat.min e d:Nat)) (w.setRow g (b.toList.take o++cs++b.toList.drop (o+cs.length)).toArray):=by{
 have A:=run_loadCells_list (P:=P) w a cs n;have q:=run_storeCells_at P g o t cs 0 b w x (by simpa using p) z;cases hq:P.info? c with
 | none=>simp[hq]at h
 | some i =>
  have B:i.size=s:=by simpa [hq]using h
  simp[Builtin.copy_,run_underlying u,Builtin.lenOf,Builtin.firstCells,sizeOf,typeInfo,hq,B, ← y,A,q]}
section steps
variable{P:Program}{n:Fr}{ops:Array Oper}{Q:Exit→Act→World→Prop}{E:Env}{w:World}{rest:List Oper}{v u:Value}{d:Nat}
variable{ty t t2 e:TypeId}{pos:String}{af:Array Edge}{x y:Operand}{A:Nat→Prop}{α:Type}[GoT α]{B:Nat}{L:List Ob}{i:Nat}
theorem zki{l m:List α}(a4:Hp B A w L)(hi:L[i]?=some (obS e v l))(c5:Sl A w u m)(T:P.underlying t=some (.slice e))(U:(P.info? e).map (·.size)=some (GoT.cells α))(hB:B≤w.heap.size)(a5:∀D,w.heap.size≤D→A D)(a6:ev E x=some v)(a7:ev E y=some u)(a8:Nat.blt d n.sz=true)(g:∀w1,Hp B A w1 (L.set i (obS e v (jL l m)))→Tr Dw B A w A w1→V P n ops Q rest ((d,.int .i64 ((min m.length l.length:Nat):Int))::E) w1):
  V P n ops Q (⟨some d,.call ⟨.builtin .copy,#[x,y],#[t,t2]⟩,ty,pos,af,none⟩::rest) E w:=by
 obtain⟨f,hp,H,b3⟩:=a4.at hi
 obtain⟨h,F,p,a,c6,G,a2,b4,c7⟩:∃(h:Option Addr) (F p:Nat) (a:List Value),u=.slice h F p∧a.length=min m.length l.length*GoT.cells α∧repL A w a (m.take l.length)∧(∀(q:Addr),h=some q→∀o v,a[o]?=some v→w.cell? (q.add o)=some v)∧F=m.length∧(h=none→F=0∧p=0):=by
  rcases c5 with ⟨h,j,rfl,rfl,_,c8⟩|⟨D,off,j,a,rfl,d7,d8,d9,e0,b5,b9⟩
  ·exact⟨h,0,j, [],rfl,by simp,by simp[repL],fun _ _ o v I=>by simp at I,rfl,fun g=>⟨rfl,c8 g⟩⟩
  ·obtain⟨W,X,rfl,J,Z⟩:=b5.cut l.length
   have r:=J.len
   rw[List.length_take]at r
   refine⟨_,_,j,W,rfl,by rw[r,Nat.min_comm],J,fun q c0 o v I=>?_,rfl,fun g=>by cases g⟩
   cases c0
   have:=b9 o v (by rw[List.getElem?_append_left (List.getElem?_eq_some_iff.1 I).1];exact I)
   have b6:(⟨D,off,none⟩:Addr).add o=⟨D,off+o,none⟩:=by unfold Addr.add;split <;> simp_all
   rw[b6]
   exact this
 obtain⟨rfl,b7⟩:=c7
 subst c6
 have b1:∀v∈a,v.oneCell'=true:=a2.one
 rcases hp with ⟨rfl,rfl,rfl⟩|⟨b,j,c,c9,rfl,rfl,a0,a9,d0,b0,d1,d2⟩
 · -- into nil
  have O:(Builtin.copy_ #[t,t2] ty #[.slice none 0 0,.slice h m.length p]).run P w=.ok (goInt 0) w:=by
   cases K:P.info? e with
   | none=>simp[K]at U
   | some ii=>cases h <;> simp[Builtin.copy_,run_underlying T,Builtin.lenOf,Builtin.firstCells,sizeOf,typeInfo,K,loadCells,loadCellsFrom]
  refine V_y (w':=w) (v := .int .i64 ((min m.length 0:Nat):Int)) (fun d3 s=>?_) rfl rfl a8 (g w ?_ (Tr.refl a5))
  ·simp only[execOp,resolve,invoke,builtin,List.map_toArray,List.map_cons,List.map_nil,s.eval a6,s.eval a7]
   simp[O,goInt]
  ·have a1:jL ([]:List α) m=[]:=by simp[jL]
   have e2:L.set i (obS e (.slice none 0 0) (jL ([]:List α) m))=L:=by
    rw[a1]
    apply List.ext_getElem?
    intro o
    rw[List.getElem?_set]
    split
    ·rename_i hij
     subst hij
     rw[hi]
     simp[(List.getElem?_eq_some_iff.1 hi).1]
    ·rfl
   rw[e2]
   exact a4
 ·have d6:l.length*GoT.cells α≤c.size:=by rw[b0];exact Nat.mul_le_mul_right _ a9
  have e1:a.length≤l.length*GoT.cells α:=by rw[G];exact Nat.mul_le_mul_right _ (Nat.min_le_right _ _)
  have O:(Builtin.copy_ #[t,t2] ty #[.slice (some ⟨b,0,none⟩) l.length j,.slice h m.length p]).run P w=.ok (goInt (min m.length l.length:Nat)) (w.setRow b (a++c.toList.drop a.length).toArray):=by
   cases h with
   | some q =>
    have:=zil (P:=P) w t t2 ty e b 0 l.length j q m.length p c e a (GoT.cells α) T U a0 G (b4 q rfl) (by omega) b1
    simpa using this
   | none =>
    obtain⟨d4,d5⟩:=b7 rfl
    have a3:m.length=0:=d4
    subst d5
    have b8:a=[]:=List.eq_nil_of_length_eq_zero (by rw[G,a3];simp)
    subst b8
    have:=run_copy_nil (P:=P) w t t2 ty e ⟨b,0,none⟩ l.length j T (by cases K:P.info? e with|none=>simp[K]at U|some ii=>rfl)
    rw[a3]
    have b2:=setRow_self w b c e (0,0) a0
    simp only[List.length_nil,List.nil_append,List.drop_zero,Array.toArray_toList,b2]
    simpa using this
  have R:(jL l m).length=l.length:=by simp[jL];omega
  have S:Mv Dw B A w A (w.setRow b (a++c.toList.drop a.length).toArray) (some b) :=
   ⟨rfl,rfl,rfl,by simp,fun _=>Nat.le_refl _,fun k M c1=>setRow_other w b k _ (fun e=>c1 (by rw[e])),fun k M=>by cases M;exact⟨(H b (by simp)).1,(H b (by simp)).2.2⟩,fun _ g=>g,fun _ _ g=>g,fun N z=>a5 N (by simpa using z)⟩
  refine V_y (w':=w.setRow b (a++c.toList.drop a.length).toArray) (v := .int .i64 ((min m.length l.length:Nat):Int)) (fun d3 s=>?_) rfl rfl a8 (g _ (b3 A _ (some b) (obS e (.slice (some ⟨b,0,none⟩) l.length j) (jL l m)) [b] S (fun k M=>by cases M;simp) ?_ fun N z=>⟨.inl z,(H N z).1,(H N z).2.2⟩) (S.tr hB))
  ·simp only[execOp,resolve,invoke,builtin,List.map_toArray,List.map_cons,List.map_nil,s.eval a6,s.eval a7]
   simp[O,goInt]
  ·obtain⟨W,X,c2,J,Z⟩:=d1.cut m.length
   have r:=J.len
   rw[List.length_take]at r
   refine .inr ⟨b,j,(a++c.toList.drop a.length).toArray,a++X,by rw[R],rfl,setRow_heap w b c _ e _ a0,by rw[R];exact a9,d0,?_,?_,?_⟩
   ·have a1:((a++c.toList.drop a.length).toArray).size=a.length+(c.size-a.length):=by simp
    rw[a1, ← b0]
    omega
   ·unfold jL
    exact (a2.append Z).keep S.ex
   ·rw[R]
    rw[List.take_append,List.take_of_length_le (by omega)]
    congr 1
    have:(c.toList.drop a.length).take (l.length*GoT.cells α-a.length)=c9.drop a.length:=by
     rw[← d2,List.drop_take]
    rw[this,c2]
    rw[List.drop_append,List.drop_of_length_le (by omega),List.nil_append]
    by_cases c3:m.length≤l.length
    ·rw[show a.length-W.length=0 by rw[G,r,Nat.min_eq_left c3];omega,List.drop_zero]
    ·have c4:X.length=0:=by
      have:=Z.len
      rw[List.length_drop,Nat.sub_eq_zero_of_le (by omega),Nat.zero_mul]at this
      exact this
     rw[List.eq_nil_of_length_eq_zero c4]
     simp
end steps
theorem Res.four{P:Program}{n:Fr}{fn:Func}{E:Env}{w:World}{v x y z:Value}{t u s c:Nat}(d:fn.results=#[.tmp t,.tmp u,.tmp s,.tmp c])(e:E.get t=some v)(f:E.get u=some x)(g:E.get s=some y)(h:E.get c=some z):Res P fn E n w (.tuple #[v,x,y,z]):=fun a b=>by
 rw[show (results fn a.tmps).run P w=.ok (.tuple #[a.tmps.getD t undef,a.tmps.getD u undef,a.tmps.getD s undef,a.tmps.getD c undef]) w by simp[results,d],b.getD e,b.getD f,b.getD g,b.getD h]
def Rm{κ α:Type}[Mk κ][GoT α](A:Nat→Prop)(w:World)(mb:Nat)(l:List (κ×α)):Prop:=A mb∧mb<w.heap.size∧∃es clk,w.heap[mb]?=some (.map es clk)∧es.size=l.length∧(∀(j:Nat) (e:MapEntry) (p:κ×α),es[j]?=some e→l[j]?=some p→ReE A w e p)∧(l.map (·.1)).Nodup
section
variable{κ α:Type}[Mk κ][GoT α]{A A1:Nat→Prop}{w w1:World}{B mb:Nat}{l:List (κ×α)}{L:List Ob}{i:Nat}
theorem Rm.keep(o:Rm A w mb l)(a:Ex A w A1 w1):Rm A1 w1 mb l:=by{obtain⟨d,b,f,c,g,h,i,j⟩:=o;obtain⟨m,n⟩:=a.block mb b d;exact⟨m,Nat.lt_of_lt_of_le b a.size,f,c,n.trans g,h,fun p e q r s=>(i p e q r s).keep a,j⟩}
theorem Rm.kp(b:Rm A w mb l)(a:Kp Dw w w1):Rm A w1 mb l:=b.keep (.kp a)
theorem Rm.tr(a:Rm A w mb l)(m:Tr Dw B A w A1 w1):Rm A1 w1 mb l:=a.keep m.ex
instance:GoT (Rmap κ α) where
 cells:=1
 wf _:=True
 rep A w cs x:=∃mb,cs=[.map (some mb)]∧Rm A w mb x.l
 len h:=by obtain⟨mb,rfl,_⟩:=h;rfl
 one {_ _ _ x} h u hu:=by obtain⟨mb,rfl,_⟩:=h;simp at hu;subst hu;rfl
 keep h he:=by obtain⟨mb,e,h1⟩:=h;exact⟨mb,e,h1.keep he⟩
theorem El.rmap{b off:Nat}{x:Rmap κ α}(d:El A w b off x):∃mb,w.cell? ⟨b,off,none⟩=some (.map (some mb))∧Rm A w mb x.l:=by{obtain⟨e,f,g,⟨mb,rfl,a⟩,c⟩:=d;refine⟨mb,?_,a⟩;have:=c 0 (.map (some mb)) rfl;simpa using this}
end
section
variable{P:Program}{n:Fr}{ops:Array Oper}{Q:Exit→Act→World→Prop}{E:Env}{w:World}{rest:List Oper}{d mb:Nat}
variable{ty t kt et:TypeId}{pos:String}{af:Array Edge}{x y:Operand}{A:Nat→Prop}{κ α:Type}[DecidableEq κ][Mk κ][GoT α]{l:List (κ×α)}{k:κ}
theorem zlU{z:α}{zc:Array Value}(F:Rm A w mb l)(k:κ)(s:P.underlying t=some (.map kt et))(c:P.underlying kt=some (Mk.dsc κ))(G:∀w,(zeroValue et).run P w=.ok (.agg zc) w)(B:GoT.rep A w zc.toList z):
  ∃d:Array Value,GoT.rep A w d.toList ((zp l k).getD z)∧∀{E:Env} {x y:Operand} {ρd:Option Nat} {gd:Option (Nat×Bool)} {w':World},Kp Dw w w'→ev E x=some (.map (some mb))→ev E y=some (Mk.enc k)→
   Y P n E ⟨ρd,.lookup t x y true,ty,pos,af,gd⟩ w' (.tuple #[.agg d,.bool (zp l k).isSome]) w':=by{
 obtain⟨_,_,u,O,h,i,j,H⟩:=F;have D:=zgk i j;have f:MapKept.IsKey (Mk.dsc κ) (Mk.enc k):=Mk.isK _;have r:mb<w.heap.size:=(Array.getElem?_eq_some_iff.1 h).1;rcases MapKept.findNow_spec f u.toList 0 D with ⟨m,b⟩|⟨M,e,m,b,v⟩;have I:zp l k=none:=zcJ (ziE i j b);rw[I,Option.getD_none,Option.isSome_none];refine⟨zc,B,fun o p q N a=>?_⟩;have g:=(o.block mb r).trans h;simp only[execOp,a.eval p,a.eval q,Instr.lookup];simp[run_underlying s,MapKept.run_getObj_map g,MapKept.run_checkKey c f,MapKept.run_findKey c m,Result.andThen,G];rw[Array.getElem?_toList]at b;obtain⟨R,hp,J,d,K,L⟩:=zhl i j b;rw[J]at v;obtain rfl:=Mk.inj _ _ v;rw[zcL H (List.mem_of_getElem? hp),Option.getD_some,Option.isSome_some];refine⟨d,L,fun o p q N a=>?_⟩;have g:=(o.block mb r).trans h;have Q:u.toList[M]?=some e:=by rw[Array.getElem?_toList];exact b
 simp only[execOp,a.eval p,a.eval q,Instr.lookup];simp[run_underlying s,MapKept.run_getObj_map g,MapKept.run_checkKey c f,MapKept.run_findKey c m,Result.andThen,K]}
end
section
variable{P:Program}{n:Fr}{E:Env}{w:World}{d mb i B:Nat}{ty t kt et:TypeId}{pos:String}{af:Array Edge}{x y:Operand}{A:Nat→Prop}{κ α:Type}[DecidableEq κ][Mk κ][Cel α]{l:List (κ×α)}{k:κ}{L:List Ob}
theorem zkP{z:α}{q:Value}(J:Hp B A w L)(hi:L[i]?=some (obSM mb l))(r:P.underlying t=some (.map kt et))(b:P.underlying kt=some (Mk.dsc κ))(K:∀w,(zeroValue et).run P w=.ok q w)(G:q=Cel.enc z)(s:ev E x=some (.map (some mb)))(u:ev E y=some (Mk.enc k)):Y P n E ⟨some d,.lookup t x y true,ty,pos,af,none⟩ w (.tuple #[Cel.enc ((zp l k).getD z),.bool (zp l k).isSome]) w:=by{
 obtain⟨f,⟨rfl,g,R,v,h,M⟩,_,_⟩:=J.at hi
 have H:∀e∈g.toList,MapKept.IsKey (Mk.dsc κ) e.key:=fun e j=>by
  obtain⟨p,_,hp,_⟩:=zhI h e j
  rw[hp]
  exact Mk.isK _
 have c:MapKept.IsKey (Mk.dsc κ) (Mk.enc k):=Mk.isK _;intro S a;rcases MapKept.findNow_spec c g.toList 0 H with ⟨m,o⟩|⟨T,e,m,o,D⟩
 have N:zp l k=none:=zcJ fun p hp I=>by
  have:encE p∈g.toList.map (fun e=>(e.key,e.val)):=by rw[h];exact List.mem_map_of_mem hp
  obtain⟨e,j,F⟩:=List.mem_map.1 this
  simp only[encE,Prod.mk.injEq]at F
  exact o e j (by rw[F.1,I])
 rw[N,Option.getD_none,Option.isSome_none, ← G];simp only[execOp,a.eval s,a.eval u,Instr.lookup];simp[run_underlying r,MapKept.run_getObj_map v,MapKept.run_checkKey b c,MapKept.run_findKey b m,Result.andThen,K];obtain⟨p,hp,O,Q⟩:=zkN h o;rw[O]at D;obtain rfl:=Mk.inj _ _ D;rw[zcL M (List.mem_of_getElem? hp),Option.getD_some,Option.isSome_some, ← Q];simp only[execOp,a.eval s,a.eval u,Instr.lookup];simp[run_underlying r,MapKept.run_getObj_map v,MapKept.run_checkKey b c,MapKept.run_findKey b m,Result.andThen]}
end
theorem Ownd.sl{α:Type}[GoT α][Flat α]{e:TypeId}{A:Nat→Prop}{w w':World}{v:Value}{l:List α}(b:Ownd e w w' v l)(c:∀a,w.heap.size≤a→A a):Sl A w' v l:=by{obtain⟨f,hp,d⟩:=b;exact OwP.sl (A:=A) (OwP.flat hp) (fun _ b=>b) fun a g=>c a (d a g)}
section
variable{P:Program}{n:Fr}{ops:Array Oper}{Q:Exit→Act→World→Prop}{E:Env}{w:World}{rest:List Oper}{v u:Value}{d:Nat}
variable{ty t e:TypeId}{pos:String}{af:Array Edge}{x y:Operand}{A:Nat→Prop}{B:Nat}{L:List Ob}{ρ γ:Type}[GoT ρ][GoT γ]{f:ρ→γ→Ob}{l r:List γ}
theorem zja{lim bytes:Nat}{ti:TypeInfo}{h:Value}{z:ρ}{c:γ}{F:List Ob}(M:Hp B A w (obGS f e v l::F++L))(N:Sl A w u [z])(p:∀{A1:Nat→Prop} {w1:World} {i:List Ob},Hp B A1 w1 (F++i)→Hp B A1 w1 (f z c::i))(O:zE lim l [c]=some r)(R:P.underlying t=some (.slice e))(q:P.info? e=some ti)(S:ti.zero=some h)(m:ti.size=GoT.cells ρ)(s:ti.bytes=bytes)(D:h.cells.size=GoT.cells ρ)(G:GoT.cells ρ≠0)(o:lim*bytes≤140737488355328)(H:lim≤maxLen)(hB:B≤w.heap.size)(T:∀j,w.heap.size≤j→A j)(U:ev E x=some v)(W:ev E y=some u)(X:Nat.blt d n.sz=true)(a6:∀a w1 A1,Hp B A1 w1 (obGS f e a r::L)→Tr Dw B A w A1 w1→(w.heap.size≤w1.heap.size∧∀k,k<w.heap.size→some k≠v.ownBlock→w1.heap[k]?=w.heap[k]?)→V P n ops Q rest ((d,a)::E) w1):
  V P n ops Q (⟨some d,.call ⟨.builtin .append,#[x,y],#[t,t]⟩,ty,pos,af,none⟩::rest) E w:=by{
 obtain⟨ys,b,Z⟩:=Hp.gsOpen M (i:=0) rfl;obtain⟨a0,rfl⟩:=zfB O;have I:zE lim ys [z]=some (ys++[z]):=by unfold zE;rw[if_pos (by rw[b];exact a0)]
 refine zkH Z (i:=0) rfl N I R q S m s D G o H hB T U W X fun a w1 A1 g J K=>a6 a w1 A1 ?_ J K;replace g:Hp B A1 w1 (obS e a (ys++[z])::obY f ys l::(F++L)):=g
 have a1:Hp B A1 w1 (F++(obS e a (ys++[z])::obY f ys l::L)):=by
  refine g.perm ?_
  refine List.Perm.trans (List.Perm.cons _ List.perm_middle.symm) ?_
  exact List.perm_middle.symm
 have a2:=p a1;obtain⟨_,a3⟩:=Hp.open (F:=fun (_:Unit)=>gsZ f ys l) (a2.perm ((List.Perm.cons _ (.swap _ _ _)).trans (.swap _ _ _)))
 have a4:Hp B A1 w1 (gsZ f (ys++[z]) (l++[c])++(obS e a (ys++[z])::L)):=by
  refine a3.perm ?_
  have:gsZ f (ys++[z]) (l++[c])=gsZ f ys l++[f z c]:=by unfold gsZ;rw[List.zipWith_append b];rfl
  rw[this,List.append_assoc]
  exact List.Perm.refl _
 have a5:=Hp.pack (F:=fun (_:Unit)=>gsZ f (ys++[z]) (l++[c])) () a4;exact Hp.gsPack (a5.perm (.swap _ _ _)) (by rw[List.length_append,List.length_append,b];rfl)}
theorem zgs{lim bytes:Nat}{ti:TypeInfo}{g:Value}{z:ρ}{c:γ}{F:List Ob}(G:Hp B A w (obGS f e v l::F++L))(H:Sl A w u [z])(m:∀{A1:Nat→Prop} {w1:World} {h:List Ob},Hp B A1 w1 (F++h)→Hp B A1 w1 (f z c::h))(I:zE lim l [c]=some r)(J:P.underlying t=some (.slice e))(o:P.info? e=some ti)(K:ti.zero=some g)(i:ti.size=GoT.cells ρ)(p:ti.bytes=bytes)(q:g.cells.size=GoT.cells ρ)(s:GoT.cells ρ≠0)(j:lim*bytes≤140737488355328)(D:lim≤maxLen)(hB:B≤w.heap.size)(M:∀b,w.heap.size≤b→A b)(N:ev E x=some v)(O:ev E y=some u)(R:Nat.blt d n.sz=true)(S:∀a w1 A1,Hp B A1 w1 (obGS f e a r::L)→Tr Dw B A w A1 w1→V P n ops Q rest ((d,a)::E) w1):
  V P n ops Q (⟨some d,.call ⟨.builtin .append,#[x,y],#[t,t]⟩,ty,pos,af,none⟩::rest) E w:=by{exact zja G H m I J o K i p q s j D hB M N O R fun a w1 A1 T b _=>S a w1 A1 T b}
end
section
variable{B:Nat}{A:Nat→Prop}{w:World}{L:List Ob}{ρ γ:Type}[GoT ρ][GoT γ]{f:ρ→γ→Ob}{e:TypeId}{v:Value}{l r:List γ}{ys:List ρ}{c c':γ}{y:ρ}{ix:Int}
theorem Hp.gsBack(m:Hp B A w (f y c'::obS e v ys::obYX f ys l ix.toNat::L))(g:ys.length=l.length)(h:idx ys ix=some y)(i:idx l ix=some c)(a:setI l ix c'=some r):Hp B A w (obGS f e v r::L):=by{
 obtain⟨n,o,_⟩:=QE i;have j:ix.toNat<l.length:=by omega
 have b:r=l.set ix.toNat c':=by
  unfold setI at a
  split at a
  cases a;rfl
  cases a
 subst b;obtain⟨_,_,d⟩:=QE h;refine Hp.gsClose (k:=ix.toNat) (y:=y) ?_ g j;rw[zmg d];exact m.perm (.swap _ _ _)}
end
section
variable{B i mb:Nat}{A:Nat→Prop}{w:World}{L:List Ob}{κ α:Type}[Mk κ]
theorem Hp.fm[Cel α]{l:List (κ×α)}(c:Hp B A w L)(hi:L[i]?=some (obSM mb l)):Fm (fun _=>True) w mb l:=by{obtain⟨f,⟨rfl,a⟩,b,_⟩:=c.at hi;exact⟨trivial,(b mb (by simp)).2.1,a⟩}
theorem Hp.rm[GoT α]{l:List (κ×α)}(m:Hp B A w L)(hi:L[i]?=some (obRM mb l)):Rm (fun _=>True) w mb l:=by{obtain⟨f,⟨rfl,b,a,c,d,g,h⟩,j,_⟩:=m.at hi;exact⟨trivial,(j mb (by simp)).2.1,b,a,c,d,fun n e o p q=>(g n e o p q).keep (.sub fun _ _ _=>trivial),h⟩}
end
section
variable{B:Nat}{A:Nat→Prop}{w:World}{L:List Ob}
theorem Hp.frzD{α1 α3 ρ γ κ4 α4 κ5 α5:Type}[GoT α1][GoT α3][GoT ρ][GoT γ]{f:ρ→γ→Ob}[Beh f][Mk κ4][Cel α4][Mk κ5][GoT α5]{b D e2 E n o:Nat}{cs:List Value}{t:TypeId}{p q r:Value}{l1:List α1}{l2:List γ}{l3:List α3}{s:List (κ4×α4)}{u:List (κ5×α5)}(a0:Hp B A w (obC b cs t::obS D p l1::obGS f e2 q l2::obS E r l3::obSM n s::obRM o u::L))(F:∀b,w.heap.size≤b→A b):
  ∃A1:Nat→Prop,Tr Dw B A w A1 w∧Sl A1 w p l1∧Sl A1 w q l2∧Sl A1 w r l3∧Fm A1 w n s∧Rm A1 w o u∧(∀{α:Type} [GoT α] {x:α},GoT.rep A1 w cs x→El A1 w b 0 x)∧Hp B A1 w L:=by{obtain⟨A1,v,G,g1⟩:=Hp.freeze (Dw:=Dw) a0 (i:=1) rfl F;obtain⟨a5,t2,H,I⟩:=Hp.freezeGS (Dw:=Dw) g1 (i:=1) rfl v.new;obtain⟨a6,d,J,K⟩:=Hp.freeze (Dw:=Dw) I (i:=1) rfl t2.new;obtain⟨a7,a8,⟨rfl,M⟩,i,a4,a,N⟩:=Hp.frz (Dw:=Dw) K (i:=1) rfl d.new;obtain⟨a9,b0,⟨rfl,O,z,P,Q,R,S⟩,j,l,c,y⟩:=Hp.frz (Dw:=Dw) N (i:=1) rfl a.new;obtain⟨T,b1,b2,b3⟩:=y.cells (i:=0) rfl;obtain⟨U,b4,⟨rfl,b5⟩,m,h,g,W⟩:=Hp.frz (Dw:=Dw) y (i:=0) rfl c.new;refine⟨U,v.trans (t2.trans (d.trans (a.trans (c.trans g)))),((((G.tr t2).tr d).tr a).tr c).tr g,(((H.tr d).tr a).tr c).tr g,((J.tr a).tr c).tr g,⟨h _ (l _ (i _ (by simp)).1),(i _ (by simp)).2,M⟩,⟨h _ (j _ (by simp)).1,(j _ (by simp)).2,O,z,P,Q,fun a1 e a2 a3 b=>(R a1 e a2 a3 b).keep (.sub fun k _ X=>h _ (l _ X)),S⟩,fun Z=>⟨(m _ (by simp)).1,(m _ (by simp)).2,cs,Z,T⟩,W⟩}
end
section
variable{P:Program}{n:Fr}{ops:Array Oper}{Q:Exit→Act→World→Prop}{E:Env}{w:World}{rest:List Oper}{v u:Value}{d:Nat}
variable{ty t e e2:TypeId}{pos:String}{af:Array Edge}{x y:Operand}{A:Nat→Prop}{B i:Nat}{L:List Ob}{α:Type}[GoT α]{l r:List (List α)}
def fSS(e2:TypeId)(y:Sv)(x:List α):Ob:=obS e2 y.v x
instance{e2:TypeId}:Beh (fSS (α:=α) e2) where
 cells:=rfl
 rd h hp hs hb:=⟨_,h,OwP.sl hp hs hb⟩
theorem Hp.addNilSS(a:Hp B A w L):Hp B A w (obSS (α:=α) e e2 (.slice none 0 0) []::L):=Hp.addNilGS (f:=fSS e2) a
theorem Hp.freezeSS(c:Hp B A w L)(hi:L[i]?=some (obSS e e2 v l))(b:∀a,w.heap.size≤a→A a):∃A1:Nat→Prop,Tr Dw B A w A1 w∧Sl A1 w v l∧Hp B A1 w (L.eraseIdx i):=Hp.freezeGS (f:=fSS e2) c hi b
theorem zkz{lim bytes:Nat}{ti:TypeInfo}{b:Value}{z:Sv}{c:List α}(s:Hp B A w (obSS e e2 v l::obS e2 z.v c::L))(D:Sl A w u [z])(F:zE lim l [c]=some r)(G:P.underlying t=some (.slice e))(j:P.info? e=some ti)(H:ti.zero=some b)(h:ti.size=1)(m:ti.bytes=bytes)(o:b.cells.size=1)(p:(1:Nat)≠0)(i:lim*bytes≤140737488355328)(q:lim≤maxLen)(hB:B≤w.heap.size)(I:∀g,w.heap.size≤g→A g)(J:ev E x=some v)(K:ev E y=some u)(M:Nat.blt d n.sz=true)(a:∀f w1 A1,Hp B A1 w1 (obSS e e2 f r::L)→Tr Dw B A w A1 w1→V P n ops Q rest ((d,f)::E) w1):
  V P n ops Q (⟨some d,.call ⟨.builtin .append,#[x,y],#[t,t]⟩,ty,pos,af,none⟩::rest) E w :=
 zgs (f:=fSS e2) (F := [obS e2 z.v c]) s D (fun a=>a) F G j H h m o p i q hB I J K M a
end
end Go.Gw
