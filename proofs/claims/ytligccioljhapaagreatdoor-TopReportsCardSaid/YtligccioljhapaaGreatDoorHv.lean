import Derived.Test.YtligccioljhapaaGreatDoorGy
import Derived.Test.YtligccioljhapaaGreatDoorGx
namespace Go.Gw
open Go Go.RowKit Go.Pu
variable{Dw:Prop}
set_option linter.unusedSimpArgs false
set_option linter.unusedVariables false
set_option linter.unusedSectionVars false
section
variable{ρ γ:Type}[GoT ρ](f:ρ→γ→Ob)
def gsZ(ys:List ρ)(l:List γ):List Ob:=List.zipWith f ys l
def obY(ys:List ρ)(l:List γ):Ob:=obE (fun (_:Unit)=>gsZ f ys l)
def obYX(ys:List ρ)(l:List γ)(k:Nat):Ob:=obE (fun (_:Unit)=>(gsZ f ys l).eraseIdx k)
def gsL(e:TypeId)(v:Value)(l:List γ)(ys:List ρ):List Ob:=obQ (ys.length=l.length)::obS e v ys::gsZ f ys l
def obGS(e:TypeId)(v:Value)(l:List γ):Ob:=obE (gsL f e v l)
end
class Beh{ρ γ:Type}[GoT ρ][GoT γ](f:ρ→γ→Ob):Prop where
 cells:GoT.cells ρ=GoT.cells γ
 rd:∀{A A1:Nat→Prop} {w:World} {fb:List Nat} {cs:List Value} {y:ρ} {x:γ},GoT.rep A1 w cs y→(f y x).P fb A w→(∀k,A k→A1 k)→(∀b∈fb,A1 b)→GoT.rep A1 w cs x
theorem OwP.sl{α:Type}[GoT α]{e:TypeId}{A A1:Nat→Prop}{w:World}{v:Value}{l:List α}{f:List Nat}(q:OwP e A w v l f)(g:∀k,A k→A1 k)(h:∀r∈f,A1 r):Sl A1 w v l:=by{rcases q with ⟨rfl,rfl,_⟩|⟨c,d,s,i,rfl,rfl,b,j,m,t,n,o⟩;exact Sl.nil;refine .inr ⟨c,0,d,i,rfl,h c (by simp),(Array.getElem?_eq_some_iff.1 b).1,j,m,n.keep (.sub fun k _ p=>g k p),?_⟩;intro x u a;rw[← o]at a;rw[List.getElem?_take]at a;split at a;simp only[World.cell?,b,Nat.zero_add];simpa using a;cases a}
section
variable{B:Nat}{A A1:Nat→Prop}{w w1:World}{L M:List Ob}{i k:Nat}{ρ γ:Type}[GoT ρ][GoT γ]{f:ρ→γ→Ob}{e:TypeId}{v u:Value}{l r:List γ}{ys:List ρ}{c c':γ}{y y':ρ}{ix:Int}
theorem ziH(a:idx l ix=some c)(d:ys.length=l.length):∃y,idx ys ix=some y:=by{obtain⟨b,e,_⟩:=QE a;unfold idx;rw[if_pos b];exact⟨_,List.getElem?_eq_getElem (by omega)⟩}
theorem Hp.gsOpen(h:Hp B A w L)(hi:L[i]?=some (obGS f e v l)):∃ys:List ρ,ys.length=l.length∧Hp B A w (obS e v ys::obY f ys l::L.eraseIdx i):=by{
 obtain⟨ys,a⟩:=Hp.open (h.front hi)
 have b:ys.length=l.length:=by
  obtain⟨_,⟨_,c⟩,_⟩:=a.at (i:=0) rfl
  exact c
 refine⟨ys,b,?_⟩;have d:=a.drop (i:=0) rfl
 have g:Hp B A w (gsZ f ys l++(obS e v ys::L.eraseIdx i)):=by
  refine d.perm ?_
  show (obS e v ys::gsZ f ys l++L.eraseIdx i).Perm _
  exact List.perm_middle.symm
 exact (Hp.pack (F:=fun (_:Unit)=>gsZ f ys l) () g).perm (.swap _ _ _)}
theorem Hp.gsPack(d:Hp B A w (obS e v ys::obY f ys l::L))(a:ys.length=l.length):Hp B A w (obGS f e v l::L):=by{obtain⟨_,b⟩:=Hp.open (d.perm (.swap _ _ _));refine Hp.pack (F:=gsL f e v l) ys ?_;have c:Hp B A w (obS e v ys::gsZ f ys l++L):=b.perm List.perm_middle;exact c.free (O':=obQ (ys.length=l.length)) ⟨rfl,a⟩}
theorem zlE(a:l[k]?=some c)(b:ys[k]?=some y):(gsZ f ys l)[k]?=some (f y c):=by{unfold gsZ;rw[List.getElem?_zipWith,a,b]}
theorem Hp.gsTake(j:Hp B A w L)(hi:L[i]?=some (obY f ys l))(a:idx l ix=some c)(b:idx ys ix=some y):Hp B A w (f y c::L.set i (obYX f ys l ix.toNat)):=by{
 obtain⟨_,_,a⟩:=QE a;obtain⟨_,_,b⟩:=QE b;obtain⟨_,d⟩:=Hp.open (j.front hi);have e:=zlE (f:=f) a b
 have g:Hp B A w ((gsZ f ys l).eraseIdx ix.toNat++(f y c::L.eraseIdx i)):=by
  refine d.perm ?_
  refine List.Perm.trans (List.Perm.append_right _ (zcU e)) ?_
  exact List.perm_middle.symm
 have h:=Hp.pack (F:=fun (_:Unit)=>(gsZ f ys l).eraseIdx ix.toNat) () g;refine h.perm ?_;exact (List.Perm.swap _ _ _).trans ((zgF hi).cons _)}
theorem zmP(a:k<l.length)(b:ys.length=l.length):(gsZ f (ys.set k y) (l.set k c')).eraseIdx k=(gsZ f ys l).eraseIdx k:=by{unfold gsZ;apply List.ext_getElem?;intro c;simp only[List.getElem?_eraseIdx,List.getElem?_zipWith];split;rw[List.getElem?_set_ne (by omega),List.getElem?_set_ne (by omega)];rw[List.getElem?_set_ne (by omega),List.getElem?_set_ne (by omega)]}
theorem Hp.gsClose(j:Hp B A w (obS e v (ys.set k y)::f y c'::obYX f ys l k::L))(a:ys.length=l.length)(b:k<l.length):Hp B A w (obGS f e v (l.set k c')::L):=by{
 have c:Hp B A w (obYX f ys l k::f y c'::obS e v (ys.set k y)::L):=by
  refine j.perm ?_
  refine (List.Perm.swap _ _ _).trans ?_
  refine ((List.Perm.swap _ _ _).cons _).trans ?_
  exact .swap _ _ _
 obtain⟨_,d⟩:=Hp.open c;have g:=zlE (f:=f) (k:=k) (ys:=ys.set k y) (l:=l.set k c') (c:=c') (y:=y) (List.getElem?_set_self b) (List.getElem?_set_self (by omega))
 have h:Hp B A w (gsZ f (ys.set k y) (l.set k c')++(obS e v (ys.set k y)::L)):=by
  refine d.perm ?_
  rw[← zmP (c':=c') (y:=y) b a]
  refine List.perm_middle.trans ?_
  exact List.Perm.append_right _ (zcU g).symm
 have i:=Hp.pack (F:=fun (_:Unit)=>gsZ f (ys.set k y) (l.set k c')) () h;exact Hp.gsPack (i.perm (.swap _ _ _)) (by rw[List.length_set,List.length_set];exact a)}
theorem zmg{V:Type}{l:List V}{k:Nat}{x:V}(b:l[k]?=some x):l.set k x=l:=by{apply List.ext_getElem?;intro m;by_cases a:k=m;subst a;rw[List.getElem?_set_self (List.getElem?_eq_some_iff.1 b).1,b];rw[List.getElem?_set_ne a]}
theorem zkl[Beh f]{fs:List Ob}(e:∀k,A k→A1 k):∀{ys:List ρ} {l:List γ} {cs:List Value} {d:List Nat},repL A1 w cs ys→ys.length=l.length→Sp A w (gsZ f ys l) d→(∀a∈d,A1 a)→repL A1 w cs l
 | [], [],_,_,h,_,_,_=>h
 | y::ys,c::l,_,d,⟨c1,c2,he,h1,h2⟩,hl,hsp,hU=>by
  obtain⟨fb,g,rfl,hd,hp,hs2⟩:=hsp
  exact⟨c1,c2,he,Beh.rd (f:=f) h1 hp e fun a b=>hU a (List.mem_append_left _ b),zkl (fs:=fs) e h2 (by simpa using hl) hs2 fun a b=>hU a (List.mem_append_right _ b)⟩
theorem zmt[Beh f]{n:List Nat}(z:(obGS f e v l).P n A w)(i:∀k,A k→A1 k)(j:∀a∈n,A1 a):Sl A1 w v l:=by{obtain⟨ys,D,g1,rfl,_,⟨rfl,c⟩,q,r,rfl,_,hp,s⟩:=z;have o:∀a∈q,A1 a:=fun a d=>j a (by simp[d]);have p:∀a∈r,A1 a:=fun a d=>j a (by simp[d]);rcases OwP.sl hp i o with ⟨B,b,rfl,g,h,m⟩|⟨a,off,b,t,rfl,g,h,m,u,x,y⟩;refine .inl ⟨B,b,rfl,?_,h,m⟩;subst g;exact List.length_eq_zero_iff.1 (by simpa using c.symm);exact .inr ⟨a,off,b,t,by rw[c],g,h,by omega,u,zkl (fs := []) (f:=f) i x c s p,y⟩}
theorem Hp.anyGS[Beh f](a:Hp B A w L)(hi:L[i]?=some (obGS f e v l)):Sl (fun _=>True) w v l:=by{obtain⟨_,hp,_⟩:=a.at hi;exact zmt hp (fun _ _=>trivial) fun _ _=>trivial}
theorem Hp.freezeGS[Beh f](m:Hp B A w L)(hi:L[i]?=some (obGS f e v l))(b:∀a,w.heap.size≤a→A a):∃A1:Nat→Prop,Tr Dw B A w A1 w∧Sl A1 w v l∧Hp B A1 w (L.eraseIdx i):=by{obtain⟨A1,n,hp,c,d,g,h⟩:=m.frz hi b;exact⟨A1,g,zmt hp d fun a j=>(c a j).1,h⟩}
theorem Hp.addNilGS(b:Hp B A w L):Hp B A w (obGS f e (.slice none 0 0) ([]:List γ)::L):=by{have a:=Hp.pack (F:=fun (_:Unit)=>gsZ f [] []) () (L:=obS (α:=ρ) e (.slice none 0 0) []::L) b.addNil;exact Hp.gsPack (a.perm (.swap _ _ _)) rfl}
theorem El.sl_at{b off:Nat}{x:γ}(o:Sl (fun _=>True) w v l)(j:idx l ix=some x)(g:Loc v b off ix (GoT.cells γ)):El (fun _=>True) w b off x:=by{obtain⟨z,A,a⟩:=QE j;obtain⟨⟨len,p,rfl⟩,rfl⟩:=g;rcases o with ⟨F,c,d,e,_⟩|⟨B,q,r,u,d,y,h,s,t,f,i⟩;rw[e]at a;simp at a;simp only[Value.slice.injEq,Option.some.injEq,Addr.mk.injEq,and_true]at d;obtain⟨⟨rfl,rfl⟩,_,_⟩:=d;obtain⟨D,m,E,rfl,e,n⟩:=f.at a;refine⟨trivial,h,m,n,?_⟩;rw[← e];simpa using i.right.left}
end
section steps
variable{P:Program}{n:Fr}{ops:Array Oper}{Q:Exit→Act→World→Prop}{E:Env}{w:World}{rest:List Oper}{v u:Value}{d:Nat}{W:World→Prop}{QA:Act→Prop}
variable{ty t e:TypeId}{pos:String}{af:Array Edge}{x y z:Operand}{A:Nat→Prop}{B:Nat}{L:List Ob}{i:Nat}{ρ γ:Type}[GoT ρ][GoT γ]{f:ρ→γ→Ob}{l m r:List γ}
theorem zfk[Beh f]{k:IntKind}{ix:Int}{el:γ}(g:Hp B A w L)(hi:L[i]?=some (obGS f e v l))(b:idx l ix=some el)(m:P.underlying t=some (.slice e))(j:∀w,(Go.sizeOf e).run P w=.ok (GoT.cells ρ) w)(o:ev E x=some v)(p:ev E y=some (.int k ix))(q:Nat.blt d n.sz=true)(u:∀a off,El (fun _=>True) w a off el→Loc v a off ix (GoT.cells γ)→V P n ops Q rest ((d,.pointer (some ⟨a,off,none⟩))::E) w):
  V P n ops Q (⟨some d,.indexAddr t x y,ty,pos,af,none⟩::rest) E w:=by{obtain⟨ys,r,s⟩:=g.gsOpen hi;obtain⟨D,hp⟩:=ziH b r;have h:=Beh.cells (f:=f);exact ZK (α:=ρ) s (i:=0) rfl hp m j o p q fun a off z c=>u a off (El.sl_at (g.anyGS hi) b (h▸c)) (h▸c)}
theorem zcy[Beh f]{k:IntKind}{ix:Int}{el:γ}(g:Hp B A w L)(hi:L[i]?=some (obGS f e v l))(b:idx l ix=some el)(m:P.underlying t=some (.slice e))(j:∀w,(Go.sizeOf e).run P w=.ok (GoT.cells ρ) w)(o:ev E x=some v)(p:ev E y=some (.int k ix))(q:Nat.blt d n.sz=true)(u:∀a off,El (fun _=>True) w a off el→Loc v a off ix (GoT.cells γ)→VQ P n ops W QA rest ((d,.pointer (some ⟨a,off,none⟩))::E)):
  VQ P n ops W QA (⟨some d,.indexAddr t x y,ty,pos,af,none⟩::rest) E:=by{obtain⟨ys,r,s⟩:=g.gsOpen hi;obtain⟨D,hp⟩:=ziH b r;have h:=Beh.cells (f:=f);exact Qw (α:=ρ) s (i:=0) rfl hp m j o p q fun a off z c=>u a off (El.sl_at (g.anyGS hi) b (h▸c)) (h▸c)}
def bare(f:ρ→γ→Ob)(ys:List ρ)(m:List γ):Prop:=ys.length=m.length∧∀(A:Nat→Prop) (w:World) (y:ρ) (x:γ),(y,x)∈ys.zip m→(f y x).P [] A w
theorem zah{ix:Int}{b off sz foff:Nat}{ys:List ρ}{yv yv':ρ}{H c:γ}{nv:Value}{F:List Ob}(I:Hp B A w (obS e v ys::F++(obYX f ys l ix.toNat::L)))(J:ys.length=l.length)(i:Loc v b off ix (GoT.cells ρ))(p:idx l ix=some H)(q:idx ys ix=some yv)(a:setI l ix c=some r)(j:∀d,GoT.rep A w d yv→GoT.rep A w (d.take foff++nv.cells.toList++d.drop (foff+sz)) yv')(K:∀w,(Go.sizeOf t).run P w=.ok sz w)(s:nv.cells.size=sz)(m:∀u∈nv.cells.toList,u.oneCell'=true)(o:foff+sz≤GoT.cells ρ)(hB:B≤w.heap.size)(M:∀b,w.heap.size≤b→A b)(z:∀{A1:Nat→Prop} {w1:World} {h:List Ob},Hp B A1 w1 (F++h)→Hp B A1 w1 (f yv' c::h))(N:ev E x=some (.pointer (some ⟨b,off+foff,none⟩)))(O:ev E y=some nv)(U:∀w1,Hp B A w1 (obGS f e v r::L)→Tr Dw B A w A w1→V P n ops Q rest E w1):V P n ops Q (⟨none,.store t x y,ty,pos,af,none⟩::rest) E w:=by{
 obtain⟨W,X,_⟩:=QE p;have R:ix.toNat<l.length:=by omega
 have D:r=l.set ix.toNat c:=by
  unfold setI at a
  split at a
  cases a;rfl
  cases a
 subst D;refine zaN (α:=ρ) (x':=yv') (r:=ys.set ix.toNat yv') (foff:=foff) I (i:=0) rfl i q (by unfold setI;rw[if_pos (by omega)]) j K s m o hB M N O fun w1 g G=>U w1 ?_ G;replace g:Hp B A w1 (obS e v (ys.set ix.toNat yv')::F++(obYX f ys l ix.toNat::L)):=g;have S:Hp B A w1 (F++(obS e v (ys.set ix.toNat yv')::obYX f ys l ix.toNat::L)):=g.perm List.perm_middle.symm;have T:=(z S).perm (.swap _ _ _);exact Hp.gsClose T J R}
end steps
section
variable{B:Nat}{A A1:Nat→Prop}{w w1:World}{L M:List Ob}{i k N:Nat}{ρ γ:Type}[GoT ρ][GoT γ]{f fr:ρ→γ→Ob}{e:TypeId}{v u:Value}{l m r:List γ}{ys zs:List ρ}{c c':γ}{y y':ρ}{ix:Int}
theorem Hp.gsAt{foff b off:Nat}{p:ρ→Sv}{sv:Value}(q:Hp B A w L)(hi:L[i]?=some (obGS f e v l))(d:idx l ix=some c)(m:Loc v b off ix (GoT.cells ρ))(hp:∀{A:Nat→Prop} {w:World} {b off:Nat} {y:ρ},El A w b off y→El A w b (off+foff) (p y))(g:w.cell? ⟨b,off+foff,none⟩=some sv):
  ∃ys:List ρ,∃y,ys.length=l.length∧idx ys ix=some y∧(p y).v=sv∧Hp B A w (obS e v ys::f y c::obYX f ys l ix.toNat::L.eraseIdx i):=by{obtain⟨ys,h,j⟩:=q.gsOpen hi;obtain⟨y,a⟩:=ziH d h;have n:=j.gsTake (i:=1) rfl d a;refine⟨ys,y,h,a,?_,n.perm (.swap _ _ _)⟩;have o:=(hp (El.sl_at (j.any (i:=0) rfl) a m)).sv;rw[o]at g;exact Option.some.inj g}
theorem Hp.gsGet(h:Hp B A w L)(hi:L[i]?=some (obGS f e v l))(a:idx l ix=some c):∃ys:List ρ,∃y,ys.length=l.length∧idx ys ix=some y∧Hp B A w (obS e v ys::f y c::obYX f ys l ix.toNat::L.eraseIdx i):=by{obtain⟨ys,b,g⟩:=h.gsOpen hi;obtain⟨y,d⟩:=ziH a b;exact⟨ys,y,b,d,(g.gsTake (i:=1) rfl a d).perm (.swap _ _ _)⟩}
theorem Hp.elGS{b off:Nat}[Beh f](g:Hp B A w L)(hi:L[i]?=some (obGS f e v l))(d:idx l ix=some c)(a:Loc v b off ix (GoT.cells γ)):El (fun _=>True) w b off c:=El.sl_at (g.anyGS hi) d a
theorem zku{b off:Nat}{u:Value}(a:w.cell? ⟨b,off,none⟩=some u)(c:Kp Dw w w1):w1.cell? ⟨b,off,none⟩=some u:=(World.cell?_of_block (c.block _ (World.block_lt_of_cell? _ _ a))).trans a
structure Fgd(γ:Type)where
 x:γ
 own:Bool
instance:GoT (Fgd γ):=GoT.of (β:=γ) (·.x)
def fO(f fr:ρ→γ→Ob)(y:ρ)(c:Fgd γ):Ob:=bif c.own then f y c.x else fr y c.x
instance[Beh f][Beh fr]:Beh (fO f fr) where
 cells:=show GoT.cells ρ=GoT.cells γ from Beh.cells (f:=f)
 rd {A A1 w fb cs y x} hr hp hs hb:=by
  obtain⟨x,b⟩:=x
  cases b
  ·exact Beh.rd (f:=fr) hr hp hs hb
  ·exact Beh.rd (f:=f) hr hp hs hb
def flag(k:Nat):Nat→List γ→List (Fgd γ)
 | _, []=>[]
 | j,x::l=>⟨x,decide (j<k)⟩::flag k (j+1) l
def obGU(f fr:ρ→γ→Ob)(e:TypeId)(v:Value)(l:List γ)(k N:Nat):Ob:=obE (fun (_:Unit)=>[obQ (l.length=N),obGS (fO f fr) e v (flag k 0 l)])
class MkR{ρ γ:Type}[GoT ρ][GoT γ](fr:ρ→γ→Ob):Prop where
 ex:∀{A:Nat→Prop} {w:World} {cs:List Value} {x:γ},GoT.rep A w cs x→∃y:ρ,GoT.rep A w cs y∧(fr y x).P [] A w
theorem zkr(fr:ρ→γ→Ob)[MkR fr]:∀{l:List γ} {cs:List Value},repL A w cs l→∃ys:List ρ,repL A w cs ys∧ys.length=l.length∧∀y x,(y,x)∈ys.zip l→(fr y x).P [] A w
 | [],_,a=>⟨[],a,rfl,fun _ _ a=>by cases a⟩
 | x::l,_,⟨c1,c2,he,h1,h2⟩=>by
  obtain⟨y,h3,h4⟩:=MkR.ex (fr:=fr) h1
  obtain⟨ys,b,c,d⟩:=zkr fr h2
  refine⟨y::ys,⟨c1,c2,he,h3,b⟩,by simp[c],fun y' e a=>?_⟩
  rcases List.mem_cons.1 a with a|a
  ·cases a;exact h4
  ·exact d _ _ a
theorem OwP.raw[MkR fr](c:GoT.cells ρ=GoT.cells γ){d:List Nat}(b:OwP e A w v l d):∃ys:List ρ,OwP e A w v ys d∧ys.length=l.length∧∀y x,(y,x)∈ys.zip l→(fr y x).P [] A w:=by{rcases b with ⟨rfl,rfl,rfl⟩|⟨s,f,g,h,rfl,rfl,i,j,m,n,o,p⟩;exact⟨[],.inl ⟨rfl,rfl,rfl⟩,rfl,fun _ _ b=>by cases b⟩;obtain⟨ys,q,a,r⟩:=zkr fr o;exact⟨ys,.inr ⟨s,f,g,h,by rw[a],rfl,i,by rw[a];exact j,m,by rw[c];exact n,q,by rw[a,c];exact p⟩,a,r⟩}
end
section steps
variable{P:Program}{n:Fr}{ops:Array Oper}{Q:Exit→Act→World→Prop}{E:Env}{w:World}{rest:List Oper}{v u:Value}{d:Nat}{W:World→Prop}{QA:Act→Prop}
variable{ty t e e2:TypeId}{pos:String}{af:Array Edge}{x y z:Operand}{A:Nat→Prop}{B:Nat}{L:List Ob}{i k N:Nat}{ρ γ δ:Type}[GoT ρ][GoT γ][GoT δ]{f fr:ρ→γ→Ob}{l m r:List γ}
end steps
end Go.Gw
