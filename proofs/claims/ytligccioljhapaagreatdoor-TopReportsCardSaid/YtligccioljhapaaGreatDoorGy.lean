import Derived.Test.YtligccioljhapaaGreatDoorGt
namespace Go.Gw
open Go Go.RowKit Go.Pu
variable{Dw:Prop}
set_option linter.unusedSimpArgs false
set_option linter.unusedVariables false
set_option linter.unusedSectionVars false
structure Sv where
 v:Value
 one:v.oneCell'=true
instance:GoT Sv where
 cells:=1
 wf _:=True
 rep _ _ cs x:=cs=[x.v]
 len h:=by subst h;rfl
 one {_ _ _ x} h u hu:=by subst h;simp at hu;subst hu;exact x.one
 keep h _:=h
section
variable{α:Type}[GoT α]
def ssZ(e2:TypeId)(vs:List Sv)(l:List (List α)):List Ob:=List.zipWith (fun p c=>obS e2 p.v c) vs l
def obZ(e2:TypeId)(vs:List Sv)(l:List (List α)):Ob:=obE (fun (_:Unit)=>ssZ e2 vs l)
def obZX(e2:TypeId)(vs:List Sv)(l:List (List α))(k:Nat):Ob:=obE (fun (_:Unit)=>(ssZ e2 vs l).eraseIdx k)
def ssL(e e2:TypeId)(v:Value)(l:List (List α))(vs:List Sv):List Ob:=obQ (vs.length=l.length)::obS e v vs::ssZ e2 vs l
def obSS(e e2:TypeId)(v:Value)(l:List (List α)):Ob:=obE (ssL e e2 v l)
end
section
variable{B:Nat}{A A1:Nat→Prop}{w w1:World}{L M:List Ob}{i k:Nat}{α:Type}[GoT α]{e e2:TypeId}{v u:Value}{l:List (List α)}{vs:List Sv}{c c':List α}{y:Sv}{ix:Int}
theorem znu(a:idx l ix=some c)(d:vs.length=l.length):∃y,idx vs ix=some y:=by{obtain⟨b,e,_⟩:=QE a;unfold idx;rw[if_pos b];exact⟨_,List.getElem?_eq_getElem (by omega)⟩}
theorem Hp.ssOpen(g:Hp B A w L)(hi:L[i]?=some (obSS e e2 v l)):∃vs,vs.length=l.length∧Hp B A w (obS e v vs::obZ e2 vs l::L.eraseIdx i):=by{
 obtain⟨vs,a⟩:=Hp.open (g.front hi)
 have b:vs.length=l.length:=by
  obtain⟨_,⟨_,c⟩,_⟩:=a.at (i:=0) rfl
  exact c
 refine⟨vs,b,?_⟩;have d:=a.drop (i:=0) rfl
 have f:Hp B A w (ssZ e2 vs l++(obS e v vs::L.eraseIdx i)):=by
  refine d.perm ?_
  show (obS e v vs::ssZ e2 vs l++L.eraseIdx i).Perm _
  exact List.perm_middle.symm
 exact (Hp.pack (F:=fun (_:Unit)=>ssZ e2 vs l) () f).perm (.swap _ _ _)}
theorem Hp.ssPack(d:Hp B A w (obS e v vs::obZ e2 vs l::L))(a:vs.length=l.length):Hp B A w (obSS e e2 v l::L):=by{obtain⟨_,b⟩:=Hp.open (d.perm (.swap _ _ _));refine Hp.pack (F:=ssL e e2 v l) vs ?_;have c:Hp B A w (obS e v vs::ssZ e2 vs l++L):=b.perm List.perm_middle;exact c.free (O':=obQ (vs.length=l.length)) ⟨rfl,a⟩}
theorem zlM(a:l[k]?=some c)(b:vs[k]?=some y):(ssZ e2 vs l)[k]?=some (obS e2 y.v c):=by{unfold ssZ;rw[List.getElem?_zipWith,a,b]}
theorem Hp.zTake(h:Hp B A w L)(hi:L[i]?=some (obZ e2 vs l))(a:idx l ix=some c)(b:idx vs ix=some y):Hp B A w (obS e2 y.v c::L.set i (obZX e2 vs l ix.toNat)):=by{
 obtain⟨_,_,a⟩:=QE a;obtain⟨_,_,b⟩:=QE b;obtain⟨_,d⟩:=Hp.open (h.front hi);have e:=zlM (e2:=e2) a b
 have f:Hp B A w ((ssZ e2 vs l).eraseIdx ix.toNat++(obS e2 y.v c::L.eraseIdx i)):=by
  refine d.perm ?_
  refine List.Perm.trans (List.Perm.append_right _ (zcU e)) ?_
  exact List.perm_middle.symm
 have g:=Hp.pack (F:=fun (_:Unit)=>(ssZ e2 vs l).eraseIdx ix.toNat) () f;refine g.perm ?_;exact (List.Perm.swap _ _ _).trans ((zgF hi).cons _)}
theorem zmK(a:k<l.length)(b:vs.length=l.length):(ssZ e2 (vs.set k y) (l.set k c')).eraseIdx k=(ssZ e2 vs l).eraseIdx k:=by{unfold ssZ;apply List.ext_getElem?;intro c;simp only[List.getElem?_eraseIdx,List.getElem?_zipWith];split;rw[List.getElem?_set_ne (by omega),List.getElem?_set_ne (by omega)];rw[List.getElem?_set_ne (by omega),List.getElem?_set_ne (by omega)]}
theorem Hp.ssClose(i:Hp B A w (obS e v (vs.set k y)::obS e2 y.v c'::obZX e2 vs l k::L))(a:vs.length=l.length)(b:k<l.length):Hp B A w (obSS e e2 v (l.set k c')::L):=by{
 have c:Hp B A w (obZX e2 vs l k::obS e2 y.v c'::obS e v (vs.set k y)::L):=by
  refine i.perm ?_
  refine (List.Perm.swap _ _ _).trans ?_
  refine ((List.Perm.swap _ _ _).cons _).trans ?_
  exact .swap _ _ _
 obtain⟨_,d⟩:=Hp.open c;have f:=zlM (e2:=e2) (k:=k) (vs:=vs.set k y) (l:=l.set k c') (c:=c') (y:=y) (List.getElem?_set_self b) (List.getElem?_set_self (by omega))
 have g:Hp B A w (ssZ e2 (vs.set k y) (l.set k c')++(obS e v (vs.set k y)::L)):=by
  refine d.perm ?_
  rw[← zmK (c':=c') (y:=y) b a]
  refine List.perm_middle.trans ?_
  exact List.Perm.append_right _ (zcU f).symm
 have h:=Hp.pack (F:=fun (_:Unit)=>ssZ e2 (vs.set k y) (l.set k c')) () g;exact Hp.ssPack (h.perm (.swap _ _ _)) (by rw[List.length_set,List.length_set];exact a)}
theorem Hp.ssBackW{j:Nat}{r:List (List α)}(u:Hp B A w L)(g:L[i]?=some (obZX e2 vs l ix.toNat))(h:(L.eraseIdx i)[j]?=some (obS e2 y.v c'))(m:((L.eraseIdx i).eraseIdx j)[k]?=some (obS e v vs))(d:idx l ix=some c)(a:idx vs ix=some y)(n:vs.length=l.length)(b:setI l ix c'=some r):
  Hp B A w (obSS e e2 v r::((L.eraseIdx i).eraseIdx j).eraseIdx k):=by{
 obtain⟨_,z,d⟩:=QE d;obtain⟨_,_,a⟩:=QE a;have o:=u.front g;have p:Hp B A w (obS e2 y.v c'::obZX e2 vs l ix.toNat::(L.eraseIdx i).eraseIdx j):=o.front (i:=j+1) h;have q:Hp B A w (obS e v vs::obS e2 y.v c'::obZX e2 vs l ix.toNat::((L.eraseIdx i).eraseIdx j).eraseIdx k):=p.front (i:=k+2) m
 have s:vs.set ix.toNat y=vs:=by
  apply List.ext_getElem?
  intro x
  by_cases f:ix.toNat=x
  subst f;rw[List.getElem?_set_self (List.getElem?_eq_some_iff.1 a).1,a]
  rw[List.getElem?_set_ne f]
 have t:=Hp.ssClose (k:=ix.toNat) (c':=c') (vs:=vs) (l:=l) (e:=e) (v:=v) (y:=y) (by rw[s];exact q) n (List.getElem?_eq_some_iff.1 d).1;unfold setI at b;split at b;cases b;exact t;cases b}
theorem zke:∀{vs:List Sv} {l:List (List α)} {cs:List Value},repL (fun _=>True) w cs vs→vs.length=l.length→(∀(k:Nat) (p:Sv) (c:List α),vs[k]?=some p→l[k]?=some c→Sl (fun _=>True) w p.v c)→repL (fun _=>True) w cs l
 | [], [],_,h,_,_=>h
 | p::vs,c::l,_,⟨c1,c2,he,h1,h2⟩,hl,hs =>
  ⟨c1,c2,he,⟨p.v,h1,hs 0 p c rfl rfl⟩,zke h2 (by simpa using hl) fun k p' c' h3 h4=>hs (k+1) p' c' h3 h4⟩
theorem Hp.ssEach(g:Hp B A w L)(hi:L[i]?=some (obSS e e2 v l)):∃vs,vs.length=l.length∧Hp B A w (obS e v vs::obZ e2 vs l::L.eraseIdx i)∧∀(k:Nat) (p:Sv) (c:List α),vs[k]?=some p→l[k]?=some c→Sl (fun _=>True) w p.v c:=by{obtain⟨vs,b,a⟩:=g.ssOpen hi;refine⟨vs,b,a,fun k p c hp d=>?_⟩;have f:=a.zTake (i:=1) rfl (ix:=(k:Int)) (c:=c) (y:=p) (by unfold idx;rw[if_pos (by omega)];simpa using d) (by unfold idx;rw[if_pos (by omega)];simpa using hp);exact f.any (i:=0) rfl}
theorem Hp.anySS(p:Hp B A w L)(hi:L[i]?=some (obSS e e2 v l)):Sl (fun _=>True) w v l:=by{obtain⟨vs,b,g,h⟩:=p.ssEach hi;rcases g.any (i:=0) rfl with ⟨q,a,rfl,c,d,f⟩|⟨r,off,a,j,rfl,c,d,f,m,n,o⟩;refine .inl ⟨q,a,rfl,?_,d,f⟩;subst c;exact List.length_eq_zero_iff.1 (by simpa using b.symm);exact .inr ⟨r,off,a,j,by rw[b],c,d,by omega,m,zke n b h,o⟩}
end
section steps
variable{P:Program}{n:Fr}{ops:Array Oper}{Q:Exit→Act→World→Prop}{E:Env}{w:World}{rest:List Oper}{v u:Value}{d:Nat}{W:World→Prop}{QA:Act→Prop}
variable{ty t e e2:TypeId}{pos:String}{af:Array Edge}{x y z:Operand}{A:Nat→Prop}{B:Nat}{L:List Ob}{i:Nat}{α:Type}[GoT α]{l:List (List α)}{c:List α}
theorem El.ss{b off:Nat}{p:Sv}(i:El (fun _=>True) w b off p)(a:Sl (fun _=>True) w p.v c):El (fun _=>True) w b off c:=by{obtain⟨d,e,f,g,h⟩:=i;have:f=[p.v]:=g;subst this;exact⟨d,e,_,⟨_,rfl,a⟩,h⟩}
theorem El.sv{A:Nat→Prop}{b off:Nat}{p:Sv}(a:El A w b off p):w.cell? ⟨b,off,none⟩=some p.v:=a.cell fun _ a=>a
end steps
end Go.Gw
