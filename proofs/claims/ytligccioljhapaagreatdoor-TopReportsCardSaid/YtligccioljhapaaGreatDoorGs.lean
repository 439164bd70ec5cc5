import Derived.Test.YtligccioljhapaaGreatDoorGr
namespace Go.Gw
open Go Go.RowKit Go.Pu
variable{Dw:Prop}
set_option linter.unusedSimpArgs false
set_option linter.unusedVariables false
def Vb(A:Nat→Prop)(w:World)(b:Nat)(v:Value):Prop:=A b∧b<w.heap.size∧w.cell? ⟨b,0,none⟩=some v
theorem Vb.tr{B:Nat}{A c:Nat→Prop}{w d:World}{b:Nat}{v:Value}(a:Vb A w b v)(m:Tr Dw B A w c d):Vb c d b v :=
 ⟨(m.ex.block b a.2.1 a.1).1,Nat.lt_of_lt_of_le a.2.1 m.ex.size,by rw[World.cell?_of_block (a:=⟨b,0,none⟩) (m.ex.block b a.2.1 a.1).2];exact a.2.2⟩
theorem Vb.kp{A:Nat→Prop}{w c:World}{b:Nat}{v:Value}(a:Vb A w b v)(m:Kp Dw w c):Vb A c b v :=
 ⟨a.1,Nat.lt_of_lt_of_le a.2.1 m.size,by rw[World.cell?_of_block (a:=⟨b,0,none⟩) (m.block b a.2.1)];exact a.2.2⟩
section steps
variable{P:Program}{n:Fr}{E:Env}{w:World}{v:Value}{ρd:Option Nat}{ty t e:TypeId}{pos:String}{af:Array Edge}{g:Option (Nat×Bool)}{x y z:Operand}{A:Nat→Prop}
theorem zhb{a:Addr}(b:ev E x=some (.pointer (some a))):Y P n E ⟨ρd,.nilCheck x,ty,pos,af,g⟩ w (.pointer (some a)) w:=fun a c=>by
 simp only[execOp,c.eval b]
 simp
theorem zjs{b off a i:Nat}{fs:Array Field}{f:Field}{sz:Nat}(c:P.underlying t=some (.struct fs))(d:fs[i]?=some f)(e:∀w,(Go.sizeOf f.type).run P w=.ok sz w)(h:sz≠0)(j:ev E x=some (.pointer (some ⟨b,off,none⟩)))(l:off+f.offset=a):Y P n E ⟨ρd,.fieldAddr t x i,ty,pos,af,g⟩ w (.pointer (some ⟨b,a,none⟩)) w:=by{subst l;exact zex c d e h j}
end steps
theorem El.out{α:Type}[GoT α]{a A:Nat→Prop}{w0 w:World}{b off:Nat}{x:α}(e:El A w b off x)(c:∀b,w0.heap.size≤b→a b)(t:Tr Dw w0.heap.size a w0 A w):El a w b off x :=
 e.keep (.sub fun k _ d=>(t.sub k d).elim id (c k))
class Flat(α:Type)[GoT α]:Prop where
 flat:∀{A w A' w' cs} {x:α},GoT.rep A w cs x→GoT.rep A' w' cs x
instance:Flat Int:=⟨fun h=>h⟩
instance:Flat Bool:=⟨fun h=>h⟩
instance:Flat ByteArray:=⟨fun h=>h⟩
instance:Flat UInt8:=⟨fun h=>h⟩
instance:Flat UInt32:=⟨fun h=>h⟩
instance{α β:Type}[GoT α][GoT β][Flat α][Flat β]:Flat (α×β):=⟨fun h=>by
 obtain⟨c1,c2,rfl,h1,h2⟩:=h
 exact⟨c1,c2,rfl,Flat.flat h1,Flat.flat h2⟩⟩
theorem repL.flat{α:Type}[GoT α][Flat α]{A A':Nat→Prop}{w w':World}{cs:List Value}{l:List α}(a:repL A w cs l):repL A' w' cs l:=by{
 induction l generalizing cs with
 | nil=>exact a
 | cons x r ih =>
  rw[repL]at a⊢
  obtain⟨b,c,rfl,d,e⟩:=a
  exact⟨b,c,rfl,Flat.flat d,ih e⟩}
def Ownd{α:Type}[GoT α](e:TypeId)(w w':World)(v:Value)(l:List α):Prop:=∃f,OwP e (fun _=>True) w' v l f∧∀b∈f,w.heap.size≤b
section
variable{α:Type}[GoT α][Flat α]{e:TypeId}{B i:Nat}{A:Nat→Prop}{w w':World}{v:Value}{l:List α}{L:List Ob}
theorem OwP.flat{A':Nat→Prop}{f:List Nat}(a:OwP e A w v l f):OwP e A' w v l f:=by{rcases a with a|⟨g,b,c,d,rfl,rfl,h,i,j,m,n,o⟩;exact .inl a;exact .inr ⟨g,b,c,d,rfl,rfl,h,i,j,m,n.flat,o⟩}
theorem Hp.ownd(c:Hp w.heap.size A w' L)(hi:L[i]?=some (obS e v l):=by exact rfl):Ownd e w w' v l:=by{obtain⟨d,hp,b,_⟩:=c.at hi;exact⟨d,OwP.flat hp,fun f a=>(b f a).1⟩}
theorem Hp.addOwnd(a:Hp B A w L)(hB:B≤w.heap.size)(m:∀b,w.heap.size≤b→A b)(c:Kp Dw w w')(n:Ownd e w w' v l):∃h:Nat→Prop,Tr Dw B A w h w'∧Hp B h w' (obS e v l::L):=by{
 obtain⟨f,hp,i⟩:=n;have j:=(obS e v l).lt (f:=f) (A:=fun _=>True) hp
 have mv:Mv Dw B A w (fun b=>A b∧b∉f) w' none :=
  ⟨c.os,c.tape,c.output,c.size,c.dr,fun k g _=>c.block k g,(fun k a=>by cases a),fun k a=>a.1,fun k g o=>⟨o,fun a=>by have:=i k a;omega⟩,fun b d=>⟨m b (Nat.le_trans c.size d),fun a=>by have:=j b a;omega⟩⟩
 exact⟨_,mv.tr hB,a.new (f':=f) mv hB (OwP.flat hp) fun b d=>⟨i b d,fun a=>a.2 d⟩⟩}
end
theorem Ownd.any{α:Type}[GoT α]{e:TypeId}{w w':World}{v:Value}{l:List α}(m:Ownd e w w' v l):Sl (fun _=>True) w' v l:=by{obtain⟨q,hp,o⟩:=m;rcases hp with ⟨rfl,rfl,_⟩|⟨g,c,n,d,rfl,rfl,b,f,h,p,i,j⟩;exact Sl.nil;refine .inr ⟨g,0,c,d,rfl,trivial,(Array.getElem?_eq_some_iff.1 b).1,f,h,i,?_⟩;intro r s a;rw[← j,List.getElem?_take]at a;split at a;simp only[World.cell?,b,Nat.zero_add];simpa using a;cases a}
def obT:Ob:=obF (fun _ _=>True) (fun _ _=>trivial)
theorem js{P:Program}{w:World}{b off:Nat}{cs:List Value}{t:TypeId}(a:At w b off cs)(c:∀w,(isAgg t).run P w=.ok true w)(d:∀w,(Go.sizeOf t).run P w=.ok cs.length w):(loadVar t ⟨b,off,none⟩).run P w=.ok (.agg cs.toArray) w:=by{have:=zds (P:=P) (w:=w) cs b off 0 #[] (fun f g e=>by rw[Nat.zero_add];exact a f g e);simp[loadVar,c,d,loadCells,this]}
def rvar(tmps:Array Value)(r:ResultVar):Sem Value:=match r with|.tmp t=>pure (tmps.getD t undef)|.cell a t=>do loadVar t (← asAddr (tmps.getD a undef))
theorem zec(fn:Func)(a:Array Value):results fn a=(do
  let vs ← fn.results.mapM (rvar a)
  pure (if b:vs.size=1 then vs[0] else .tuple vs)):=by{unfold results;congr 1}
def RL(P:Program)(E:Env)(n:Fr)(w:World)(r:ResultVar)(v:Value):Prop:=∀a,Has n a E→(rvar a.tmps r).run P w=.ok v w
theorem RL.tmp{P:Program}{E:Env}{n:Fr}{w:World}{t:Nat}{v:Value}(b:E.get t=some v):RL P E n w (.tmp t) v:=fun c a=>by simp only[rvar,a.getD b];rfl
theorem RL.cell{P:Program}{E:Env}{n:Fr}{w:World}{c b off:Nat}{t:TypeId}{v:Value}(e:E.get c=some (.pointer (some ⟨b,off,none⟩)))(a:(loadVar t ⟨b,off,none⟩).run P w=.ok v w):RL P E n w (.cell c t) v:=fun f d=>by
 simp only[rvar,d.getD e]
 simp[asAddr,a]
section
variable{P:Program}{n:Fr}{fn:Func}{E:Env}{w:World}{v x y:Value}{r1 r2 r3:ResultVar}
theorem Res.l1(a:fn.results=#[r1])(b:RL P E n w r1 v):Res P fn E n w v:=fun d e=>by
 have c:=b d e
 rw[zec,a]
 simp[c]
theorem Res.l2(c:fn.results=#[r1,r2])(d:RL P E n w r1 v)(e:RL P E n w r2 x):Res P fn E n w (.tuple #[v,x]):=fun a b=>by
 have f:=d a b
 have g:=e a b
 rw[zec,c]
 simp[f,g]
theorem Res.l3(c:fn.results=#[r1,r2,r3])(d:RL P E n w r1 v)(e:RL P E n w r2 x)(f:RL P E n w r3 y):Res P fn E n w (.tuple #[v,x,y]):=fun a b=>by
 have g:=d a b
 have h:=e a b
 have i:=f a b
 rw[zec,c]
 simp[g,h,i]
end
theorem Value.cells_one{v:Value}(a:v.oneCell'=true):v.cells.toList=[v]:=by{cases v <;> simp_all [Value.cells,Value.oneCell']}
end Go.Gw
namespace Go.Gw
open Go Go.RowKit Go.Pu
variable{Dw:Prop}
theorem Hp.freezeC{α:Type}[GoT α]{B i b:Nat}{A:Nat→Prop}{w:World}{L:List Ob}{cs:List Value}{t:TypeId}{x:α}(d:Hp B A w L)(hi:L[i]?=some (obC b cs t))(e:∀b,w.heap.size≤b→A b)(f:GoT.rep A w cs x):
  ∃a:Nat→Prop,Tr Dw B A w a w∧El a w b 0 x∧Hp B a w (L.eraseIdx i):=by{obtain⟨g,n,o,p⟩:=d.cells hi;obtain⟨a,q,⟨rfl,hp⟩,c,h,j,l⟩:=d.frz hi e;exact⟨a,j,⟨(c b (by simp)).1,(c b (by simp)).2,cs,GoT.keep f (.sub fun k _ m=>h k m),g⟩,l⟩}
end Go.Gw
