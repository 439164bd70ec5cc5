import Derived.Test.YtdpmeckhhcjoiaaGreatDoorGe
namespace Go.Gw
open Go Go.RowKit Go.Pu
variable{Dw:Prop}
set_option linter.unusedSimpArgs false
set_option linter.unusedVariables false
def ptrV(v:Value)(c:Nat)(i:Int):Value:=if i<0 then .pointer none else match v with
 | .slice (some ⟨b,off,none⟩) _ _=>.pointer (some ⟨b,off+i.toNat*c,none⟩)
 | _=>.pointer none
section
variable{P:Program}{n:Fr}{E:Env}{w:World}{v:Value}{ρd:Option Nat}{ty t e:TypeId}{pos:String}{af:Array Edge}{g:Option (Nat×Bool)}{x y:Operand}{A:Nat→Prop}
variable{α:Type}[GoT α]
theorem zil{l:List α}{i:Int}{el:α}(e:Sl A w v l)(c:idx l i=some el):∃a off,ptrV v (GoT.cells α) i=.pointer (some ⟨a,off,none⟩)∧El A w a off el:=by{obtain⟨q,r,b⟩:=zed c;rcases e with ⟨_,_,rfl,rfl,_,_⟩|⟨a,off,n,s,rfl,h,f,o,p,d,g⟩;simp at b;obtain⟨t,j,u,rfl,k,m⟩:=d.at b;refine⟨a,off+i.toNat*GoT.cells α,?_,⟨h,f,j,m,?_⟩⟩;unfold ptrV;rw[if_neg (by omega)];rw[← k];exact g.right.left}
theorem zmm{l:List α}{k:IntKind}{i:Int}{el:α}(f:Sl A w v l)(c:idx l i=some el)(m:P.underlying t=some (.slice e))(h:∀w,(Go.sizeOf e).run P w=.ok (GoT.cells α) w)(o:ev E x=some v)(p:ev E y=some (.int k i)):Y P n E ⟨ρd,.indexAddr t x y,ty,pos,af,g⟩ w (ptrV v (GoT.cells α) i) w:=by{
 intro J b;obtain⟨q,r,s⟩:=zed c;rcases f with ⟨_,_,rfl,rfl,_,_⟩|⟨a,off,j,H,rfl,I,B,D,F,z,G⟩;simp at s
 have d:(⟨a,off,none⟩:Addr).add (i.toNat*GoT.cells α)=⟨a,off+i.toNat*GoT.cells α,none⟩:=by
  unfold Addr.add
  split <;> simp_all
 have u:ptrV (.slice (some ⟨a,off,none⟩) l.length j) (GoT.cells α) i=.pointer (some ⟨a,off+i.toNat*GoT.cells α,none⟩):=by
  unfold ptrV
  rw[if_neg (by omega)]
 rw[u];simp only[execOp,b.eval o,b.eval p,Instr.indexAt,asIntOf];simp[underlying,m,h,q,r,d]}
theorem zpd{l:List α}{i:Int}{c:Nat}{b:Bool}{m u:TypeId}(q:Sl A w v l)(r:c=GoT.cells α)(d:(if i<0 then some true else (idx l i).map fun _=>false)=some b)(o:P.underlying m=some (.pointer u))(e:ev E x=some (ptrV v c i))(p:ev E y=some (.pointer none)):
  Y P n E ⟨ρd,.binOp .eql m x y t,ty,pos,af,g⟩ w (.bool b) w:=by{
 intro B f;subst r;by_cases h:i<0;rw[if_pos h]at d;obtain rfl:=Option.some.inj d;have j:ptrV v (GoT.cells α) i=.pointer none:=by unfold ptrV;rw[if_pos h]
 rw[j]at e;obtain⟨a,k⟩:∃a,Op.maxDepth=a+1:=⟨_,rfl⟩;simp only[execOp,f.eval e,f.eval p];simp[eqGuard,binOp,Op.equal,k,Op.equalIn,underlying,o];rw[if_neg h]at d;obtain⟨el,s,rfl⟩:=Option.map_eq_some_iff.1 d;obtain⟨z,off,j,_⟩:=zil q s;rw[j]at e;obtain⟨a,k⟩:∃a,Op.maxDepth=a+1:=⟨_,rfl⟩;simp only[execOp,f.eval e,f.eval p];simp[eqGuard,binOp,Op.equal,k,Op.equalIn,underlying,o]}
end
def OEl{α:Type}[GoT α](A:Nat→Prop)(w:World)(v:Value):Option α→Prop
 | none=>v=.pointer none
 | some y=>∃b off,v=.pointer (some ⟨b,off,none⟩)∧El A w b off y
section
variable{P:Program}{n:Fr}{E:Env}{w w1:World}{v:Value}{ρd:Option Nat}{ty t e:TypeId}{pos:String}{af:Array Edge}{g:Option (Nat×Bool)}{x y:Operand}{A A1:Nat→Prop}{B:Nat}
variable{α:Type}[GoT α]{o:Option α}{el:α}
theorem OEl.tr(a:OEl A w v o)(c:Tr Dw B A w A1 w1):OEl A1 w1 v o:=by{
 cases o with
 | none=>exact a
 | some y=>obtain⟨b,off,h1,h2⟩:=a;exact⟨b,off,h1,h2.tr c⟩}
theorem OEl.kp(a:OEl A w v o)(c:Kp Dw w w1):OEl A w1 v o:=by{
 cases o with
 | none=>exact a
 | some y=>obtain⟨b,off,h1,h2⟩:=a;exact⟨b,off,h1,h2.kp c⟩}
theorem OEl.get(c:OEl A w v o)(b:o=some el):∃a off,v=.pointer (some ⟨a,off,none⟩)∧El A w a off el:=by{subst b;exact c}
end
end Go.Gw
