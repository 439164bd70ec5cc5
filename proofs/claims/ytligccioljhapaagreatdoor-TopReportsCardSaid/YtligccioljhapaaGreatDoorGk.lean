import Derived.Test.YtligccioljhapaaGreatDoorGd
import Derived.MapKept
import Derived.Laws.StructEq
namespace Go.Gw
open Go Go.RowKit Go.Pu
variable{Dw:Prop}
set_option linter.unusedSimpArgs false
set_option linter.unusedVariables false
def obMF{σ:Type}[GoT σ](F:Int→Option (List σ))(mb:Nat):Ob where
 P f A w:=f=[mb]∧∃es clk,w.heap[mb]?=some (.map es clk)∧∀e∈es.toList,∃d l,e.key=.int .i64 d∧F d=some l∧Sl A w e.val l
 keep h he hb:=by
  obtain⟨rfl,es,clk,h1,h2⟩:=h
  refine⟨rfl,es,clk,by rw[hb mb (by simp)];exact h1,fun e hm=>?_⟩
  obtain⟨d,l,q1,q2,q3⟩:=h2 e hm
  exact⟨d,l,q1,q2,q3.keep he⟩
 lt h b' hb':=by
  obtain⟨rfl,es,clk,h1,_⟩:=h
  simp at hb'
  subst hb'
  exact (Array.getElem?_eq_some_iff.1 h1).1
def ckL{γ σ:Type}[GoT γ][GoT σ](tb:TypeId)(F:γ→Int→Option (List σ))(b:Nat)(c:γ)(i:Nat×List Value):List Ob :=
 [obF (fun A w=>GoT.rep A w i.2 c) (fun h he=>GoT.keep h he),obC b (i.2++[.map (some i.1)]) tb,obMF (F c) i.1]
def obCk{γ σ:Type}[GoT γ][GoT σ](tb:TypeId)(F:γ→Int→Option (List σ))(b:Nat)(c:γ):Ob:=obE (ckL tb F b c)
section
variable{B:Nat}{A A1:Nat→Prop}{w w1:World}{L:List Ob}{i:Nat}{γ σ:Type}[GoT γ][GoT σ]{tb:TypeId}{F:γ→Int→Option (List σ)}{b:Nat}{c:γ}
end
section steps
variable{P:Program}{n:Fr}{ops:Array Oper}{Q:Exit→Act→World→Prop}{E:Env}{w:World}{rest:List Oper}{v u:Value}{d:Nat}
variable{ty t kt et:TypeId}{pos:String}{af:Array Edge}{x y z:Operand}{A:Nat→Prop}{σ:Type}[GoT σ]{B:Nat}{L:List Ob}{i mb:Nat}{F:Int→Option (List σ)}
end steps
section ops
variable{P:Program}{n:Fr}{E:Env}{w:World}{ρd:Option Nat}{ty t t2:TypeId}{pos:String}{af:Array Edge}{g:Option (Nat×Bool)}{x y:Operand}
theorem zmT{a b:Bool}(e:P.underlying t=some .bool)(f:ev E x=some (.bool a))(h:ev E y=some (.bool b)):Y P n E ⟨ρd,.binOp .neq t x y t2,ty,pos,af,g⟩ w (.bool (!(a==b))) w:=fun _ c=>by
 obtain⟨d,i⟩:∃d,Op.maxDepth=d+1:=⟨_,rfl⟩
 simp only[execOp,c.eval f,c.eval h]
 simp[eqGuard,binOp,Op.equal,i,Op.equalIn,underlying,e]
theorem znc{xs ys:Array Value}{b:Bool}(f:∀w,(Op.equalIn 10000 t (.agg xs) (.agg ys)).run P w=.ok b w)(c:P.eqGuardType P.depth t=false)(d:ev E x=some (.agg xs))(e:ev E y=some (.agg ys)):Y P n E ⟨ρd,.binOp .eql t x y t2,ty,pos,af,g⟩ w (.bool b) w:=fun _ a=>by
 simp only[execOp,a.eval d,a.eval e]
 simp[run_eqGuard_agg w _ _ _ _ _ _ c,run_eql_struct w,f]
theorem ziJ{xs ys:Array Value}{b:Bool}(f:∀w,(Op.equalIn 10000 t (.agg xs) (.agg ys)).run P w=.ok b w)(c:P.eqGuardType P.depth t=false)(d:ev E x=some (.agg xs))(e:ev E y=some (.agg ys)):Y P n E ⟨ρd,.binOp .neq t x y t2,ty,pos,af,g⟩ w (.bool (!b)) w:=fun _ a=>by
 simp only[execOp,a.eval d,a.eval e]
 simp[run_eqGuard_agg w _ _ _ _ _ _ c,run_neq_struct w,f]
end ops
end Go.Gw
