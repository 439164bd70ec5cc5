import Derived.Test.YtcnidlpginehjaaGreatGt
namespace Go.Gw
open Go Go.RowKit Go.Pu
variable{Dw:Prop}
set_option linter.unusedSimpArgs false
set_option linter.unusedVariables false
set_option linter.unusedSectionVars false
structure Sv where
 v:Value
 one:v.oneCell'=true
instance:GoT Sv where
 cells:=1
 wf _:=True
 rep _ _ cs x:=cs=[x.v]
 len h:=by subst h;rfl
 one {_ _ _ x} h u hu:=by subst h;simp at hu;subst hu;exact x.one
 keep h _:=h
section
variable{α:Type}[GoT α]
def ssZ(e2:TypeId)(vs:List Sv)(l:List (List α)):List Ob:=List.zipWith (fun p c=>obS e2 p.v c) vs l
def obZ(e2:TypeId)(vs:List Sv)(l:List (List α)):Ob:=obE (fun (_:Unit)=>ssZ e2 vs l)
def obZX(e2:TypeId)(vs:List Sv)(l:List (List α))(k:Nat):Ob:=obE (fun (_:Unit)=>(ssZ e2 vs l).eraseIdx k)
def ssL(e e2:TypeId)(v:Value)(l:List (List α))(vs:List Sv):List Ob:=obQ (vs.length=l.length)::obS e v vs::ssZ e2 vs l
def obSS(e e2:TypeId)(v:Value)(l:List (List α)):Ob:=obE (ssL e e2 v l)
end
section
variable{B:Nat}{A A1:Nat→Prop}{w w1:World}{L M:List Ob}{i k:Nat}{α:Type}[GoT α]{e e2:TypeId}{v u:Value}{l:List (List α)}{vs:List Sv}{c c':List α}{y:Sv}{ix:Int}
end
section steps
variable{P:Program}{n:Fr}{ops:Array Oper}{Q:Exit→Act→World→Prop}{E:Env}{w:World}{rest:List Oper}{v u:Value}{d:Nat}{W:World→Prop}{QA:Act→Prop}
variable{ty t e e2:TypeId}{pos:String}{af:Array Edge}{x y z:Operand}{A:Nat→Prop}{B:Nat}{L:List Ob}{i:Nat}{α:Type}[GoT α]{l:List (List α)}{c:List α}
theorem El.sv{A:Nat→Prop}{b off:Nat}{p:Sv}(a:El A w b off p):w.cell? ⟨b,off,none⟩=some p.v:=a.cell fun _ a=>a
end steps
end Go.Gw
