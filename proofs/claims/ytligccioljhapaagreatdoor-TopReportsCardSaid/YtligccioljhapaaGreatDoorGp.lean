import Derived.Test.YtligccioljhapaaGreatDoorGe
namespace Go.Gw
open Go Go.RowKit Go.Pu
variable{Dw:Prop}
set_option linter.unusedSimpArgs false
set_option linter.unusedVariables false
def ptrV(v:Value)(c:Nat)(i:Int):Value:=if i<0 then .pointer none else match v with
 | .slice (some ⟨b,off,none⟩) _ _=>.pointer (some ⟨b,off+i.toNat*c,none⟩)
 | _=>.pointer none
section
variable{P:Program}{n:Fr}{E:Env}{w:World}{v:Value}{ρd:Option Nat}{ty t e:TypeId}{pos:String}{af:Array Edge}{g:Option (Nat×Bool)}{x y:Operand}{A:Nat→Prop}
variable{α:Type}[GoT α]
end
def OEl{α:Type}[GoT α](A:Nat→Prop)(w:World)(v:Value):Option α→Prop
 | none=>v=.pointer none
 | some y=>∃b off,v=.pointer (some ⟨b,off,none⟩)∧El A w b off y
section
variable{P:Program}{n:Fr}{E:Env}{w w1:World}{v:Value}{ρd:Option Nat}{ty t e:TypeId}{pos:String}{af:Array Edge}{g:Option (Nat×Bool)}{x y:Operand}{A A1:Nat→Prop}{B:Nat}
variable{α:Type}[GoT α]{o:Option α}{el:α}
theorem OEl.tr(a:OEl A w v o)(c:Tr Dw B A w A1 w1):OEl A1 w1 v o:=by{
 cases o with
 | none=>exact a
 | some y=>obtain⟨b,off,h1,h2⟩:=a;exact⟨b,off,h1,h2.tr c⟩}
theorem OEl.kp(a:OEl A w v o)(c:Kp Dw w w1):OEl A w1 v o:=by{
 cases o with
 | none=>exact a
 | some y=>obtain⟨b,off,h1,h2⟩:=a;exact⟨b,off,h1,h2.kp c⟩}
theorem OEl.get(c:OEl A w v o)(b:o=some el):∃a off,v=.pointer (some ⟨a,off,none⟩)∧El A w a off el:=by{subst b;exact c}
end
end Go.Gw
