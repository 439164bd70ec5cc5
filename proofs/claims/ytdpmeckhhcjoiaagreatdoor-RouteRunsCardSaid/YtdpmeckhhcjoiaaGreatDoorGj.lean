import Derived.Test.YtdpmeckhhcjoiaaGreatDoorGe
import Derived.Test.YtdpmeckhhcjoiaaGreatDoorPu
import Derived.Below
namespace Go.Gw
open Go Go.RowKit Go.Pu
variable{Dw:Prop}
set_option linter.unusedSimpArgs false
set_option linter.unusedVariables false
@[reducible] def anyT (ts ti:TypeId):GoT AnyV where
 cells:=1
 wf _:=True
 rep _ _ cs x:=cs=[AnyV.val ts ti x]
 len h:=by subst h;rfl
 one h:=by rename_i x;subst h;cases x <;> simp[AnyV.val,Value.oneCell']
 keep h _:=h
theorem zsb(ts ti:TypeId):@Flat AnyV (anyT ts ti):=letI:=anyT ts ti;⟨fun a=>a⟩
section
variable{P:Program}{n:Fr}{E:Env}{w:World}{x:Operand}{ty t tx ts ti:TypeId}{pos:String}{af:Array Edge}{ρd:Option Nat}{g:Option (Nat×Bool)}
end
end Go.Gw
namespace Go.Gw
open Go Go.RowKit Go.Pu
variable{Dw:Prop}
end Go.Gw
