import Derived.Test.YtcnidlpginehjaaGreatGe
namespace Go.Gw
open Go Go.RowKit Go.Pu
set_option linter.unusedSimpArgs false
set_option linter.unusedVariables false
section
variable{P:Program}{n:Fr}{E:Env}{w:World}{x:Operand}{ty t tx t2 e:TypeId}{pos:String}{af:Array Edge}{ρd:Option Nat}{g:Option (Nat×Bool)}{v z:Value}{fs:Array Field}
theorem ziV(a:P.underlying t=some (.slice e))(b:ev E x=some v):Y P n E ⟨ρd,.makeInterface t x,ty,pos,af,g⟩ w (.iface t v) w:=fun d c=>by
 simp[execOp,c.eval b,Instr.makeInterface,underlying,a]
theorem ziH(a:P.underlying t=some (.slice e))(b:ev E x=some (.iface t v)):Y P n E ⟨ρd,.typeAssert x tx t true,ty,pos,af,g⟩ w (.tuple #[v,.bool true]) w:=fun d c=>by
 simp[execOp,c.eval b,Instr.typeAssert,underlying,a]
theorem zfZ(b:P.underlying t2=some (.struct fs))(c:∀w,(zeroValue t2).run P w=.ok z w)(a:t≠t2)(d:ev E x=some (.iface t v)):Y P n E ⟨ρd,.typeAssert x tx t2 true,ty,pos,af,g⟩ w (.tuple #[z,.bool false]) w:=fun f e=>by
 simp[execOp,e.eval d,Instr.typeAssert,underlying,b,a,c]
theorem zfS(b:P.underlying t2=some (.slice e))(c:∀w,(zeroValue t2).run P w=.ok z w)(a:t≠t2)(d:ev E x=some (.iface t v)):Y P n E ⟨ρd,.typeAssert x tx t2 true,ty,pos,af,g⟩ w (.tuple #[z,.bool false]) w:=fun h f=>by
 simp[execOp,f.eval d,Instr.typeAssert,underlying,b,a,c]
end
end Go.Gw
