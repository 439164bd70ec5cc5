import Derived.Test.YtjdjmddclfhpeaaGreatDoorGc
import Derived.Lib.Bytealg
namespace Go.Gw
open Go Go.RowKit Go.Pu
set_option linter.unusedSimpArgs false
set_option linter.unusedVariables false
section
variable {P : Program} {n : Fr} {E : Env} {w : World} {ρd : Option Nat} {ty : TypeId} {pos : String} {af : Array Edge} {g : Option (Nat × Bool)} {v : Value}
theorem Y_ext {f : FuncId} {fn : Func} {e : Array Value → Sem Value} {fv : Operand} {args : Array Operand} {ats : Array TypeId} {vs : List Value} (hf : P.funcs[f]? = some fn) (hname : (fn.name == "runtime.NumGoroutine") = false)
  (hb : fn.body.isNone = true) (hn : Extern.findNext fn = none) (he : Extern.find fn = some e) (hfv : ev E fv = some (.func (.func f) #[] #[])) (hv : evs E args.toList = some vs) (hrun : (e vs.toArray).run P w = .ok v w) :
  Y P n E ⟨ρd, .call ⟨.value fv, args, ats⟩, ty, pos, af, g⟩ w v w := fun a ha => by
 have h1 : args.map a.eval = vs.toArray := by
  have := ha.evals hv
  apply Array.toList_inj.1
  rw [Array.toList_map, this]
 have hc := run_callFunc_extern (P := P) hf hname hb hn he (vs.toArray) w
 rw [hrun] at hc
 simp only [execOp, resolve, h1, ha.eval hfv, Deferred.ofValue, pure_bind, invoke]
 simpa [Result.andThen] using hc
theorem indexByteL_eq : ∀ (l : List UInt8) (c : UInt8), Go.Lib.indexByte l c = indexByteL l c
 | [], _ => rfl
 | b :: l, c => by rw [Go.Lib.indexByte, indexByteL, indexByteL_eq l c]
theorem run_indexByteS (s : ByteArray) (c : Int) (w : World) : (Extern.BytealgIndexByte.indexByte #[.string s, .int .u8 c]).run P w = .ok (.int .i64 (indexByteS s c)) w := by
 rw [Go.Lib.run_indexByteString, indexByteL_eq, indexByteS, ByteArray.toList_eq]
end
end Go.Gw
