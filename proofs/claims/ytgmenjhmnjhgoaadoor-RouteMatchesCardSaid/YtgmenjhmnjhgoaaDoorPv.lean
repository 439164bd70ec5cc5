/-
  Plain computations on words: bits, quotients of other kinds.
-/
import Derived.Test.YtgmenjhmnjhgoaaDoorPu
namespace Go.Pu
open Go
set_option linter.unusedSimpArgs false
set_option linter.unusedVariables false

/-- & | ^ &^ -/
def bitsI (op : BinOp) (k : IntKind) (p q : Int) : Int :=
  match op with
  | .and => k.wrap (BitVec.ofInt k.bits p &&& BitVec.ofInt k.bits q).toNat
  | .or => k.wrap (BitVec.ofInt k.bits p ||| BitVec.ofInt k.bits q).toNat
  | .xor => k.wrap (BitVec.ofInt k.bits p ^^^ BitVec.ofInt k.bits q).toNat
  | .andNot => k.wrap (BitVec.ofInt k.bits p &&& ~~~(BitVec.ofInt k.bits q)).toNat
  | _ => 0
def quoK (k : IntKind) (a b : Int) : Option Int := if b = 0 then none else some (k.wrap (a.tdiv b))
def remK (k : IntKind) (a b : Int) : Option Int := if b = 0 then none else some (a.tmod b)

theorem wrapU32_id {x : Int} (h0 : 0 ≤ x) (h1 : x < 4294967296) : IntKind.u32.wrap x = x := by
  simp only [IntKind.wrap, IntKind.bits, IntKind.signed]
  simp
  omega
theorem wrapU64_id {x : Int} (h0 : 0 ≤ x) (h1 : x < 18446744073709551616) : IntKind.u64.wrap x = x := by
  simp only [IntKind.wrap, IntKind.bits, IntKind.signed]
  simp
  omega
theorem wrapU32_rng (x : Int) : 0 ≤ IntKind.u32.wrap x ∧ IntKind.u32.wrap x < 4294967296 := by
  simp only [IntKind.wrap, IntKind.bits, IntKind.signed]
  simp
  omega
theorem bitsU32 (op : BinOp) (p q : Int) : ((toU32 (bitsI op .u32 p q)).toNat : Int) = bitsI op .u32 p q := by
  rw [toU32_nat]
  have key : ∀ y, IntKind.u32.wrap (IntKind.u32.wrap y) = IntKind.u32.wrap y := fun y => wrapU32_id (wrapU32_rng y).1 (wrapU32_rng y).2
  unfold bitsI
  split
  · exact key _
  · exact key _
  · exact key _
  · exact key _
  · exact wrapU32_id (by omega) (by omega)
/-- a part of a row that is handed to a function that writes into it, and the row with it behind the call -/
def winL (l : List Int) (lo hi : Int) : Option (List Int) := if 0 ≤ lo ∧ lo < hi ∧ hi ≤ (l.length : Int) then some ((l.take hi.toNat).drop lo.toNat) else none
def winS (l : List Int) (lo hi : Int) (m : List Int) : List Int := l.take lo.toNat ++ m ++ l.drop hi.toNat
end Go.Pu
