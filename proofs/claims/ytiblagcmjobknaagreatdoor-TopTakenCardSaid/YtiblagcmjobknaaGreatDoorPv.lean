import Derived.Test.YtiblagcmjobknaaGreatDoorPu
namespace Go.Pu
open Go
set_option linter.unusedSimpArgs false
set_option linter.unusedVariables false
def bitsI (op : BinOp) (k : IntKind) (p q : Int) : Int :=
 match op with
 | .and => k.wrap (BitVec.ofInt k.bits p &&& BitVec.ofInt k.bits q).toNat
 | .or => k.wrap (BitVec.ofInt k.bits p ||| BitVec.ofInt k.bits q).toNat
 | .xor => k.wrap (BitVec.ofInt k.bits p ^^^ BitVec.ofInt k.bits q).toNat
 | .andNot => k.wrap (BitVec.ofInt k.bits p &&& ~~~(BitVec.ofInt k.bits q)).toNat
 | _ => 0
def quoK (k : IntKind) (a b : Int) : Option Int := if b = 0 then none else some (k.wrap (a.tdiv b))
def remK (k : IntKind) (a b : Int) : Option Int := if b = 0 then none else some (a.tmod b)
def winL (l : List Int) (lo hi : Int) : Option (List Int) := if 0 ≤ lo ∧ lo < hi ∧ hi ≤ (l.length : Int) then some ((l.take hi.toNat).drop lo.toNat) else none
def winS (l : List Int) (lo hi : Int) (m : List Int) : List Int := l.take lo.toNat ++ m ++ l.drop hi.toNat
end Go.Pu
