import Derived.Test.YtiblagcmjobknaaGreatDoorPu
import Derived.Lib.Join
namespace Go.Pu
open Go
inductive AnyV where
 | str (b : ByteArray)
 | int (n : Int)
def AnyV.asStr : AnyV → ByteArray × Bool
 | .str b => (b, true)
 | .int _ => (ByteArray.empty, false)
def AnyV.asInt : AnyV → Int × Bool
 | .str _ => (0, false)
 | .int n => (n, true)
def AnyV.val (ts ti : TypeId) : AnyV → Value
 | .str b => .iface ts (.string b)
 | .int n => .iface ti (.int .i64 n)
def zw {κ α : Type} [DecidableEq κ] : List (κ × α) → κ → Option α
 | [], _ => none
 | p :: l, k => if p.1 = k then some p.2 else zw l k
open Classical in
noncomputable def QO {κ α : Type} [DecidableEq κ] (l : List (κ × α)) (k : κ) (v : α) : List (κ × α) := if ∃ p ∈ l, p.1 = k then l.map (fun q => if q.1 = k then (k, v) else q) else l ++ [(k, v)]
structure Fmap (κ α : Type) where
 l : List (κ × α)
def bytesL (s : ByteArray) : Option (List UInt8) := if s.size ≤ 2 ^ 63 - 1 then some s.data.toList else none
end Go.Pu
