/-
  Plain values of the empty interface: a string or an int.
-/
import Derived.Test.YthhgggkhlcnbhaaDoorPu
import Derived.Lib.Join
namespace Go.Pu
open Go
inductive AnyV where
  | str (b : ByteArray)
  | int (n : Int)
def AnyV.asStr : AnyV → ByteArray × Bool
  | .str b => (b, true)
  | .int _ => (ByteArray.empty, false)
def AnyV.asInt : AnyV → Int × Bool
  | .str _ => (0, false)
  | .int n => (n, true)
/-- the value: ts, ti the types string and int -/
def AnyV.val (ts ti : TypeId) : AnyV → Value
  | .str b => .iface ts (.string b)
  | .int n => .iface ti (.int .i64 n)
end Go.Pu
