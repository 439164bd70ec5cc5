/-
  Written by program (gen.py) from the IR of the dump: plain models of the functions.
-/
import Derived.Test.YtnaoklncjnplfaaDoorPu
import Derived.Lib.SlTrimSet
import Derived.Test.YtnaoklncjnplfaaDoorPr
namespace Go.Proofs.YtnaoklncjnplfaaDoor.M
open Go Go.Pu
set_option linter.unusedVariables false
set_option linter.unusedSimpArgs false

structure route_Skill where
  name : ByteArray
  rank : Int

structure route_Work where
  ticket : Int
  weight : Int
  urgency : Int
  since : Int
  former : Int
  needs : (List route_Skill)

/-- porterslodge route within -/
def route_within (n : Int) (low : Int) (high : Int) : Bool :=
  ((decide (low ≤ n)) && (decide (n ≤ high)))

/-- slices IndexFunc porterslodge route Work porterslodge route Work -/
def slices_IndexFunc_Lroute_Work_route_Work (s : (List route_Work)) (f : route_Work → Option Bool) : Option Int :=
  Option.bind (rangeB (fun k6 _ => Option.bind (idx s (k6 : Int)) fun x25 => Option.bind (f x25) fun x32 => if x32 = true then some (.rt (k6 : Int)) else some (.nx ())) s.length 0 ()) fun o3 => o3.andThen (fun y => some y) fun s4 =>
  some (-1)

/-- slices ContainsFunc porterslodge route Work porterslodge route Work -/
def slices_ContainsFunc_Lroute_Work_route_Work (s : (List route_Work)) (f : route_Work → Option Bool) : Option Bool :=
  Option.bind (slices_IndexFunc_Lroute_Work_route_Work s f) fun x3 =>
  some (decide ((0 : Int) ≤ x3))

/-- porterslodge route CheckWork 1 -/
def route_CheckWork_1 (x : route_Work) (p1 : route_Work) : Option Bool :=
  some (x.ticket == p1.ticket)

/-- porterslodge route name -/
noncomputable def route_name (s : ByteArray) : Option Bool :=
  Option.bind (whileB (fun s8 => if (decide (s8 < (s.size : Int))) = true then Option.bind (idxS s s8) fun x18 => if (((!((decide ((97 : Int) ≤ (x18.toNat : Int))) && (decide ((x18.toNat : Int) ≤ 122)))) && (!((decide ((48 : Int) ≤ (x18.toNat : Int))) && (decide ((x18.toNat : Int) ≤ 57))))) && ((x18.toNat : Int) != 95)) = true then some (.rt false) else some (.nx (w64 (s8 + 1))) else some (.bk s8)) 0) fun o1 => o1.andThen (fun y => some y) fun s2 =>
  some ((!(strEq s (⟨#[]⟩ : ByteArray))) && (decide ((s.size : Int) ≤ 20)))

/-- porterslodge route checkSkills -/
noncomputable def route_checkSkills (l : (List route_Skill)) : Option Int :=
  if (decide ((12 : Int) < (l.length : Int))) = true then
    some 4
  else
    Option.bind (rangeB (fun k7 _ => Option.bind (idx l (k7 : Int)) fun x27 => Option.bind (route_name x27.name) fun x41 => if (!x41) = true then some (.rt 3) else Option.bind (if (decide ((0 : Int) < (k7 : Int))) = true then (Option.bind (idx l (w64 ((k7 : Int) - 1))) fun x46 => some (strLt x27.name x46.name || strEq x27.name x46.name)) else (some false)) fun s44 => if s44 = true then some (.rt 5) else if (!(route_within x27.rank 1 9)) = true then some (.rt 2) else some (.nx ())) l.length 0 ()) fun o4 => o4.andThen (fun y => some y) fun s5 =>
    some 0

/-- porterslodge route CheckWork -/
noncomputable def route_CheckWork (l : (List route_Work)) : Option Int :=
  if (decide ((200 : Int) < (l.length : Int))) = true then
    some 4
  else
    Option.bind (rangeB (fun k7 _ => Option.bind (idx l (k7 : Int)) fun x27 => if (!(route_within x27.ticket 1 400)) = true then some (.rt 2) else Option.bind (sliceL l none (some (k7 : Int))) fun x47 => Option.bind (slices_ContainsFunc_Lroute_Work_route_Work x47 (fun y50 => route_CheckWork_1 y50 x27)) fun x51 => if x51 = true then some (.rt 6) else if ((((!(route_within x27.weight 1 20)) || (!(route_within x27.urgency 0 9))) || (!(route_within x27.since 0 3000000))) || (!(route_within x27.former 0 40))) = true then some (.rt 2) else Option.bind (route_checkSkills x27.needs) fun x81 => if (x81 != 0) = true then some (.rt x81) else some (.nx ())) l.length 0 ()) fun o4 => o4.andThen (fun y => some y) fun s5 =>
    some 0

/-- cmp isNaN int -/
def cmp_isNaN_int (x : Int) : Bool :=
  x != x

/-- cmp Compare int -/
def cmp_Compare_int (x : Int) (y : Int) : Int :=
  if (cmp_isNaN_int x) = true then
    if (cmp_isNaN_int y) = true then
      0
    else
      (-1)
  else
    if (cmp_isNaN_int y) = true then
      1
    else
      if (decide (x < y)) = true then
        (-1)
      else
        if (decide (y < x)) = true then
          1
        else
          0

/-- cmp Or int -/
def cmp_Or_int (vals : (List Int)) : Option Int :=
  Option.bind (rangeB (fun k6 _ => Option.bind (idx vals (k6 : Int)) fun x21 => if (x21 != 0) = true then some (.rt x21) else some (.nx ())) vals.length 0 ()) fun o3 => o3.andThen (fun y => some y) fun s4 =>
  some 0

/-- porterslodge route order 1 -/
def route_order_1 (a_ : Int) (b : Int) (p2 : (List route_Work)) : Option Int :=
  Option.bind (idx p2 a_) fun x10 =>
  Option.bind (idx p2 b) fun x20 =>
  Option.bind (cmp_Or_int ([(cmp_Compare_int x20.urgency x10.urgency), (cmp_Compare_int x10.since x20.since), (cmp_Compare_int x10.ticket x20.ticket)] : List Int)) fun x55 =>
  some x55

/-- porterslodge route order -/
noncomputable def route_order (l : (List route_Work)) : Option (List Int) :=
  Option.bind (rangeB (fun k19 s27 => Option.bind (appendL 17592186044416 s27 ([(k19 : Int)] : List Int)) fun x47 => some (.nx x47)) l.length 0 ([] : (List Int))) fun o16 => o16.andThen (fun y => some y) fun s17 =>
  Option.bind (sortFuncL (fun y60 y61 => route_order_1 y60 y61 l) s17) fun x56 =>
  some x56

/-- porterslodge route Order -/
noncomputable def route_Order (l : (List route_Work)) : Option ((List Int) × Int) :=
  Option.bind (route_CheckWork l) fun x3 =>
  if (x3 != 0) = true then
    some (([] : (List Int)), x3)
  else
    Option.bind (route_order l) fun x8 =>
    some (x8, 0)

/-- porterslodge portref2 WorkFault 1 -/
def portref2_WorkFault_1 (x : route_Work) (p1 : route_Work) : Option Bool :=
  some (x.ticket == p1.ticket)

/-- porterslodge portref2 IsMoment -/
def portref2_IsMoment (m : Int) : Bool :=
  ((decide ((0 : Int) ≤ m)) && (decide (m ≤ 3000000)))

/-- strings.Trim -/
def strings_Trim (s : ByteArray) (cutset : ByteArray) : Option ByteArray :=
  if s.size ≤ 9223372036854775807 ∧ cutset.size < 4294967281 ∧ (cutset.data.toList.all fun b => decide (b.toNat < 128)) = true then some ⟨(Go.Lib.trimS s.data.toList cutset.data.toList).toArray⟩ else none

/-- porterslodge portref2 IsName -/
def portref2_IsName (s : ByteArray) : Option Bool :=
  Option.bind (if (decide ((1 : Int) ≤ (s.size : Int))) = true then (if (decide ((s.size : Int) ≤ 20)) = true then (Option.bind (strings_Trim s (⟨#[97, 98, 99, 100, 101, 102, 103, 104, 105, 106, 107, 108, 109, 110, 111, 112, 113, 114, 115, 116, 117, 118, 119, 120, 121, 122, 48, 49, 50, 51, 52, 53, 54, 55, 56, 57, 95]⟩ : ByteArray)) fun x11 => some (strEq x11 (⟨#[]⟩ : ByteArray))) else (some false)) else (if false = true then (Option.bind (strings_Trim s (⟨#[97, 98, 99, 100, 101, 102, 103, 104, 105, 106, 107, 108, 109, 110, 111, 112, 113, 114, 115, 116, 117, 118, 119, 120, 121, 122, 48, 49, 50, 51, 52, 53, 54, 55, 56, 57, 95]⟩ : ByteArray)) fun x18 => some (strEq x18 (⟨#[]⟩ : ByteArray))) else (some false))) fun s2 =>
  some s2

/-- porterslodge portref2 skillsFault -/
def portref2_skillsFault (l : (List route_Skill)) : Option Int :=
  if (decide ((12 : Int) < (l.length : Int))) = true then
    some 4
  else
    Option.bind (rangeB (fun k7 _ => Option.bind (idx l (k7 : Int)) fun x27 => Option.bind (portref2_IsName x27.name) fun x41 => if (!x41) = true then some (.rt 3) else Option.bind (if (decide ((0 : Int) < (k7 : Int))) = true then (Option.bind (idx l (w64 ((k7 : Int) - 1))) fun x49 => some (strLt x27.name x49.name || strEq x27.name x49.name)) else (some false)) fun s47 => if s47 = true then some (.rt 5) else if ((decide (x27.rank < 1)) || (decide ((9 : Int) < x27.rank))) = true then some (.rt 2) else some (.nx ())) l.length 0 ()) fun o4 => o4.andThen (fun y => some y) fun s5 =>
    some 0

/-- porterslodge portref2 WorkFault -/
def portref2_WorkFault (l : (List route_Work)) : Option Int :=
  if (decide ((200 : Int) < (l.length : Int))) = true then
    some 4
  else
    Option.bind (rangeB (fun k7 _ => Option.bind (idx l (k7 : Int)) fun x27 => if ((decide (x27.ticket < 1)) || (decide ((400 : Int) < x27.ticket))) = true then some (.rt 2) else Option.bind (sliceL l none (some (k7 : Int))) fun x50 => Option.bind (slices_ContainsFunc_Lroute_Work_route_Work x50 (fun y53 => portref2_WorkFault_1 y53 x27)) fun x54 => if x54 = true then some (.rt 6) else if (((((((decide (x27.weight < 1)) || (decide ((20 : Int) < x27.weight))) || (decide (x27.urgency < 0))) || (decide ((9 : Int) < x27.urgency))) || (!(portref2_IsMoment x27.since))) || (decide (x27.former < 0))) || (decide ((40 : Int) < x27.former))) = true then some (.rt 2) else Option.bind (portref2_skillsFault x27.needs) fun x93 => if (x93 != 0) = true then some (.rt x93) else some (.nx ())) l.length 0 ()) fun o4 => o4.andThen (fun y => some y) fun s5 =>
    some 0

/-- porterslodge portref2 orderOf 1 -/
def portref2_orderOf_1 (a_ : Int) (b : Int) (p2 : (List route_Work)) : Option Int :=
  Option.bind (idx p2 a_) fun x10 =>
  Option.bind (idx p2 b) fun x20 =>
  Option.bind (cmp_Or_int ([(cmp_Compare_int x20.urgency x10.urgency), (cmp_Compare_int x10.since x20.since), (cmp_Compare_int x10.ticket x20.ticket)] : List Int)) fun x55 =>
  some x55

/-- porterslodge portref2 orderOf -/
noncomputable def portref2_orderOf (l : (List route_Work)) : Option (List Int) :=
  Option.bind (makeL 35184372088832 (l.length : Int) (0 : Int)) fun x16 =>
  Option.bind (rangeB (fun k29 s37 => Option.bind (idx s37 (k29 : Int)) fun x52 => Option.bind (setI s37 (k29 : Int) (k29 : Int)) fun x57 => some (.nx x57)) l.length 0 x16) fun o26 => o26.andThen (fun y => some y) fun s27 =>
  Option.bind (sortFuncL (fun y68 y69 => portref2_orderOf_1 y68 y69 l) s27) fun x64 =>
  some x64

/-- porterslodge portref2 OrderOf -/
noncomputable def portref2_OrderOf (l : (List route_Work)) : Option ((List Int) × Int) :=
  Option.bind (portref2_WorkFault l) fun x3 =>
  if (x3 != 0) = true then
    some (([] : (List Int)), x3)
  else
    Option.bind (portref2_orderOf l) fun x8 =>
    some (x8, 0)

/-- slices Equal int int -/
def slices_Equal_Lint_int (s1 : (List Int)) (s2 : (List Int)) : Option Bool :=
  if ((s1.length : Int) != (s2.length : Int)) = true then
    some false
  else
    Option.bind (rangeB (fun k9 _ => Option.bind (idx s1 (k9 : Int)) fun x29 => Option.bind (idx s2 (k9 : Int)) fun x33 => if (x29 != x33) = true then some (.rt false) else some (.nx ())) s1.length 0 ()) fun o6 => o6.andThen (fun y => some y) fun s7 =>
    some true

/-- porterslodge portlaw2 RouteOrders -/
noncomputable def portlaw2_RouteOrders (l : (List route_Work)) : Option Bool :=
  Option.bind (route_Order l) fun x3 =>
  Option.bind (portref2_OrderOf l) fun x11 =>
  Option.bind (if (x3.2 == x11.2) = true then (Option.bind (slices_Equal_Lint_int x3.1 x11.1) fun x28 => some x28) else (some false)) fun s20 =>
  some s20

end Go.Proofs.YtnaoklncjnplfaaDoor.M
