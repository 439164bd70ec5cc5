/-
  Written by program (gen.py) from the IR of the dump: plain models of the functions.
-/
import Derived.Test.YtigplgkbilmabaaDoorPu
import Derived.Lib.SlTrimSet
namespace Go.Proofs.YtigplgkbilmabaaDoor.M
open Go Go.Pu
set_option linter.unusedVariables false
set_option linter.unusedSimpArgs false

structure route_Skill where
  name : ByteArray
  rank : Int

structure route_Person where
  no : Int
  capacity : Int
  calendar : Int
  skills : (List route_Skill)

structure route_Held where
  ticket : Int
  person : Int
  weight : Int
  since : Int

/-- porterslodge route within -/
def route_within (n : Int) (low : Int) (high : Int) : Bool :=
  ((decide (low ≤ n)) && (decide (n ≤ high)))

/-- porterslodge route name -/
noncomputable def route_name (s : ByteArray) : Option Bool :=
  Option.bind (whileB (fun s8 => if (decide (s8 < (s.size : Int))) = true then Option.bind (idxS s s8) fun x18 => if (((!((decide ((97 : Int) ≤ (x18.toNat : Int))) && (decide ((x18.toNat : Int) ≤ 122)))) && (!((decide ((48 : Int) ≤ (x18.toNat : Int))) && (decide ((x18.toNat : Int) ≤ 57))))) && ((x18.toNat : Int) != 95)) = true then some (.rt false) else some (.nx (w64 (s8 + 1))) else some (.bk s8)) 0) fun o1 => o1.andThen (fun y => some y) fun s2 =>
  some ((!(strEq s (⟨#[]⟩ : ByteArray))) && (decide ((s.size : Int) ≤ 20)))

/-- porterslodge route checkSkills -/
noncomputable def route_checkSkills (l : (List route_Skill)) : Option Int :=
  if (decide ((12 : Int) < (l.length : Int))) = true then
    some 4
  else
    Option.bind (rangeB (fun k7 _ => Option.bind (idx l (k7 : Int)) fun x27 => Option.bind (route_name x27.name) fun x41 => if (!x41) = true then some (.rt 3) else Option.bind (if (decide ((0 : Int) < (k7 : Int))) = true then (Option.bind (idx l (w64 ((k7 : Int) - 1))) fun x46 => some (strLt x27.name x46.name || strEq x27.name x46.name)) else (some false)) fun s44 => if s44 = true then some (.rt 5) else if (!(route_within x27.rank 1 9)) = true then some (.rt 2) else some (.nx ())) l.length 0 ()) fun o4 => o4.andThen (fun y => some y) fun s5 =>
    some 0

/-- porterslodge route CheckPeople -/
noncomputable def route_CheckPeople (l : (List route_Person)) : Option Int :=
  if (decide ((40 : Int) < (l.length : Int))) = true then
    some 4
  else
    Option.bind (rangeB (fun k7 _ => Option.bind (idx l (k7 : Int)) fun x27 => if (!(route_within x27.no 1 40)) = true then some (.rt 2) else Option.bind (if (decide ((0 : Int) < (k7 : Int))) = true then (Option.bind (idx l (w64 ((k7 : Int) - 1))) fun x50 => some (decide (x27.no ≤ x50.no))) else (some false)) fun s48 => if s48 = true then some (.rt 5) else if ((!(route_within x27.capacity 0 100)) || (!(route_within x27.calendar 0 19))) = true then some (.rt 2) else Option.bind (route_checkSkills x27.skills) fun x68 => if (x68 != 0) = true then some (.rt x68) else some (.nx ())) l.length 0 ()) fun o4 => o4.andThen (fun y => some y) fun s5 =>
    some 0

/-- slices IndexFunc porterslodge route Person porterslodge route Person -/
def slices_IndexFunc_Lroute_Person_route_Person (s : (List route_Person)) (f : route_Person → Option Bool) : Option Int :=
  Option.bind (rangeB (fun k6 _ => Option.bind (idx s (k6 : Int)) fun x25 => Option.bind (f x25) fun x32 => if x32 = true then some (.rt (k6 : Int)) else some (.nx ())) s.length 0 ()) fun o3 => o3.andThen (fun y => some y) fun s4 =>
  some (-1)

/-- porterslodge route position 1 -/
def route_position_1 (p : route_Person) (p1 : Int) : Option Bool :=
  some (p.no == p1)

/-- porterslodge route position -/
def route_position (people : (List route_Person)) (no : Int) : Option Int :=
  Option.bind (slices_IndexFunc_Lroute_Person_route_Person people (fun y9 => route_position_1 y9 no)) fun x10 =>
  some x10

/-- porterslodge route checkHeld -/
def route_checkHeld (people : (List route_Person)) (l : (List route_Held)) : Option Int :=
  if (decide ((400 : Int) < (l.length : Int))) = true then
    some 4
  else
    Option.bind (rangeB (fun k9 _ => Option.bind (idx l (k9 : Int)) fun x29 => if (!(route_within x29.ticket 1 400)) = true then some (.rt 2) else Option.bind (if (decide ((0 : Int) < (k9 : Int))) = true then (Option.bind (idx l (w64 ((k9 : Int) - 1))) fun x47 => some (decide (x29.ticket ≤ x47.ticket))) else (some false)) fun s45 => if s45 = true then some (.rt 5) else Option.bind (route_position people x29.person) fun x57 => if (decide (x57 < 0)) = true then some (.rt 7) else if ((!(route_within x29.weight 1 20)) || (!(route_within x29.since 0 3000000))) = true then some (.rt 2) else some (.nx ())) l.length 0 ()) fun o6 => o6.andThen (fun y => some y) fun s7 =>
    some 0

/-- porterslodge route CheckHeld -/
noncomputable def route_CheckHeld (people : (List route_Person)) (l : (List route_Held)) : Option Int :=
  Option.bind (route_CheckPeople people) fun x5 =>
  if (x5 != 0) = true then
    some x5
  else
    Option.bind (route_checkHeld people l) fun x10 =>
    some x10

/-- porterslodge route weights -/
def route_weights (people : (List route_Person)) (held : (List route_Held)) : Option (List Int) :=
  Option.bind (makeL 35184372088832 (people.length : Int) (0 : Int)) fun x5 =>
  Option.bind (rangeB (fun k14 s22 => Option.bind (idx held (k14 : Int)) fun x37 => Option.bind (route_position people x37.person) fun x51 => Option.bind (idx s22 x51) fun x52 => Option.bind (setI s22 x51 (w64 (x52 + x37.weight))) fun x65 => some (.nx x65)) held.length 0 x5) fun o11 => o11.andThen (fun y => some y) fun s12 =>
  some s12

/-- porterslodge route Room -/
noncomputable def route_Room (people : (List route_Person)) (held : (List route_Held)) : Option ((List Int) × Int) :=
  Option.bind (route_CheckHeld people held) fun x5 =>
  if (x5 != 0) = true then
    some (([] : (List Int)), x5)
  else
    Option.bind (route_weights people held) fun x10 =>
    Option.bind (rangeB (fun k21 s29 => Option.bind (idx people (k21 : Int)) fun x44 => Option.bind (idx s29 (k21 : Int)) fun x63 => Option.bind (setI s29 (k21 : Int) (w64 (x44.capacity - x63))) fun x75 => some (.nx x75)) people.length 0 x10) fun o18 => o18.andThen (fun y => some y) fun s19 =>
    some (s19, 0)

/-- strings.Trim -/
def strings_Trim (s : ByteArray) (cutset : ByteArray) : Option ByteArray :=
  if s.size ≤ 9223372036854775807 ∧ cutset.size < 4294967281 ∧ (cutset.data.toList.all fun b => decide (b.toNat < 128)) = true then some ⟨(Go.Lib.trimS s.data.toList cutset.data.toList).toArray⟩ else none

/-- porterslodge portref2 IsName -/
def portref2_IsName (s : ByteArray) : Option Bool :=
  Option.bind (if (decide ((1 : Int) ≤ (s.size : Int))) = true then (if (decide ((s.size : Int) ≤ 20)) = true then (Option.bind (strings_Trim s (⟨#[97, 98, 99, 100, 101, 102, 103, 104, 105, 106, 107, 108, 109, 110, 111, 112, 113, 114, 115, 116, 117, 118, 119, 120, 121, 122, 48, 49, 50, 51, 52, 53, 54, 55, 56, 57, 95]⟩ : ByteArray)) fun x11 => some (strEq x11 (⟨#[]⟩ : ByteArray))) else (some false)) else (if false = true then (Option.bind (strings_Trim s (⟨#[97, 98, 99, 100, 101, 102, 103, 104, 105, 106, 107, 108, 109, 110, 111, 112, 113, 114, 115, 116, 117, 118, 119, 120, 121, 122, 48, 49, 50, 51, 52, 53, 54, 55, 56, 57, 95]⟩ : ByteArray)) fun x18 => some (strEq x18 (⟨#[]⟩ : ByteArray))) else (some false))) fun s2 =>
  some s2

/-- porterslodge portref2 skillsFault -/
def portref2_skillsFault (l : (List route_Skill)) : Option Int :=
  if (decide ((12 : Int) < (l.length : Int))) = true then
    some 4
  else
    Option.bind (rangeB (fun k7 _ => Option.bind (idx l (k7 : Int)) fun x27 => Option.bind (portref2_IsName x27.name) fun x41 => if (!x41) = true then some (.rt 3) else Option.bind (if (decide ((0 : Int) < (k7 : Int))) = true then (Option.bind (idx l (w64 ((k7 : Int) - 1))) fun x49 => some (strLt x27.name x49.name || strEq x27.name x49.name)) else (some false)) fun s47 => if s47 = true then some (.rt 5) else if ((decide (x27.rank < 1)) || (decide ((9 : Int) < x27.rank))) = true then some (.rt 2) else some (.nx ())) l.length 0 ()) fun o4 => o4.andThen (fun y => some y) fun s5 =>
    some 0

/-- porterslodge portref2 PeopleFault -/
def portref2_PeopleFault (l : (List route_Person)) : Option Int :=
  if (decide ((40 : Int) < (l.length : Int))) = true then
    some 4
  else
    Option.bind (rangeB (fun k7 _ => Option.bind (idx l (k7 : Int)) fun x27 => if ((decide (x27.no < 1)) || (decide ((40 : Int) < x27.no))) = true then some (.rt 2) else Option.bind (if (decide ((0 : Int) < (k7 : Int))) = true then (Option.bind (idx l (w64 ((k7 : Int) - 1))) fun x53 => some (decide (x27.no ≤ x53.no))) else (some false)) fun s51 => if s51 = true then some (.rt 5) else if ((((decide (x27.capacity < 0)) || (decide ((100 : Int) < x27.capacity))) || (decide (x27.calendar < 0))) || (decide ((20 : Int) ≤ x27.calendar))) = true then some (.rt 2) else Option.bind (portref2_skillsFault x27.skills) fun x77 => if (x77 != 0) = true then some (.rt x77) else some (.nx ())) l.length 0 ()) fun o4 => o4.andThen (fun y => some y) fun s5 =>
    some 0

/-- porterslodge portref2 personAt 1 -/
def portref2_personAt_1 (p : route_Person) (p1 : Int) : Option Bool :=
  some (p.no == p1)

/-- porterslodge portref2 personAt -/
def portref2_personAt (people : (List route_Person)) (no : Int) : Option Int :=
  Option.bind (slices_IndexFunc_Lroute_Person_route_Person people (fun y9 => portref2_personAt_1 y9 no)) fun x10 =>
  some x10

/-- porterslodge portref2 IsMoment -/
def portref2_IsMoment (m : Int) : Bool :=
  ((decide ((0 : Int) ≤ m)) && (decide (m ≤ 3000000)))

/-- porterslodge portref2 heldAlone -/
def portref2_heldAlone (people : (List route_Person)) (l : (List route_Held)) : Option Int :=
  if (decide ((400 : Int) < (l.length : Int))) = true then
    some 4
  else
    Option.bind (rangeB (fun k9 _ => Option.bind (idx l (k9 : Int)) fun x29 => if ((decide (x29.ticket < 1)) || (decide ((400 : Int) < x29.ticket))) = true then some (.rt 2) else Option.bind (if (decide ((0 : Int) < (k9 : Int))) = true then (Option.bind (idx l (w64 ((k9 : Int) - 1))) fun x50 => some (decide (x29.ticket ≤ x50.ticket))) else (some false)) fun s48 => if s48 = true then some (.rt 5) else Option.bind (portref2_personAt people x29.person) fun x60 => if (decide (x60 < 0)) = true then some (.rt 7) else if (((decide (x29.weight < 1)) || (decide ((20 : Int) < x29.weight))) || (!(portref2_IsMoment x29.since))) = true then some (.rt 2) else some (.nx ())) l.length 0 ()) fun o6 => o6.andThen (fun y => some y) fun s7 =>
    some 0

/-- porterslodge portref2 HeldFault -/
def portref2_HeldFault (people : (List route_Person)) (l : (List route_Held)) : Option Int :=
  Option.bind (portref2_PeopleFault people) fun x5 =>
  if (x5 != 0) = true then
    some x5
  else
    Option.bind (portref2_heldAlone people l) fun x10 =>
    some x10

/-- porterslodge portref2 weightOf -/
def portref2_weightOf (held : (List route_Held)) (no : Int) : Option (Int × Int) :=
  Option.bind (rangeB (fun k6 s12 => Option.bind (Option.bind (idx held (k6 : Int)) fun x33 => Option.bind (if (x33.person == no) = true then some (w64 (s12.1 + x33.weight), (if s12.2 < x33.since then x33.since else s12.2)) else some (s12.1, s12.2)) fun s48 => some (s48.1, s48.2)) fun s26 => some (.nx (s26.1, s26.2))) held.length 0 (0, (-1))) fun o3 => o3.andThen (fun y => some y) fun s4 =>
  some (s4.1, s4.2)

/-- porterslodge portref2 RoomOf -/
def portref2_RoomOf (people : (List route_Person)) (held : (List route_Held)) : Option ((List Int) × Int) :=
  Option.bind (portref2_HeldFault people held) fun x5 =>
  if (x5 != 0) = true then
    some (([] : (List Int)), x5)
  else
    Option.bind (rangeB (fun k13 s21 => Option.bind (idx people (k13 : Int)) fun x36 => Option.bind (portref2_weightOf held x36.no) fun x55 => Option.bind (appendL 17592186044416 s21 ([w64 (x36.capacity - x55.1)] : List Int)) fun x65 => some (.nx x65)) people.length 0 ([] : (List Int))) fun o10 => o10.andThen (fun y => some y) fun s11 =>
    some (s11, 0)

/-- porterslodge route Spread -/
noncomputable def route_Spread (people : (List route_Person)) (held : (List route_Held)) : Option (Int × Int × Int) :=
  Option.bind (route_CheckHeld people held) fun x5 =>
  if (x5 != 0) = true then
    some (0, 0, x5)
  else
    Option.bind (route_weights people held) fun x10 =>
    Option.bind (rangeB (fun k21 s25 => Option.bind (Option.bind (idx x10 (k21 : Int)) fun x42 => Option.bind (idx people (k21 : Int)) fun x47 => if (x47.capacity == 0) = true then some (s25.1, s25.2) else Option.bind (quo (w64 (x42 * 1000)) x47.capacity) fun x58 => Option.bind (if ((decide (s25.1 < 0)) || (decide (x58 < s25.1))) = true then some x58 else some s25.1) fun s62 => some (s62, (if s25.2 < x58 then x58 else s25.2))) fun s37 => some (.nx (s37.1, s37.2))) x10.length 0 ((-1), (-1))) fun o18 => o18.andThen (fun y => some y) fun s19 =>
    if (decide (s19.1 < 0)) = true then
      some (0, 0, 7)
    else
      some (s19.1, s19.2, 0)

/-- slices Min int int -/
noncomputable def slices_Min_Lint_int (x : (List Int)) : Option Int :=
  if (decide ((x.length : Int) < 1)) = true then
    none
  else
    Option.bind (idx x 0) fun x4 =>
    Option.bind (whileB (fun s15 => if (decide (s15.2 < (x.length : Int))) = true then Option.bind (idx x s15.2) fun x26 => some (.nx ((if x26 < s15.1 then x26 else s15.1), w64 (s15.2 + 1))) else some (.bk (s15.1, s15.2))) (x4, 1)) fun o8 => o8.andThen (fun y => some y) fun s9 =>
    some s9.1

/-- slices Max int int -/
noncomputable def slices_Max_Lint_int (x : (List Int)) : Option Int :=
  if (decide ((x.length : Int) < 1)) = true then
    none
  else
    Option.bind (idx x 0) fun x4 =>
    Option.bind (whileB (fun s15 => if (decide (s15.2 < (x.length : Int))) = true then Option.bind (idx x s15.2) fun x26 => some (.nx ((if s15.1 < x26 then x26 else s15.1), w64 (s15.2 + 1))) else some (.bk (s15.1, s15.2))) (x4, 1)) fun o8 => o8.andThen (fun y => some y) fun s9 =>
    some s9.1

/-- porterslodge portref2 SpreadOf -/
noncomputable def portref2_SpreadOf (people : (List route_Person)) (held : (List route_Held)) : Option (Int × Int × Int) :=
  Option.bind (portref2_HeldFault people held) fun x5 =>
  if (x5 != 0) = true then
    some (0, 0, x5)
  else
    Option.bind (rangeB (fun k13 s21 => Option.bind (Option.bind (idx people (k13 : Int)) fun x46 => Option.bind (if (decide ((0 : Int) < x46.capacity)) = true then Option.bind (portref2_weightOf held x46.no) fun x77 => Option.bind (quo (w64 (1000 * x77.1)) x46.capacity) fun x82 => Option.bind (appendL 17592186044416 s21 ([x82] : List Int)) fun x88 => some x88 else some s21) fun s66 => some s66) fun s37 => some (.nx s37)) people.length 0 ([] : (List Int))) fun o10 => o10.andThen (fun y => some y) fun s11 =>
    if ((s11.length : Int) == 0) = true then
      some (0, 0, 7)
    else
      Option.bind (slices_Min_Lint_int s11) fun x101 =>
      Option.bind (slices_Max_Lint_int s11) fun x105 =>
      some (x101, x105, 0)

/-- slices Equal int int -/
def slices_Equal_Lint_int (s1 : (List Int)) (s2 : (List Int)) : Option Bool :=
  if ((s1.length : Int) != (s2.length : Int)) = true then
    some false
  else
    Option.bind (rangeB (fun k9 _ => Option.bind (idx s1 (k9 : Int)) fun x29 => Option.bind (idx s2 (k9 : Int)) fun x33 => if (x29 != x33) = true then some (.rt false) else some (.nx ())) s1.length 0 ()) fun o6 => o6.andThen (fun y => some y) fun s7 =>
    some true

/-- porterslodge portlaw2 RouteRoom -/
noncomputable def portlaw2_RouteRoom (people : (List route_Person)) (held : (List route_Held)) : Option Bool :=
  Option.bind (route_Room people held) fun x5 =>
  Option.bind (portref2_RoomOf people held) fun x14 =>
  Option.bind (route_Spread people held) fun x22 =>
  Option.bind (portref2_SpreadOf people held) fun x26 =>
  Option.bind (if (x5.2 == x14.2) = true then (if (x22.2.2 == x26.2.2) = true then (Option.bind (slices_Equal_Lint_int x5.1 x14.1) fun x40 => if x40 = true then (if (x22.1 == x26.1) = true then (if (x22.2.1 == x26.2.1) = true then (Option.bind (route_CheckHeld people held) fun x47 => Option.bind (portref2_HeldFault people held) fun x51 => some (x47 == x51)) else (some false)) else (if false = true then (Option.bind (route_CheckHeld people held) fun x58 => Option.bind (portref2_HeldFault people held) fun x62 => some (x58 == x62)) else (some false))) else (if false = true then (if (x22.2.1 == x26.2.1) = true then (Option.bind (route_CheckHeld people held) fun x70 => Option.bind (portref2_HeldFault people held) fun x74 => some (x70 == x74)) else (some false)) else (if false = true then (Option.bind (route_CheckHeld people held) fun x81 => Option.bind (portref2_HeldFault people held) fun x85 => some (x81 == x85)) else (some false)))) else (if false = true then (if (x22.1 == x26.1) = true then (if (x22.2.1 == x26.2.1) = true then (Option.bind (route_CheckHeld people held) fun x94 => Option.bind (portref2_HeldFault people held) fun x98 => some (x94 == x98)) else (some false)) else (if false = true then (Option.bind (route_CheckHeld people held) fun x105 => Option.bind (portref2_HeldFault people held) fun x109 => some (x105 == x109)) else (some false))) else (if false = true then (if (x22.2.1 == x26.2.1) = true then (Option.bind (route_CheckHeld people held) fun x117 => Option.bind (portref2_HeldFault people held) fun x121 => some (x117 == x121)) else (some false)) else (if false = true then (Option.bind (route_CheckHeld people held) fun x128 => Option.bind (portref2_HeldFault people held) fun x132 => some (x128 == x132)) else (some false))))) else (if false = true then (Option.bind (slices_Equal_Lint_int x5.1 x14.1) fun x139 => if x139 = true then (if (x22.1 == x26.1) = true then (if (x22.2.1 == x26.2.1) = true then (Option.bind (route_CheckHeld people held) fun x146 => Option.bind (portref2_HeldFault people held) fun x150 => some (x146 == x150)) else (some false)) else (if false = true then (Option.bind (route_CheckHeld people held) fun x157 => Option.bind (portref2_HeldFault people held) fun x161 => some (x157 == x161)) else (some false))) else (if false = true then (if (x22.2.1 == x26.2.1) = true then (Option.bind (route_CheckHeld people held) fun x169 => Option.bind (portref2_HeldFault people held) fun x173 => some (x169 == x173)) else (some false)) else (if false = true then (Option.bind (route_CheckHeld people held) fun x180 => Option.bind (portref2_HeldFault people held) fun x184 => some (x180 == x184)) else (some false)))) else (if false = true then (if (x22.1 == x26.1) = true then (if (x22.2.1 == x26.2.1) = true then (Option.bind (route_CheckHeld people held) fun x193 => Option.bind (portref2_HeldFault people held) fun x197 => some (x193 == x197)) else (some false)) else (if false = true then (Option.bind (route_CheckHeld people held) fun x204 => Option.bind (portref2_HeldFault people held) fun x208 => some (x204 == x208)) else (some false))) else (if false = true then (if (x22.2.1 == x26.2.1) = true then (Option.bind (route_CheckHeld people held) fun x216 => Option.bind (portref2_HeldFault people held) fun x220 => some (x216 == x220)) else (some false)) else (if false = true then (Option.bind (route_CheckHeld people held) fun x227 => Option.bind (portref2_HeldFault people held) fun x231 => some (x227 == x231)) else (some false)))))) fun s31 =>
  some s31

end Go.Proofs.YtigplgkbilmabaaDoor.M
