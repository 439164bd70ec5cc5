/-
  Written by program (gen.py) from the IR of the dump: plain models of the functions.
-/
import Derived.Test.YthhgggkhlcnbhaaDoorPu
import Derived.Lib.ItoaNum
import Derived.Lib.Join
import Derived.Lib.SlTrimSet
import Derived.Test.YthhgggkhlcnbhaaDoorPj
namespace Go.Proofs.YthhgggkhlcnbhaaDoor.M
open Go Go.Pu
set_option linter.unusedVariables false
set_option linter.unusedSimpArgs false

structure route_Skill where
  name : ByteArray
  rank : Int

structure route_Person where
  no : Int
  capacity : Int
  calendar : Int
  skills : (List route_Skill)

structure route_Work where
  ticket : Int
  weight : Int
  urgency : Int
  since : Int
  former : Int
  needs : (List route_Skill)

structure route_Step where
  after : Int
  lower : Int
  any : Bool

/-- porterslodge route within -/
def route_within (n : Int) (low : Int) (high : Int) : Bool :=
  ((decide (low ≤ n)) && (decide (n ≤ high)))

/-- porterslodge route name -/
noncomputable def route_name (s : ByteArray) : Option Bool :=
  Option.bind (whileB (fun s8 => if (decide (s8 < (s.size : Int))) = true then Option.bind (idxS s s8) fun x18 => if (((!((decide ((97 : Int) ≤ (x18.toNat : Int))) && (decide ((x18.toNat : Int) ≤ 122)))) && (!((decide ((48 : Int) ≤ (x18.toNat : Int))) && (decide ((x18.toNat : Int) ≤ 57))))) && ((x18.toNat : Int) != 95)) = true then some (.rt false) else some (.nx (w64 (s8 + 1))) else some (.bk s8)) 0) fun o1 => o1.andThen (fun y => some y) fun s2 =>
  some ((!(strEq s (⟨#[]⟩ : ByteArray))) && (decide ((s.size : Int) ≤ 20)))

/-- porterslodge route checkSkills -/
noncomputable def route_checkSkills (l : (List route_Skill)) : Option Int :=
  if (decide ((12 : Int) < (l.length : Int))) = true then
    some 4
  else
    Option.bind (rangeB (fun k7 _ => Option.bind (idx l (k7 : Int)) fun x27 => Option.bind (route_name x27.name) fun x41 => if (!x41) = true then some (.rt 3) else Option.bind (if (decide ((0 : Int) < (k7 : Int))) = true then (Option.bind (idx l (w64 ((k7 : Int) - 1))) fun x46 => some (strLt x27.name x46.name || strEq x27.name x46.name)) else (some false)) fun s44 => if s44 = true then some (.rt 5) else if (!(route_within x27.rank 1 9)) = true then some (.rt 2) else some (.nx ())) l.length 0 ()) fun o4 => o4.andThen (fun y => some y) fun s5 =>
    some 0

/-- porterslodge route CheckPeople -/
noncomputable def route_CheckPeople (l : (List route_Person)) : Option Int :=
  if (decide ((40 : Int) < (l.length : Int))) = true then
    some 4
  else
    Option.bind (rangeB (fun k7 _ => Option.bind (idx l (k7 : Int)) fun x27 => if (!(route_within x27.no 1 40)) = true then some (.rt 2) else Option.bind (if (decide ((0 : Int) < (k7 : Int))) = true then (Option.bind (idx l (w64 ((k7 : Int) - 1))) fun x50 => some (decide (x27.no ≤ x50.no))) else (some false)) fun s48 => if s48 = true then some (.rt 5) else if ((!(route_within x27.capacity 0 100)) || (!(route_within x27.calendar 0 19))) = true then some (.rt 2) else Option.bind (route_checkSkills x27.skills) fun x68 => if (x68 != 0) = true then some (.rt x68) else some (.nx ())) l.length 0 ()) fun o4 => o4.andThen (fun y => some y) fun s5 =>
    some 0

/-- strconv.Itoa -/
def strconv_Itoa (n : Int) : Option ByteArray :=
  if -9223372036854775808 ≤ n ∧ n ≤ 9223372036854775807 then some ⟨(Go.Lib.itoa n).toArray⟩ else none

/-- strings.Join -/
def strings_Join (elems : List ByteArray) (sep : ByteArray) : Option ByteArray :=
  if elems.length ≤ 140737488355328 ∧ (Go.Lib.join (elems.map (·.data.toList)) sep.data.toList).length ≤ 140737488355328 then some ⟨(Go.Lib.join (elems.map (·.data.toList)) sep.data.toList).toArray⟩ else none

/-- (*strings.Builder).WriteString -/
def strings_Builder_WriteString (b : ByteArray) (s : ByteArray) : Option (Int × Unit × ByteArray) :=
  if b.size + s.size ≤ 140737488355328 then some (s.size, (), b ++ s) else none

/-- (*strings.Builder).String -/
def strings_Builder_String (b : ByteArray) : Option ByteArray := some b

/-- porterslodge route PeopleText -/
noncomputable def route_PeopleText (l : (List route_Person)) : Option (ByteArray × Int) :=
  Option.bind (route_CheckPeople l) fun x3 =>
  if (x3 != 0) = true then
    some ((⟨#[]⟩ : ByteArray), x3)
  else
    Option.bind (rangeB (fun k16 s22 => Option.bind (idx l (k16 : Int)) fun x35 => Option.bind (strconv_Itoa x35.no) fun x54 => Option.bind (strconv_Itoa x35.capacity) fun x56 => Option.bind (strconv_Itoa x35.calendar) fun x58 => Option.bind (rangeB (fun k76 s84 => Option.bind (idx x35.skills (k76 : Int)) fun x99 => Option.bind (strconv_Itoa x99.rank) fun x117 => Option.bind (appendL 8796093022208 s84 ([x99.name, x117] : List ByteArray)) fun x126 => some (.nx x126)) x35.skills.length 0 ([(⟨#[112, 101, 114, 115, 111, 110]⟩ : ByteArray), x54, x56, x58] : List ByteArray)) fun o73 => o73.andThen (fun y => some (.rt y)) fun s74 => Option.bind (strings_Join s74 (⟨#[32]⟩ : ByteArray)) fun x135 => Option.bind (catS x135 (⟨#[10]⟩ : ByteArray)) fun x139 => Option.bind (strings_Builder_WriteString s22 x139) fun x140 => some (.nx x140.2.2)) l.length 0 ByteArray.empty) fun o13 => o13.andThen (fun y => some y) fun s14 =>
    Option.bind (strings_Builder_String s14) fun x148 =>
    some (x148, 0)

/-- strings.Trim -/
def strings_Trim (s : ByteArray) (cutset : ByteArray) : Option ByteArray :=
  if s.size ≤ 9223372036854775807 ∧ cutset.size < 4294967281 ∧ (cutset.data.toList.all fun b => decide (b.toNat < 128)) = true then some ⟨(Go.Lib.trimS s.data.toList cutset.data.toList).toArray⟩ else none

/-- porterslodge portref2 IsName -/
def portref2_IsName (s : ByteArray) : Option Bool :=
  Option.bind (if (decide ((1 : Int) ≤ (s.size : Int))) = true then (if (decide ((s.size : Int) ≤ 20)) = true then (Option.bind (strings_Trim s (⟨#[97, 98, 99, 100, 101, 102, 103, 104, 105, 106, 107, 108, 109, 110, 111, 112, 113, 114, 115, 116, 117, 118, 119, 120, 121, 122, 48, 49, 50, 51, 52, 53, 54, 55, 56, 57, 95]⟩ : ByteArray)) fun x11 => some (strEq x11 (⟨#[]⟩ : ByteArray))) else (some false)) else (if false = true then (Option.bind (strings_Trim s (⟨#[97, 98, 99, 100, 101, 102, 103, 104, 105, 106, 107, 108, 109, 110, 111, 112, 113, 114, 115, 116, 117, 118, 119, 120, 121, 122, 48, 49, 50, 51, 52, 53, 54, 55, 56, 57, 95]⟩ : ByteArray)) fun x18 => some (strEq x18 (⟨#[]⟩ : ByteArray))) else (some false))) fun s2 =>
  some s2

/-- porterslodge portref2 skillsFault -/
def portref2_skillsFault (l : (List route_Skill)) : Option Int :=
  if (decide ((12 : Int) < (l.length : Int))) = true then
    some 4
  else
    Option.bind (rangeB (fun k7 _ => Option.bind (idx l (k7 : Int)) fun x27 => Option.bind (portref2_IsName x27.name) fun x41 => if (!x41) = true then some (.rt 3) else Option.bind (if (decide ((0 : Int) < (k7 : Int))) = true then (Option.bind (idx l (w64 ((k7 : Int) - 1))) fun x49 => some (strLt x27.name x49.name || strEq x27.name x49.name)) else (some false)) fun s47 => if s47 = true then some (.rt 5) else if ((decide (x27.rank < 1)) || (decide ((9 : Int) < x27.rank))) = true then some (.rt 2) else some (.nx ())) l.length 0 ()) fun o4 => o4.andThen (fun y => some y) fun s5 =>
    some 0

/-- porterslodge portref2 PeopleFault -/
def portref2_PeopleFault (l : (List route_Person)) : Option Int :=
  if (decide ((40 : Int) < (l.length : Int))) = true then
    some 4
  else
    Option.bind (rangeB (fun k7 _ => Option.bind (idx l (k7 : Int)) fun x27 => if ((decide (x27.no < 1)) || (decide ((40 : Int) < x27.no))) = true then some (.rt 2) else Option.bind (if (decide ((0 : Int) < (k7 : Int))) = true then (Option.bind (idx l (w64 ((k7 : Int) - 1))) fun x53 => some (decide (x27.no ≤ x53.no))) else (some false)) fun s51 => if s51 = true then some (.rt 5) else if ((((decide (x27.capacity < 0)) || (decide ((100 : Int) < x27.capacity))) || (decide (x27.calendar < 0))) || (decide ((20 : Int) ≤ x27.calendar))) = true then some (.rt 2) else Option.bind (portref2_skillsFault x27.skills) fun x77 => if (x77 != 0) = true then some (.rt x77) else some (.nx ())) l.length 0 ()) fun o4 => o4.andThen (fun y => some y) fun s5 =>
    some 0

/-- porterslodge portref2 line -/
def portref2_line (words : (List AnyV)) : Option ByteArray :=
  Option.bind (rangeB (fun k6 s14 => Option.bind (Option.bind (idx words (k6 : Int)) fun x39 => Option.bind (Option.bind (if x39.asStr.2 = true then Option.bind (appendL 8796093022208 s14 ([x39.asStr.1] : List ByteArray)) fun x69 => some x69 else Option.bind (if x39.asInt.2 = true then Option.bind (strconv_Itoa x39.asInt.1) fun x87 => Option.bind (appendL 8796093022208 s14 ([x87] : List ByteArray)) fun x96 => some x96 else some s14) fun s77 => some s77) fun s54 => some s54) fun s44 => some s44) fun s30 => some (.nx s30)) words.length 0 ([] : (List ByteArray))) fun o3 => o3.andThen (fun y => some y) fun s4 =>
  Option.bind (strings_Join s4 (⟨#[32]⟩ : ByteArray)) fun x110 =>
  Option.bind (catS x110 (⟨#[10]⟩ : ByteArray)) fun x114 =>
  some x114

/-- porterslodge portref2 PeopleString -/
def portref2_PeopleString (l : (List route_Person)) : Option (ByteArray × Int) :=
  Option.bind (portref2_PeopleFault l) fun x3 =>
  if (x3 != 0) = true then
    some ((⟨#[]⟩ : ByteArray), x3)
  else
    Option.bind (rangeB (fun k11 s17 => Option.bind (idx l (k11 : Int)) fun x30 => Option.bind (rangeB (fun k65 s73 => Option.bind (idx x30.skills (k65 : Int)) fun x88 => Option.bind (appendL 8796093022208 s73 ([(AnyV.str x88.name), (AnyV.int x88.rank)] : List AnyV)) fun x108 => some (.nx x108)) x30.skills.length 0 ([(AnyV.str (⟨#[112, 101, 114, 115, 111, 110]⟩ : ByteArray)), (AnyV.int x30.no), (AnyV.int x30.capacity), (AnyV.int x30.calendar)] : List AnyV)) fun o62 => o62.andThen (fun y => some (.rt y)) fun s63 => Option.bind (portref2_line s63) fun x117 => Option.bind (catS s17 x117) fun x121 => some (.nx x121)) l.length 0 (⟨#[]⟩ : ByteArray)) fun o8 => o8.andThen (fun y => some y) fun s9 =>
    some (s9, 0)

/-- slices IndexFunc porterslodge route Work porterslodge route Work -/
def slices_IndexFunc_Lroute_Work_route_Work (s : (List route_Work)) (f : route_Work → Option Bool) : Option Int :=
  Option.bind (rangeB (fun k6 _ => Option.bind (idx s (k6 : Int)) fun x25 => Option.bind (f x25) fun x32 => if x32 = true then some (.rt (k6 : Int)) else some (.nx ())) s.length 0 ()) fun o3 => o3.andThen (fun y => some y) fun s4 =>
  some (-1)

/-- slices ContainsFunc porterslodge route Work porterslodge route Work -/
def slices_ContainsFunc_Lroute_Work_route_Work (s : (List route_Work)) (f : route_Work → Option Bool) : Option Bool :=
  Option.bind (slices_IndexFunc_Lroute_Work_route_Work s f) fun x3 =>
  some (decide ((0 : Int) ≤ x3))

/-- porterslodge route CheckWork 1 -/
def route_CheckWork_1 (x : route_Work) (p1 : route_Work) : Option Bool :=
  some (x.ticket == p1.ticket)

/-- porterslodge route CheckWork -/
noncomputable def route_CheckWork (l : (List route_Work)) : Option Int :=
  if (decide ((200 : Int) < (l.length : Int))) = true then
    some 4
  else
    Option.bind (rangeB (fun k7 _ => Option.bind (idx l (k7 : Int)) fun x27 => if (!(route_within x27.ticket 1 400)) = true then some (.rt 2) else Option.bind (sliceL l none (some (k7 : Int))) fun x47 => Option.bind (slices_ContainsFunc_Lroute_Work_route_Work x47 (fun y50 => route_CheckWork_1 y50 x27)) fun x51 => if x51 = true then some (.rt 6) else if ((((!(route_within x27.weight 1 20)) || (!(route_within x27.urgency 0 9))) || (!(route_within x27.since 0 3000000))) || (!(route_within x27.former 0 40))) = true then some (.rt 2) else Option.bind (route_checkSkills x27.needs) fun x81 => if (x81 != 0) = true then some (.rt x81) else some (.nx ())) l.length 0 ()) fun o4 => o4.andThen (fun y => some y) fun s5 =>
    some 0

/-- porterslodge portref2 WorkFault 1 -/
def portref2_WorkFault_1 (x : route_Work) (p1 : route_Work) : Option Bool :=
  some (x.ticket == p1.ticket)

/-- porterslodge portref2 IsMoment -/
def portref2_IsMoment (m : Int) : Bool :=
  ((decide ((0 : Int) ≤ m)) && (decide (m ≤ 3000000)))

/-- porterslodge portref2 WorkFault -/
def portref2_WorkFault (l : (List route_Work)) : Option Int :=
  if (decide ((200 : Int) < (l.length : Int))) = true then
    some 4
  else
    Option.bind (rangeB (fun k7 _ => Option.bind (idx l (k7 : Int)) fun x27 => if ((decide (x27.ticket < 1)) || (decide ((400 : Int) < x27.ticket))) = true then some (.rt 2) else Option.bind (sliceL l none (some (k7 : Int))) fun x50 => Option.bind (slices_ContainsFunc_Lroute_Work_route_Work x50 (fun y53 => portref2_WorkFault_1 y53 x27)) fun x54 => if x54 = true then some (.rt 6) else if (((((((decide (x27.weight < 1)) || (decide ((20 : Int) < x27.weight))) || (decide (x27.urgency < 0))) || (decide ((9 : Int) < x27.urgency))) || (!(portref2_IsMoment x27.since))) || (decide (x27.former < 0))) || (decide ((40 : Int) < x27.former))) = true then some (.rt 2) else Option.bind (portref2_skillsFault x27.needs) fun x93 => if (x93 != 0) = true then some (.rt x93) else some (.nx ())) l.length 0 ()) fun o4 => o4.andThen (fun y => some y) fun s5 =>
    some 0

/-- porterslodge route CheckSteps -/
def route_CheckSteps (l : (List route_Step)) : Option Int :=
  if (decide ((8 : Int) < (l.length : Int))) = true then
    some 4
  else
    Option.bind (rangeB (fun k7 _ => Option.bind (idx l (k7 : Int)) fun x27 => if ((!(route_within x27.after 1 3000000)) || (!(route_within x27.lower 0 9))) = true then some (.rt 2) else Option.bind (if (decide ((0 : Int) < (k7 : Int))) = true then (Option.bind (idx l (w64 ((k7 : Int) - 1))) fun x48 => some (decide (x27.after ≤ x48.after))) else (some false)) fun s46 => if s46 = true then some (.rt 5) else some (.nx ())) l.length 0 ()) fun o4 => o4.andThen (fun y => some y) fun s5 =>
    some 0

/-- porterslodge portref2 StepsFault -/
def portref2_StepsFault (l : (List route_Step)) : Option Int :=
  if (decide ((8 : Int) < (l.length : Int))) = true then
    some 4
  else
    Option.bind (rangeB (fun k7 _ => Option.bind (idx l (k7 : Int)) fun x27 => if ((((decide (x27.after < 1)) || (decide ((3000000 : Int) < x27.after))) || (decide (x27.lower < 0))) || (decide ((9 : Int) < x27.lower))) = true then some (.rt 2) else Option.bind (if (decide ((0 : Int) < (k7 : Int))) = true then (Option.bind (idx l (w64 ((k7 : Int) - 1))) fun x54 => some (decide (x27.after ≤ x54.after))) else (some false)) fun s52 => if s52 = true then some (.rt 5) else some (.nx ())) l.length 0 ()) fun o4 => o4.andThen (fun y => some y) fun s5 =>
    some 0

/-- porterslodge portlaw2 RouteChecks -/
noncomputable def portlaw2_RouteChecks (people : (List route_Person)) (work : (List route_Work)) (steps : (List route_Step)) : Option Bool :=
  Option.bind (route_PeopleText people) fun x7 =>
  Option.bind (portref2_PeopleString people) fun x12 =>
  Option.bind (if (strEq x7.1 x12.1) = true then (if (x7.2 == x12.2) = true then (Option.bind (route_CheckPeople people) fun x26 => Option.bind (portref2_PeopleFault people) fun x30 => if (x26 == x30) = true then (Option.bind (route_CheckWork work) fun x35 => Option.bind (portref2_WorkFault work) fun x39 => if (x35 == x39) = true then (Option.bind (route_CheckSteps steps) fun x44 => Option.bind (portref2_StepsFault steps) fun x48 => some (x44 == x48)) else (some false)) else (if false = true then (Option.bind (route_CheckSteps steps) fun x55 => Option.bind (portref2_StepsFault steps) fun x59 => some (x55 == x59)) else (some false))) else (if false = true then (Option.bind (route_CheckWork work) fun x66 => Option.bind (portref2_WorkFault work) fun x70 => if (x66 == x70) = true then (Option.bind (route_CheckSteps steps) fun x75 => Option.bind (portref2_StepsFault steps) fun x79 => some (x75 == x79)) else (some false)) else (if false = true then (Option.bind (route_CheckSteps steps) fun x86 => Option.bind (portref2_StepsFault steps) fun x90 => some (x86 == x90)) else (some false)))) else (if false = true then (Option.bind (route_CheckPeople people) fun x97 => Option.bind (portref2_PeopleFault people) fun x101 => if (x97 == x101) = true then (Option.bind (route_CheckWork work) fun x106 => Option.bind (portref2_WorkFault work) fun x110 => if (x106 == x110) = true then (Option.bind (route_CheckSteps steps) fun x115 => Option.bind (portref2_StepsFault steps) fun x119 => some (x115 == x119)) else (some false)) else (if false = true then (Option.bind (route_CheckSteps steps) fun x126 => Option.bind (portref2_StepsFault steps) fun x130 => some (x126 == x130)) else (some false))) else (if false = true then (Option.bind (route_CheckWork work) fun x137 => Option.bind (portref2_WorkFault work) fun x141 => if (x137 == x141) = true then (Option.bind (route_CheckSteps steps) fun x146 => Option.bind (portref2_StepsFault steps) fun x150 => some (x146 == x150)) else (some false)) else (if false = true then (Option.bind (route_CheckSteps steps) fun x157 => Option.bind (portref2_StepsFault steps) fun x161 => some (x157 == x161)) else (some false))))) fun s17 =>
  some s17

end Go.Proofs.YthhgggkhlcnbhaaDoor.M
