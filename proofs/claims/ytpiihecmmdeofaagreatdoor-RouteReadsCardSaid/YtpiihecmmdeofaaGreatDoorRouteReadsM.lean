/-
  Written by program (gen.py) from the IR of the dump: plain models of the functions.
-/
import Derived.Test.YtpiihecmmdeofaaGreatDoorPu
import Derived.Lib.Index
import Derived.Lib.AtoiAll
import Derived.Lib.ItoaNum
import Derived.Lib.SlTrimSet
import Derived.Lib.Split
namespace Go.Proofs.YtpiihecmmdeofaaGreatDoor.M
open Go Go.Pu
set_option linter.unusedVariables false
set_option linter.unusedSimpArgs false

structure route_Skill where
  name : ByteArray
  rank : Int

structure route_Person where
  no : Int
  capacity : Int
  calendar : Int
  skills : (List route_Skill)

/-- internal/stringslite.Index -/
def internal_stringslite_Index (s : ByteArray) (substr : ByteArray) : Option Int :=
  match substr.data.toList with
  | [c] => some (Go.Lib.indexByte s.data.toList c)
  | _ => none

/-- internal stringslite Cut -/
def internal_stringslite_Cut (s : ByteArray) (sep : ByteArray) : Option (ByteArray × ByteArray × Bool) :=
  Option.bind (internal_stringslite_Index s sep) fun x1 =>
  if (decide ((0 : Int) ≤ x1)) = true then
    Option.bind (sliceS s none (some x1)) fun x6 =>
    Option.bind (sliceS s (some (w64 (x1 + (sep.size : Int)))) none) fun x7 =>
    some (x6, x7, true)
  else
    some (s, (⟨#[]⟩ : ByteArray), false)

/-- strings Cut -/
def strings_Cut (s : ByteArray) (sep : ByteArray) : Option (ByteArray × ByteArray × Bool) :=
  Option.bind (internal_stringslite_Cut s sep) fun x1 =>
  some (x1.1, x1.2.1, x1.2.2)

/-- strings.genSplit -/
def strings_genSplit (s : ByteArray) (sep : ByteArray) (sepSave : Int) (n : Int) : Option (List ByteArray) :=
  if s.size < 4294967281 ∧ 1 ≤ sep.size ∧ 0 ≤ sepSave ∧ sepSave ≤ (sep.size : Int) ∧ n = -1 then some (Go.Lib.splitB sep sepSave.toNat (min (Go.Lib.countB s sep + 1) (s.size + 1) - 1) s) else none

/-- strings Split -/
def strings_Split (s : ByteArray) (sep : ByteArray) : Option (List ByteArray) :=
  Option.bind (strings_genSplit s sep 0 (-1)) fun x1 =>
  some x1

/-- strconv.Atoi -/
def strconv_Atoi (s : ByteArray) : Option (Int × Bool) :=
  if s.size ≤ 281474976710656 then some (match Go.Lib.atoiAll s.data.toList with | .ok v => (v, false) | .range => (Go.Lib.atoiSat s.data.toList, true) | _ => (0, true)) else none

/-- strconv.Itoa -/
def strconv_Itoa (n : Int) : Option ByteArray :=
  if -9223372036854775808 ≤ n ∧ n ≤ 9223372036854775807 then some ⟨(Go.Lib.itoa n).toArray⟩ else none

/-- internal stringslite HasPrefix -/
def internal_stringslite_HasPrefix (s : ByteArray) (prefix_ : ByteArray) : Option Bool :=
  Option.bind (if (decide ((prefix_.size : Int) ≤ (s.size : Int))) = true then (Option.bind (sliceS s none (some (prefix_.size : Int))) fun x3 => some (strEq x3 prefix_)) else (some false)) fun s2 =>
  some s2

/-- internal stringslite TrimPrefix -/
def internal_stringslite_TrimPrefix (s : ByteArray) (prefix_ : ByteArray) : Option ByteArray :=
  Option.bind (internal_stringslite_HasPrefix s prefix_) fun x1 =>
  if x1 = true then
    Option.bind (sliceS s (some (prefix_.size : Int)) none) fun x3 =>
    some x3
  else
    some s

/-- strings TrimPrefix -/
def strings_TrimPrefix (s : ByteArray) (prefix_ : ByteArray) : Option ByteArray :=
  Option.bind (internal_stringslite_TrimPrefix s prefix_) fun x1 =>
  some x1

/-- porterslodge route number -/
def route_number (s : ByteArray) : Option (Int × Bool) :=
  Option.bind (strconv_Atoi s) fun x1 =>
  Option.bind (if x1.2 = true then (if true = true then (some true) else (Option.bind (strings_TrimPrefix s (⟨#[45]⟩ : ByteArray)) fun x18 => some (decide ((9 : Int) < (x18.size : Int))))) else (Option.bind (strconv_Itoa x1.1) fun x20 => if (!(strEq x20 s)) = true then (some true) else (Option.bind (strings_TrimPrefix s (⟨#[45]⟩ : ByteArray)) fun x26 => some (decide ((9 : Int) < (x26.size : Int)))))) fun s8 =>
  if s8 = true then
    some (0, false)
  else
    some (x1.1, true)

/-- porterslodge route readPerson -/
noncomputable def route_readPerson (line : ByteArray) : Option (route_Person × Bool) :=
  Option.bind (strings_Split line (⟨#[32]⟩ : ByteArray)) fun x11 =>
  Option.bind (if ((decide ((x11.length : Int) < 4)) || ((Int.tmod (x11.length : Int) 2) != 0)) = true then (some true) else (Option.bind (idx x11 0) fun x21 => some (!(strEq x21 (⟨#[112, 101, 114, 115, 111, 110]⟩ : ByteArray))))) fun s20 =>
  if s20 = true then
    some ((⟨0, 0, 0, ([] : (List route_Skill))⟩ : route_Person), false)
  else
    Option.bind (rangeB (fun k37 s47 => if (decide ((k37 : Int) = 0)) = true then (Option.bind (idx x11 (w64 (1 + (k37 : Int)))) fun x69 => Option.bind (route_number x69) fun x73 => if (!x73.2) = true then some (.rt (s47.1, false)) else some (.nx ((⟨x73.1, s47.1.capacity, s47.1.calendar, s47.1.skills⟩ : route_Person), s47.2))) else (if (decide ((k37 : Int) = 1)) = true then (Option.bind (idx x11 (w64 (1 + (k37 : Int)))) fun x98 => Option.bind (route_number x98) fun x102 => if (!x102.2) = true then some (.rt (s47.1, false)) else some (.nx ((⟨s47.1.no, x102.1, s47.1.calendar, s47.1.skills⟩ : route_Person), s47.2))) else (Option.bind (idx x11 (w64 (1 + (k37 : Int)))) fun x127 => Option.bind (route_number x127) fun x131 => if (!x131.2) = true then some (.rt (s47.1, false)) else some (.nx ((⟨s47.1.no, s47.1.capacity, x131.1, s47.1.skills⟩ : route_Person), s47.2))))) (([(), (), ()] : List Unit).length) 0 ((⟨0, 0, 0, ([] : (List route_Skill))⟩ : route_Person), (⟨0, 0, 0, ([] : (List route_Skill))⟩ : route_Person))) fun o34 => o34.andThen (fun y => some y) fun s35 =>
    Option.bind (whileB (fun s166 => if (decide (s166.1 < (x11.length : Int))) = true then Option.bind (idx x11 (w64 (s166.1 + 1))) fun x182 => Option.bind (route_number x182) fun x186 => Option.bind (if (!x186.2) = true then (some true) else (Option.bind (idx x11 s166.1) fun x192 => some (strEq x192 (⟨#[]⟩ : ByteArray)))) fun s191 => if s191 = true then some (.rt (s166.2.1, false)) else Option.bind (idx x11 s166.1) fun x211 => Option.bind (appendL 5864062014805 s166.2.1.skills ([(⟨x211, x186.1⟩ : route_Skill)] : List route_Skill)) fun x220 => some (.nx (w64 (s166.1 + 2), (⟨s166.2.1.no, s166.2.1.capacity, s166.2.1.calendar, x220⟩ : route_Person), s166.2.2)) else some (.bk (s166.1, s166.2.1, s166.2.2))) (4, s35.1, s35.2)) fun o153 => o153.andThen (fun y => some y) fun s154 =>
    some (s154.2.1, true)

/-- porterslodge route within -/
def route_within (n : Int) (low : Int) (high : Int) : Bool :=
  ((decide (low ≤ n)) && (decide (n ≤ high)))

/-- porterslodge route name -/
noncomputable def route_name (s : ByteArray) : Option Bool :=
  Option.bind (whileB (fun s8 => if (decide (s8 < (s.size : Int))) = true then Option.bind (idxS s s8) fun x18 => if (((!((decide ((97 : Int) ≤ (x18.toNat : Int))) && (decide ((x18.toNat : Int) ≤ 122)))) && (!((decide ((48 : Int) ≤ (x18.toNat : Int))) && (decide ((x18.toNat : Int) ≤ 57))))) && ((x18.toNat : Int) != 95)) = true then some (.rt false) else some (.nx (w64 (s8 + 1))) else some (.bk s8)) 0) fun o1 => o1.andThen (fun y => some y) fun s2 =>
  some ((!(strEq s (⟨#[]⟩ : ByteArray))) && (decide ((s.size : Int) ≤ 20)))

/-- porterslodge route checkSkills -/
noncomputable def route_checkSkills (l : (List route_Skill)) : Option Int :=
  if (decide ((12 : Int) < (l.length : Int))) = true then
    some 4
  else
    Option.bind (rangeB (fun k7 _ => Option.bind (idx l (k7 : Int)) fun x27 => Option.bind (route_name x27.name) fun x41 => if (!x41) = true then some (.rt 3) else Option.bind (if (decide ((0 : Int) < (k7 : Int))) = true then (Option.bind (idx l (w64 ((k7 : Int) - 1))) fun x46 => some (strLt x27.name x46.name || strEq x27.name x46.name)) else (some false)) fun s44 => if s44 = true then some (.rt 5) else if (!(route_within x27.rank 1 9)) = true then some (.rt 2) else some (.nx ())) l.length 0 ()) fun o4 => o4.andThen (fun y => some y) fun s5 =>
    some 0

/-- porterslodge route CheckPeople -/
noncomputable def route_CheckPeople (l : (List route_Person)) : Option Int :=
  if (decide ((40 : Int) < (l.length : Int))) = true then
    some 4
  else
    Option.bind (rangeB (fun k7 _ => Option.bind (idx l (k7 : Int)) fun x27 => if (!(route_within x27.no 1 40)) = true then some (.rt 2) else Option.bind (if (decide ((0 : Int) < (k7 : Int))) = true then (Option.bind (idx l (w64 ((k7 : Int) - 1))) fun x50 => some (decide (x27.no ≤ x50.no))) else (some false)) fun s48 => if s48 = true then some (.rt 5) else if ((!(route_within x27.capacity 0 100)) || (!(route_within x27.calendar 0 19))) = true then some (.rt 2) else Option.bind (route_checkSkills x27.skills) fun x68 => if (x68 != 0) = true then some (.rt x68) else some (.nx ())) l.length 0 ()) fun o4 => o4.andThen (fun y => some y) fun s5 =>
    some 0

/-- porterslodge route ReadPeople -/
noncomputable def route_ReadPeople (s : ByteArray) : Option ((List route_Person) × Int × Int) :=
  if (decide ((400000 : Int) < (s.size : Int))) = true then
    some (([] : (List route_Person)), 0, 4)
  else
    Option.bind (whileB (fun s13 => if (!(strEq s13.1 (⟨#[]⟩ : ByteArray))) = true then Option.bind (strings_Cut s13.1 (⟨#[10]⟩ : ByteArray)) fun x27 => Option.bind (route_readPerson x27.1) fun x31 => if ((!x31.2) || (!x27.2.2)) = true then some (.rt (([] : (List route_Person)), s13.2.2, 8)) else Option.bind (appendL 2932031007402 s13.2.1 ([x31.1] : List route_Person)) fun x62 => some (.nx (x27.2.1, x62, w64 (s13.2.2 + 1))) else some (.bk (s13.1, s13.2.1, s13.2.2))) (s, ([] : (List route_Person)), 1)) fun o2 => o2.andThen (fun y => some y) fun s3 =>
    Option.bind (route_CheckPeople s3.2.1) fun x72 =>
    if (x72 != 0) = true then
      some (([] : (List route_Person)), 0, x72)
    else
      some (s3.2.1, 0, 0)

/-- strings SplitAfter -/
def strings_SplitAfter (s : ByteArray) (sep : ByteArray) : Option (List ByteArray) :=
  Option.bind (strings_genSplit s sep (sep.size : Int) (-1)) fun x1 =>
  some x1

/-- internal stringslite HasSuffix -/
def internal_stringslite_HasSuffix (s : ByteArray) (suffix : ByteArray) : Option Bool :=
  Option.bind (if (decide ((suffix.size : Int) ≤ (s.size : Int))) = true then (Option.bind (sliceS s (some (w64 ((s.size : Int) - (suffix.size : Int)))) none) fun x3 => some (strEq x3 suffix)) else (some false)) fun s2 =>
  some s2

/-- internal stringslite CutSuffix -/
def internal_stringslite_CutSuffix (s : ByteArray) (suffix : ByteArray) : Option (ByteArray × Bool) :=
  Option.bind (internal_stringslite_HasSuffix s suffix) fun x1 =>
  if (!x1) = true then
    some (s, false)
  else
    Option.bind (sliceS s none (some (w64 ((s.size : Int) - (suffix.size : Int))))) fun x3 =>
    some (x3, true)

/-- strings CutSuffix -/
def strings_CutSuffix (s : ByteArray) (suffix : ByteArray) : Option (ByteArray × Bool) :=
  Option.bind (internal_stringslite_CutSuffix s suffix) fun x1 =>
  some (x1.1, x1.2)

/-- strings.Trim -/
def strings_Trim (s : ByteArray) (cutset : ByteArray) : Option ByteArray :=
  if s.size ≤ 9223372036854775807 ∧ cutset.size < 4294967281 ∧ (cutset.data.toList.all fun b => decide (b.toNat < 128)) = true then some ⟨(Go.Lib.trimS s.data.toList cutset.data.toList).toArray⟩ else none

/-- porterslodge portref2 digits -/
def portref2_digits (s : ByteArray) (most : Int) : Option Bool :=
  Option.bind (if (!(strEq s (⟨#[]⟩ : ByteArray))) = true then (if (decide ((s.size : Int) ≤ most)) = true then (Option.bind (strings_Trim s (⟨#[48, 49, 50, 51, 52, 53, 54, 55, 56, 57]⟩ : ByteArray)) fun x11 => if (strEq x11 (⟨#[]⟩ : ByteArray)) = true then (if ((s.size : Int) == 1) = true then (some true) else (Option.bind (idxS s 0) fun x18 => some ((x18.toNat : Int) != 48))) else (some false)) else (if false = true then (if ((s.size : Int) == 1) = true then (some true) else (Option.bind (idxS s 0) fun x24 => some ((x24.toNat : Int) != 48))) else (some false))) else (if false = true then (Option.bind (strings_Trim s (⟨#[48, 49, 50, 51, 52, 53, 54, 55, 56, 57]⟩ : ByteArray)) fun x28 => if (strEq x28 (⟨#[]⟩ : ByteArray)) = true then (if ((s.size : Int) == 1) = true then (some true) else (Option.bind (idxS s 0) fun x35 => some ((x35.toNat : Int) != 48))) else (some false)) else (if false = true then (if ((s.size : Int) == 1) = true then (some true) else (Option.bind (idxS s 0) fun x41 => some ((x41.toNat : Int) != 48))) else (some false)))) fun s2 =>
  some s2

/-- porterslodge portref2 number -/
def portref2_number (s : ByteArray) (most : Int) : Option (Int × Bool) :=
  Option.bind (strings_TrimPrefix s (⟨#[45]⟩ : ByteArray)) fun x1 =>
  Option.bind (portref2_digits x1 most) fun x2 =>
  if ((!x2) || ((strEq x1 (⟨#[48]⟩ : ByteArray)) && (!(strEq s (⟨#[48]⟩ : ByteArray))))) = true then
    some (0, false)
  else
    Option.bind (strconv_Atoi s) fun x11 =>
    some (x11.1, (!x11.2))

/-- porterslodge portref2 readPerson -/
noncomputable def portref2_readPerson (t : ByteArray) : Option (route_Person × Bool) :=
  Option.bind (strings_Split t (⟨#[32]⟩ : ByteArray)) fun x6 =>
  Option.bind (if (decide ((x6.length : Int) < 4)) = true then (some true) else (Option.bind (idx x6 0) fun x14 => some (!(strEq x14 (⟨#[112, 101, 114, 115, 111, 110]⟩ : ByteArray))))) fun s13 =>
  if (s13 || ((Int.tmod (x6.length : Int) 2) != 0)) = true then
    some ((⟨0, 0, 0, ([] : (List route_Skill))⟩ : route_Person), false)
  else
    Option.bind (rangeB (fun k37 s47 => if (decide ((k37 : Int) = 0)) = true then (Option.bind (idx x6 (w64 ((k37 : Int) + 1))) fun x69 => Option.bind (portref2_number x69 9) fun x73 => if (!x73.2) = true then some (.rt ((⟨0, 0, 0, ([] : (List route_Skill))⟩ : route_Person), false)) else some (.nx ((⟨x73.1, s47.1.capacity, s47.1.calendar, s47.1.skills⟩ : route_Person), s47.2))) else (if (decide ((k37 : Int) = 1)) = true then (Option.bind (idx x6 (w64 ((k37 : Int) + 1))) fun x90 => Option.bind (portref2_number x90 9) fun x94 => if (!x94.2) = true then some (.rt ((⟨0, 0, 0, ([] : (List route_Skill))⟩ : route_Person), false)) else some (.nx ((⟨s47.1.no, x94.1, s47.1.calendar, s47.1.skills⟩ : route_Person), s47.2))) else (Option.bind (idx x6 (w64 ((k37 : Int) + 1))) fun x111 => Option.bind (portref2_number x111 9) fun x115 => if (!x115.2) = true then some (.rt ((⟨0, 0, 0, ([] : (List route_Skill))⟩ : route_Person), false)) else some (.nx ((⟨s47.1.no, s47.1.capacity, x115.1, s47.1.skills⟩ : route_Person), s47.2))))) (([(), (), ()] : List Unit).length) 0 ((⟨0, 0, 0, ([] : (List route_Skill))⟩ : route_Person), (⟨0, 0, 0, ([] : (List route_Skill))⟩ : route_Person))) fun o34 => o34.andThen (fun y => some y) fun s35 =>
    Option.bind (whileB (fun s142 => if (decide (s142.1 < (x6.length : Int))) = true then Option.bind (idx x6 (w64 (s142.1 + 1))) fun x158 => Option.bind (portref2_number x158 9) fun x162 => Option.bind (idx x6 s142.1) fun x166 => if ((strEq x166 (⟨#[]⟩ : ByteArray)) || (!x162.2)) = true then some (.rt ((⟨0, 0, 0, ([] : (List route_Skill))⟩ : route_Person), false)) else Option.bind (appendL 5864062014805 s142.2.1.skills ([(⟨x166, x162.1⟩ : route_Skill)] : List route_Skill)) fun x187 => some (.nx (w64 (s142.1 + 2), (⟨s142.2.1.no, s142.2.1.capacity, s142.2.1.calendar, x187⟩ : route_Person), s142.2.2)) else some (.bk (s142.1, s142.2.1, s142.2.2))) (4, s35.1, s35.2)) fun o129 => o129.andThen (fun y => some y) fun s130 =>
    some (s130.2.1, true)

/-- porterslodge portref2 IsName -/
def portref2_IsName (s : ByteArray) : Option Bool :=
  Option.bind (if (decide ((1 : Int) ≤ (s.size : Int))) = true then (if (decide ((s.size : Int) ≤ 20)) = true then (Option.bind (strings_Trim s (⟨#[97, 98, 99, 100, 101, 102, 103, 104, 105, 106, 107, 108, 109, 110, 111, 112, 113, 114, 115, 116, 117, 118, 119, 120, 121, 122, 48, 49, 50, 51, 52, 53, 54, 55, 56, 57, 95]⟩ : ByteArray)) fun x11 => some (strEq x11 (⟨#[]⟩ : ByteArray))) else (some false)) else (if false = true then (Option.bind (strings_Trim s (⟨#[97, 98, 99, 100, 101, 102, 103, 104, 105, 106, 107, 108, 109, 110, 111, 112, 113, 114, 115, 116, 117, 118, 119, 120, 121, 122, 48, 49, 50, 51, 52, 53, 54, 55, 56, 57, 95]⟩ : ByteArray)) fun x18 => some (strEq x18 (⟨#[]⟩ : ByteArray))) else (some false))) fun s2 =>
  some s2

/-- porterslodge portref2 skillsFault -/
def portref2_skillsFault (l : (List route_Skill)) : Option Int :=
  if (decide ((12 : Int) < (l.length : Int))) = true then
    some 4
  else
    Option.bind (rangeB (fun k7 _ => Option.bind (idx l (k7 : Int)) fun x27 => Option.bind (portref2_IsName x27.name) fun x41 => if (!x41) = true then some (.rt 3) else Option.bind (if (decide ((0 : Int) < (k7 : Int))) = true then (Option.bind (idx l (w64 ((k7 : Int) - 1))) fun x49 => some (strLt x27.name x49.name || strEq x27.name x49.name)) else (some false)) fun s47 => if s47 = true then some (.rt 5) else if ((decide (x27.rank < 1)) || (decide ((9 : Int) < x27.rank))) = true then some (.rt 2) else some (.nx ())) l.length 0 ()) fun o4 => o4.andThen (fun y => some y) fun s5 =>
    some 0

/-- porterslodge portref2 PeopleFault -/
def portref2_PeopleFault (l : (List route_Person)) : Option Int :=
  if (decide ((40 : Int) < (l.length : Int))) = true then
    some 4
  else
    Option.bind (rangeB (fun k7 _ => Option.bind (idx l (k7 : Int)) fun x27 => if ((decide (x27.no < 1)) || (decide ((40 : Int) < x27.no))) = true then some (.rt 2) else Option.bind (if (decide ((0 : Int) < (k7 : Int))) = true then (Option.bind (idx l (w64 ((k7 : Int) - 1))) fun x53 => some (decide (x27.no ≤ x53.no))) else (some false)) fun s51 => if s51 = true then some (.rt 5) else if ((((decide (x27.capacity < 0)) || (decide ((100 : Int) < x27.capacity))) || (decide (x27.calendar < 0))) || (decide ((20 : Int) ≤ x27.calendar))) = true then some (.rt 2) else Option.bind (portref2_skillsFault x27.skills) fun x77 => if (x77 != 0) = true then some (.rt x77) else some (.nx ())) l.length 0 ()) fun o4 => o4.andThen (fun y => some y) fun s5 =>
    some 0

/-- porterslodge portref2 ReadPeopleOf -/
noncomputable def portref2_ReadPeopleOf (s : ByteArray) : Option ((List route_Person) × Int × Int) :=
  if (decide ((400000 : Int) < (s.size : Int))) = true then
    some (([] : (List route_Person)), 0, 4)
  else
    Option.bind (strings_SplitAfter s (⟨#[10]⟩ : ByteArray)) fun x2 =>
    Option.bind (rangeB (fun k11 s19 => Option.bind (idx x2 (k11 : Int)) fun x34 => if ((strEq x34 (⟨#[]⟩ : ByteArray)) && ((k11 : Int) == (w64 ((x2.length : Int) - 1)))) = true then some (.bk s19) else Option.bind (strings_CutSuffix x34 (⟨#[10]⟩ : ByteArray)) fun x42 => Option.bind (portref2_readPerson x42.1) fun x43 => if ((!x42.2) || (!x43.2)) = true then some (.rt (([] : (List route_Person)), w64 ((k11 : Int) + 1), 8)) else Option.bind (appendL 2932031007402 s19 ([x43.1] : List route_Person)) fun x74 => some (.nx x74)) x2.length 0 ([] : (List route_Person))) fun o8 => o8.andThen (fun y => some y) fun s9 =>
    Option.bind (portref2_PeopleFault s9) fun x83 =>
    if (x83 != 0) = true then
      some (([] : (List route_Person)), 0, x83)
    else
      some (s9, 0, 0)

/-- slices EqualFunc porterslodge route Person porterslodge route Person porterslodge route Person porterslodge route Person -/
def slices_EqualFunc_Lroute_Person_Lroute_Person_route_Person_route_Person (s1 : (List route_Person)) (s2 : (List route_Person)) (eq : route_Person → route_Person → Option Bool) : Option Bool :=
  if ((s1.length : Int) != (s2.length : Int)) = true then
    some false
  else
    Option.bind (rangeB (fun k9 _ => Option.bind (idx s1 (k9 : Int)) fun x29 => Option.bind (idx s2 (k9 : Int)) fun x47 => Option.bind (eq x29 x47) fun x71 => if (!x71) = true then some (.rt false) else some (.nx ())) s1.length 0 ()) fun o6 => o6.andThen (fun y => some y) fun s7 =>
    some true

/-- slices Equal porterslodge route Skill porterslodge route Skill -/
def slices_Equal_Lroute_Skill_route_Skill (s1 : (List route_Skill)) (s2 : (List route_Skill)) : Option Bool :=
  if ((s1.length : Int) != (s2.length : Int)) = true then
    some false
  else
    Option.bind (rangeB (fun k9 _ => Option.bind (idx s1 (k9 : Int)) fun x29 => Option.bind (idx s2 (k9 : Int)) fun x34 => if (!(strEq x29.name x34.name && (x29.rank == x34.rank))) = true then some (.rt false) else some (.nx ())) s1.length 0 ()) fun o6 => o6.andThen (fun y => some y) fun s7 =>
    some true

/-- porterslodge portref2 Alike 6 -/
def portref2_Alike_6 (a_ : route_Person) (b : route_Person) : Option Bool :=
  Option.bind (if (a_.no == b.no) = true then (if (a_.capacity == b.capacity) = true then (if (a_.calendar == b.calendar) = true then (Option.bind (slices_Equal_Lroute_Skill_route_Skill a_.skills b.skills) fun x42 => some x42) else (some false)) else (if false = true then (Option.bind (slices_Equal_Lroute_Skill_route_Skill a_.skills b.skills) fun x57 => some x57) else (some false))) else (if false = true then (if (a_.calendar == b.calendar) = true then (Option.bind (slices_Equal_Lroute_Skill_route_Skill a_.skills b.skills) fun x75 => some x75) else (some false)) else (if false = true then (Option.bind (slices_Equal_Lroute_Skill_route_Skill a_.skills b.skills) fun x90 => some x90) else (some false)))) fun s18 =>
  some s18

/-- porterslodge portref2 Alike -/
def portref2_Alike (a_ : (List route_Person)) (b : (List route_Person)) : Option Bool :=
  Option.bind (if true = true then (Option.bind (slices_EqualFunc_Lroute_Person_Lroute_Person_route_Person_route_Person a_ b (fun y15 y16 => portref2_Alike_6 y15 y16)) fun x17 => some x17) else (some false)) fun s6 =>
  some s6

/-- porterslodge portlaw2 RouteReads -/
noncomputable def portlaw2_RouteReads (s : ByteArray) : Option Bool :=
  Option.bind (route_ReadPeople s) fun x1 =>
  Option.bind (portref2_ReadPeopleOf s) fun x8 =>
  Option.bind (if (x1.2.1 == x8.2.1) = true then (if (x1.2.2 == x8.2.2) = true then (Option.bind (portref2_Alike x1.1 x8.1) fun x35 => some x35) else (some false)) else (if false = true then (Option.bind (portref2_Alike x1.1 x8.1) fun x42 => some x42) else (some false))) fun s26 =>
  some s26

end Go.Proofs.YtpiihecmmdeofaaGreatDoor.M
