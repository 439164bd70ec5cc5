/-
  Written by program (gen.py) from the IR of the dump: plain models of the functions.
-/
import Derived.Test.YtcokjipcmpfgbaaDoorPu
import Derived.Lib.SlTrimSet
import Derived.Test.YtcokjipcmpfgbaaDoorPj
import Derived.Shelf.GgClosure.StringsIndexFunc
namespace Go.Proofs.YtcokjipcmpfgbaaDoor.M
open Go Go.Pu
set_option linter.unusedVariables false
set_option linter.unusedSimpArgs false

structure api_Value where
  kind : Int
  int : Int
  text : ByteArray

structure level_Test where
  field : Int
  value : api_Value

structure level_Target where
  kind : Int
  minutes : Int
  calendar : Int

structure level_Level where
  name : ByteArray
  tests : (List level_Test)
  targets : (List level_Target)

structure level_Policy where
  pauses : (List Int)
  levels : (List level_Level)

/-- porterslodge level within -/
def level_within (n : Int) (low : Int) (high : Int) : Bool :=
  ((decide (low ≤ n)) && (decide (n ≤ high)))

/-- porterslodge level name -/
noncomputable def level_name (s : ByteArray) : Option Bool :=
  Option.bind (whileB (fun s8 => if (decide (s8 < (s.size : Int))) = true then Option.bind (idxS s s8) fun x18 => if (((!((decide ((97 : Int) ≤ (x18.toNat : Int))) && (decide ((x18.toNat : Int) ≤ 122)))) && (!((decide ((48 : Int) ≤ (x18.toNat : Int))) && (decide ((x18.toNat : Int) ≤ 57))))) && ((x18.toNat : Int) != 95)) = true then some (.rt false) else some (.nx (w64 (s8 + 1))) else some (.bk s8)) 0) fun o1 => o1.andThen (fun y => some y) fun s2 =>
  some ((!(strEq s (⟨#[]⟩ : ByteArray))) && (decide ((s.size : Int) ≤ 20)))

/-- porterslodge level checkTest -/
noncomputable def level_checkTest (t : level_Test) (before : Int) : Option Int :=
  if (!(level_within t.field (-1) 19)) = true then
    some 2
  else
    if (decide (t.field ≤ before)) = true then
      some 5
    else
      if ((!(level_within t.value.kind 0 6)) || ((t.field == (-1)) && (t.value.kind != 2))) = true then
        some 10
      else
        if (((t.value.int != 0) && ((t.value.kind == 0) || (t.value.kind == 3))) || ((!(strEq t.value.text (⟨#[]⟩ : ByteArray))) && (t.value.kind != 3))) = true then
          some 1
        else
          Option.bind (Option.bind (if (t.value.kind == 1) = true then some (level_within t.value.int 0 1) else Option.bind (if (t.value.kind == 4) = true then some (level_within t.value.int 0 19) else Option.bind (if (t.value.kind == 5) = true then some (level_within t.value.int 0 3000000) else Option.bind (if (t.value.kind == 6) = true then some (level_within t.value.int 1 40) else some true) fun s79 => some s79) fun s70 => some s70) fun s61 => some s61) fun s52 => some s52) fun s46 =>
          if (!s46) = true then
            some 2
          else
            if (decide ((200 : Int) < (t.value.text.size : Int))) = true then
              some 4
            else
              Option.bind (whileB (fun s103 => if (decide (s103 < (t.value.text.size : Int))) = true then Option.bind (idxS t.value.text s103) fun x114 => Option.bind (if (decide ((x114.toNat : Int) < 32)) = true then (some true) else (some ((x114.toNat : Int) == 127))) fun s116 => if s116 = true then some (.rt 9) else some (.nx (w64 (s103 + 1))) else some (.bk s103)) 0) fun o96 => o96.andThen (fun y => some y) fun s97 =>
              some 0

/-- porterslodge level checkLevel -/
noncomputable def level_checkLevel (l : level_Level) : Option Int :=
  if (decide ((8 : Int) < (l.tests.length : Int))) = true then
    some 4
  else
    Option.bind (rangeB (fun k23 s29 => Option.bind (idx l.tests (k23 : Int)) fun x42 => Option.bind (level_checkTest x42 s29) fun x56 => if (x56 != 0) = true then some (.rt x56) else some (.nx x42.field)) l.tests.length 0 (-2)) fun o20 => o20.andThen (fun y => some y) fun s21 =>
    Option.bind (rangeB (fun k72 _ => Option.bind (idx l.targets (k72 : Int)) fun x91 => if (((!(level_within x91.kind 1 3)) || (!(level_within x91.minutes 0 100000))) || (!(level_within x91.calendar 0 19))) = true then some (.rt 2) else Option.bind (if (decide ((0 : Int) < (k72 : Int))) = true then (Option.bind (idx l.targets (w64 ((k72 : Int) - 1))) fun x119 => some (decide (x91.kind ≤ x119.kind))) else (some false)) fun s113 => if s113 = true then some (.rt 5) else some (.nx ())) l.targets.length 0 ()) fun o69 => o69.andThen (fun y => some y) fun s70 =>
    some 0

/-- porterslodge level CheckPolicy -/
noncomputable def level_CheckPolicy (p : level_Policy) : Option Int :=
  Option.bind (rangeB (fun k18 _ => Option.bind (idx p.pauses (k18 : Int)) fun x33 => if (!(level_within x33 1 4)) = true then some (.rt 2) else Option.bind (if (decide ((0 : Int) < (k18 : Int))) = true then (Option.bind (idx p.pauses (w64 ((k18 : Int) - 1))) fun x44 => some (decide (x33 ≤ x44))) else (some false)) fun s39 => if s39 = true then some (.rt 5) else some (.nx ())) p.pauses.length 0 ()) fun o15 => o15.andThen (fun y => some y) fun s16 =>
  if (decide ((20 : Int) < (p.levels.length : Int))) = true then
    some 4
  else
    Option.bind (rangeB (fun k69 s75 => Option.bind (idx p.levels (k69 : Int)) fun x88 => Option.bind (level_name x88.name) fun x112 => if (!x112) = true then some (.rt 3) else if ((mapGet s75 x88.name).getD false) = true then some (.rt 6) else Option.bind (level_checkLevel x88) fun x125 => if (x125 != 0) = true then some (.rt x125) else some (.nx (mapPut s75 x88.name true))) p.levels.length 0 ([] : List (ByteArray × Bool))) fun o66 => o66.andThen (fun y => some y) fun s67 =>
    some 0

/-- slices IndexFunc porterslodge level Level porterslodge level Level -/
def slices_IndexFunc_Llevel_Level_level_Level (s : (List level_Level)) (f : level_Level → Option Bool) : Option Int :=
  Option.bind (rangeB (fun k6 _ => Option.bind (idx s (k6 : Int)) fun x25 => Option.bind (f x25) fun x34 => if x34 = true then some (.rt (k6 : Int)) else some (.nx ())) s.length 0 ()) fun o3 => o3.andThen (fun y => some y) fun s4 =>
  some (-1)

/-- slices IndexFunc porterslodge level Test porterslodge level Test -/
def slices_IndexFunc_Llevel_Test_level_Test (s : (List level_Test)) (f : level_Test → Option Bool) : Option Int :=
  Option.bind (rangeB (fun k6 _ => Option.bind (idx s (k6 : Int)) fun x25 => Option.bind (f x25) fun x30 => if x30 = true then some (.rt (k6 : Int)) else some (.nx ())) s.length 0 ()) fun o3 => o3.andThen (fun y => some y) fun s4 =>
  some (-1)

/-- slices ContainsFunc porterslodge level Test porterslodge level Test -/
def slices_ContainsFunc_Llevel_Test_level_Test (s : (List level_Test)) (f : level_Test → Option Bool) : Option Bool :=
  Option.bind (slices_IndexFunc_Llevel_Test_level_Test s f) fun x3 =>
  some (decide ((0 : Int) ≤ x3))

/-- porterslodge level Policy levelOf 1 1 -/
def level_Policy_levelOf_1_1 (t : level_Test) (p1 : Int) (p2 : (List api_Value)) : Option Bool :=
  Option.bind (Option.bind (if (t.field == (-1)) = true then some (⟨2, p1, ByteArray.empty⟩ : api_Value) else Option.bind (if (decide (t.field < (p2.length : Int))) = true then Option.bind (idx p2 t.field) fun x55 => some x55 else some (⟨0, 0, ByteArray.empty⟩ : api_Value)) fun s43 => some s43) fun s26 => some s26) fun s17 =>
  some (!(s17.kind == t.value.kind && (s17.int == t.value.int && (strEq s17.text t.value.text))))

/-- porterslodge level Policy levelOf 1 -/
def level_Policy_levelOf_1 (l : level_Level) (p1 : Int) (p2 : (List api_Value)) : Option Bool :=
  Option.bind (slices_ContainsFunc_Llevel_Test_level_Test l.tests (fun y15 => level_Policy_levelOf_1_1 y15 p1 p2)) fun x16 =>
  some (!x16)

/-- porterslodge level Policy levelOf -/
def level_Policy_levelOf (p : level_Policy) (priority : Int) (values : (List api_Value)) : Option Int :=
  Option.bind (slices_IndexFunc_Llevel_Level_level_Level p.levels (fun y33 => level_Policy_levelOf_1 y33 priority values)) fun x34 =>
  some x34

/-- porterslodge level LevelOf -/
noncomputable def level_LevelOf (p : level_Policy) (priority : Int) (values : (List api_Value)) : Option (Int × Int) :=
  Option.bind (level_CheckPolicy p) fun x19 =>
  if (x19 != 0) = true then
    some (0, x19)
  else
    if (decide ((20 : Int) < (values.length : Int))) = true then
      some (0, 4)
    else
      Option.bind (level_Policy_levelOf p priority values) fun x30 =>
      some (x30, 0)

/-- strings.Trim -/
def strings_Trim (s : ByteArray) (cutset : ByteArray) : Option ByteArray :=
  if s.size ≤ 9223372036854775807 ∧ cutset.size < 4294967281 ∧ (cutset.data.toList.all fun b => decide (b.toNat < 128)) = true then some ⟨(Go.Lib.trimS s.data.toList cutset.data.toList).toArray⟩ else none

/-- porterslodge portref2 IsName -/
def portref2_IsName (s : ByteArray) : Option Bool :=
  Option.bind (if (decide ((1 : Int) ≤ (s.size : Int))) = true then (if (decide ((s.size : Int) ≤ 20)) = true then (Option.bind (strings_Trim s (⟨#[97, 98, 99, 100, 101, 102, 103, 104, 105, 106, 107, 108, 109, 110, 111, 112, 113, 114, 115, 116, 117, 118, 119, 120, 121, 122, 48, 49, 50, 51, 52, 53, 54, 55, 56, 57, 95]⟩ : ByteArray)) fun x11 => some (strEq x11 (⟨#[]⟩ : ByteArray))) else (some false)) else (if false = true then (Option.bind (strings_Trim s (⟨#[97, 98, 99, 100, 101, 102, 103, 104, 105, 106, 107, 108, 109, 110, 111, 112, 113, 114, 115, 116, 117, 118, 119, 120, 121, 122, 48, 49, 50, 51, 52, 53, 54, 55, 56, 57, 95]⟩ : ByteArray)) fun x18 => some (strEq x18 (⟨#[]⟩ : ByteArray))) else (some false))) fun s2 =>
  some s2

/-- slices ContainsFunc porterslodge level Level porterslodge level Level -/
def slices_ContainsFunc_Llevel_Level_level_Level (s : (List level_Level)) (f : level_Level → Option Bool) : Option Bool :=
  Option.bind (slices_IndexFunc_Llevel_Level_level_Level s f) fun x3 =>
  some (decide ((0 : Int) ≤ x3))

/-- porterslodge portref2 levelFault 1 -/
def portref2_levelFault_1 (y : level_Level) (p1 : level_Level) : Option Bool :=
  some (strEq y.name p1.name)

/-- porterslodge portref2 IsMoment -/
def portref2_IsMoment (m : Int) : Bool :=
  ((decide ((0 : Int) ≤ m)) && (decide (m ≤ 3000000)))

/-- porterslodge portref2 lowByte 1 -/
def portref2_lowByte_1 (r_ : Int) : Bool :=
  ((decide (r_ < 32)) || (r_ == 127))

/-- porterslodge portref2 lowByte -/
def portref2_lowByte (s : ByteArray) : Option Bool :=
  some (decide (0 ≤ Go.Lib.idxFunc (fun y => portref2_lowByte_1 (y : Int)) true s))

/-- porterslodge portref2 testFault -/
def portref2_testFault (t : level_Test) : Option Int :=
  if (((decide (t.value.kind < 0)) || (decide ((6 : Int) < t.value.kind))) || ((decide (t.field < 0)) && (t.value.kind != 2))) = true then
    some 10
  else
    Option.bind (if ((!(strEq t.value.text (⟨#[]⟩ : ByteArray))) && (t.value.kind != 3)) = true then some ((!(strEq t.value.text (⟨#[]⟩ : ByteArray))) && (t.value.kind != 3)) else some ((t.value.int != 0) && ((t.value.kind == 3) || (t.value.kind == 0)))) fun s33 =>
    if s33 = true then
      some 1
    else
      Option.bind (if (((t.value.kind == 1) && (t.value.int != 0)) && (t.value.int != 1)) = true then some (((t.value.kind == 1) && (t.value.int != 0)) && (t.value.int != 1)) else Option.bind (if ((t.value.kind == 4) && ((decide (t.value.int < 0)) || (decide ((20 : Int) ≤ t.value.int)))) = true then some ((t.value.kind == 4) && ((decide (t.value.int < 0)) || (decide ((20 : Int) ≤ t.value.int)))) else Option.bind (if ((t.value.kind == 5) && (!(portref2_IsMoment t.value.int))) = true then some ((t.value.kind == 5) && (!(portref2_IsMoment t.value.int))) else some ((t.value.kind == 6) && ((decide (t.value.int < 1)) || (decide ((40 : Int) < t.value.int))))) fun s84 => some s84) fun s72 => some s72) fun s57 =>
      if s57 = true then
        some 2
      else
        if (decide ((200 : Int) < (t.value.text.size : Int))) = true then
          some 4
        else
          Option.bind (portref2_lowByte t.value.text) fun x105 =>
          if x105 = true then
            some 9
          else
            some 0

/-- porterslodge portref2 levelFault -/
def portref2_levelFault (l : (List level_Level)) (i_ : Int) : Option Int :=
  Option.bind (idx l i_) fun x3 =>
  Option.bind (portref2_IsName x3.name) fun x27 =>
  if (!x27) = true then
    some 3
  else
    Option.bind (sliceL l none (some i_)) fun x32 =>
    Option.bind (slices_ContainsFunc_Llevel_Level_level_Level x32 (fun y35 => portref2_levelFault_1 y35 x3)) fun x36 =>
    if x36 = true then
      some 6
    else
      if (decide ((8 : Int) < (x3.tests.length : Int))) = true then
        some 4
      else
        Option.bind (rangeB (fun k65 _ => Option.bind (idx x3.tests (k65 : Int)) fun x84 => if ((decide (x84.field < (-1))) || (decide ((20 : Int) ≤ x84.field))) = true then some (.rt 2) else Option.bind (if (decide ((0 : Int) < (k65 : Int))) = true then (Option.bind (idx x3.tests (w64 ((k65 : Int) - 1))) fun x109 => some (decide (x84.field ≤ x109.field))) else (some false)) fun s103 => if s103 = true then some (.rt 5) else Option.bind (portref2_testFault x84) fun x119 => if (x119 != 0) = true then some (.rt x119) else some (.nx ())) x3.tests.length 0 ()) fun o62 => o62.andThen (fun y => some y) fun s63 =>
        Option.bind (rangeB (fun k134 _ => Option.bind (idx x3.targets (k134 : Int)) fun x153 => if ((((((decide (x153.kind < 1)) || (decide ((3 : Int) < x153.kind))) || (decide (x153.minutes < 0))) || (decide ((100000 : Int) < x153.minutes))) || (decide (x153.calendar < 0))) || (decide ((20 : Int) ≤ x153.calendar))) = true then some (.rt 2) else Option.bind (if (decide ((0 : Int) < (k134 : Int))) = true then (Option.bind (idx x3.targets (w64 ((k134 : Int) - 1))) fun x190 => some (decide (x153.kind ≤ x190.kind))) else (some false)) fun s184 => if s184 = true then some (.rt 5) else some (.nx ())) x3.targets.length 0 ()) fun o131 => o131.andThen (fun y => some y) fun s132 =>
        some 0

/-- porterslodge portref2 PolicyFault -/
def portref2_PolicyFault (p : level_Policy) : Option Int :=
  Option.bind (rangeB (fun k19 _ => Option.bind (idx p.pauses (k19 : Int)) fun x34 => if ((decide (x34 < 1)) || (decide ((4 : Int) < x34))) = true then some (.rt 2) else Option.bind (if (decide ((0 : Int) < (k19 : Int))) = true then (Option.bind (idx p.pauses (w64 ((k19 : Int) - 1))) fun x47 => some (decide (x34 ≤ x47))) else (some false)) fun s42 => if s42 = true then some (.rt 5) else some (.nx ())) p.pauses.length 0 ()) fun o16 => o16.andThen (fun y => some y) fun s17 =>
  if (decide ((20 : Int) < (p.levels.length : Int))) = true then
    some 4
  else
    Option.bind (rangeB (fun k69 _ => Option.bind (portref2_levelFault p.levels (k69 : Int)) fun x92 => if (x92 != 0) = true then some (.rt x92) else some (.nx ())) p.levels.length 0 ()) fun o66 => o66.andThen (fun y => some y) fun s67 =>
    some 0

/-- porterslodge portref2 levelIn 1 1 -/
def portref2_levelIn_1_1 (t : level_Test) (p1 : Int) (p2 : (List api_Value)) : Option Bool :=
  Option.bind (if (decide (t.field < 0)) = true then some (⟨2, p1, ByteArray.empty⟩ : api_Value) else Option.bind (if (decide (t.field < (p2.length : Int))) = true then Option.bind (idx p2 t.field) fun x47 => some x47 else some (⟨0, 0, ByteArray.empty⟩ : api_Value)) fun s35 => some s35) fun s18 =>
  some (!(s18.kind == t.value.kind && (s18.int == t.value.int && (strEq s18.text t.value.text))))

/-- porterslodge portref2 levelIn 1 -/
def portref2_levelIn_1 (l : level_Level) (p1 : Int) (p2 : (List api_Value)) : Option Bool :=
  Option.bind (slices_ContainsFunc_Llevel_Test_level_Test l.tests (fun y15 => portref2_levelIn_1_1 y15 p1 p2)) fun x16 =>
  some (!x16)

/-- porterslodge portref2 levelIn -/
def portref2_levelIn (p : level_Policy) (priority : Int) (values : (List api_Value)) : Option Int :=
  Option.bind (slices_IndexFunc_Llevel_Level_level_Level p.levels (fun y33 => portref2_levelIn_1 y33 priority values)) fun x34 =>
  some x34

/-- porterslodge portref2 LevelIn -/
def portref2_LevelIn (p : level_Policy) (priority : Int) (values : (List api_Value)) : Option (Int × Int) :=
  Option.bind (portref2_PolicyFault p) fun x19 =>
  if (x19 != 0) = true then
    some (0, x19)
  else
    if (decide ((20 : Int) < (values.length : Int))) = true then
      some (0, 4)
    else
      Option.bind (portref2_levelIn p priority values) fun x30 =>
      some (x30, 0)

/-- porterslodge portlaw2 LevelChooses -/
noncomputable def portlaw2_LevelChooses (p : level_Policy) (priority : Int) (values : (List api_Value)) : Option Bool :=
  Option.bind (level_LevelOf p priority values) fun x19 =>
  Option.bind (portref2_LevelIn p priority values) fun x28 =>
  some ((x19.1 == x28.1) && (x19.2 == x28.2))

end Go.Proofs.YtcokjipcmpfgbaaDoor.M
