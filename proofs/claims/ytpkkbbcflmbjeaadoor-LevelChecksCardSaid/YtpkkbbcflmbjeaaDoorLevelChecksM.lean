/-
  Written by program (gen.py) from the IR of the dump: plain models of the functions.
-/
import Derived.Test.YtpkkbbcflmbjeaaDoorPu
import Derived.Lib.ItoaNum
import Derived.Lib.Join
import Derived.Lib.SlTrimSet
import Derived.Test.YtpkkbbcflmbjeaaDoorPj
import Derived.Shelf.GgClosure.StringsIndexFunc
namespace Go.Proofs.YtpkkbbcflmbjeaaDoor.M
open Go Go.Pu
set_option linter.unusedVariables false
set_option linter.unusedSimpArgs false

structure api_Value where
  kind : Int
  int : Int
  text : ByteArray

structure level_Test where
  field : Int
  value : api_Value

structure level_Target where
  kind : Int
  minutes : Int
  calendar : Int

structure level_Level where
  name : ByteArray
  tests : (List level_Test)
  targets : (List level_Target)

structure level_Policy where
  pauses : (List Int)
  levels : (List level_Level)

/-- portref2 valueWords -/
def portref2_valueWords : List ByteArray := [⟨#[110, 105, 108]⟩, ⟨#[102, 108, 97, 103]⟩, ⟨#[110, 117, 109, 98, 101, 114]⟩, ⟨#[116, 101, 120, 116]⟩, ⟨#[99, 104, 111, 105, 99, 101]⟩, ⟨#[109, 111, 109, 101, 110, 116]⟩, ⟨#[112, 101, 114, 115, 111, 110]⟩]

/-- portref2 targetWords -/
def portref2_targetWords : List ByteArray := [⟨#[]⟩, ⟨#[102, 105, 114, 115, 116]⟩, ⟨#[114, 101, 112, 108, 121]⟩, ⟨#[115, 111, 108, 118, 101]⟩]

/-- porterslodge level within -/
def level_within (n : Int) (low : Int) (high : Int) : Bool :=
  ((decide (low ≤ n)) && (decide (n ≤ high)))

/-- porterslodge level name -/
noncomputable def level_name (s : ByteArray) : Option Bool :=
  Option.bind (whileB (fun s8 => if (decide (s8 < (s.size : Int))) = true then Option.bind (idxS s s8) fun x18 => if (((!((decide ((97 : Int) ≤ (x18.toNat : Int))) && (decide ((x18.toNat : Int) ≤ 122)))) && (!((decide ((48 : Int) ≤ (x18.toNat : Int))) && (decide ((x18.toNat : Int) ≤ 57))))) && ((x18.toNat : Int) != 95)) = true then some (.rt false) else some (.nx (w64 (s8 + 1))) else some (.bk s8)) 0) fun o1 => o1.andThen (fun y => some y) fun s2 =>
  some ((!(strEq s (⟨#[]⟩ : ByteArray))) && (decide ((s.size : Int) ≤ 20)))

/-- porterslodge level checkTest -/
noncomputable def level_checkTest (t : level_Test) (before : Int) : Option Int :=
  if (!(level_within t.field (-1) 19)) = true then
    some 2
  else
    if (decide (t.field ≤ before)) = true then
      some 5
    else
      if ((!(level_within t.value.kind 0 6)) || ((t.field == (-1)) && (t.value.kind != 2))) = true then
        some 10
      else
        if (((t.value.int != 0) && ((t.value.kind == 0) || (t.value.kind == 3))) || ((!(strEq t.value.text (⟨#[]⟩ : ByteArray))) && (t.value.kind != 3))) = true then
          some 1
        else
          Option.bind (Option.bind (if (t.value.kind == 1) = true then some (level_within t.value.int 0 1) else Option.bind (if (t.value.kind == 4) = true then some (level_within t.value.int 0 19) else Option.bind (if (t.value.kind == 5) = true then some (level_within t.value.int 0 3000000) else Option.bind (if (t.value.kind == 6) = true then some (level_within t.value.int 1 40) else some true) fun s79 => some s79) fun s70 => some s70) fun s61 => some s61) fun s52 => some s52) fun s46 =>
          if (!s46) = true then
            some 2
          else
            if (decide ((200 : Int) < (t.value.text.size : Int))) = true then
              some 4
            else
              Option.bind (whileB (fun s103 => if (decide (s103 < (t.value.text.size : Int))) = true then Option.bind (idxS t.value.text s103) fun x114 => Option.bind (if (decide ((x114.toNat : Int) < 32)) = true then (some true) else (some ((x114.toNat : Int) == 127))) fun s116 => if s116 = true then some (.rt 9) else some (.nx (w64 (s103 + 1))) else some (.bk s103)) 0) fun o96 => o96.andThen (fun y => some y) fun s97 =>
              some 0

/-- porterslodge level checkLevel -/
noncomputable def level_checkLevel (l : level_Level) : Option Int :=
  if (decide ((8 : Int) < (l.tests.length : Int))) = true then
    some 4
  else
    Option.bind (rangeB (fun k23 s29 => Option.bind (idx l.tests (k23 : Int)) fun x42 => Option.bind (level_checkTest x42 s29) fun x56 => if (x56 != 0) = true then some (.rt x56) else some (.nx x42.field)) l.tests.length 0 (-2)) fun o20 => o20.andThen (fun y => some y) fun s21 =>
    Option.bind (rangeB (fun k72 _ => Option.bind (idx l.targets (k72 : Int)) fun x91 => if (((!(level_within x91.kind 1 3)) || (!(level_within x91.minutes 0 100000))) || (!(level_within x91.calendar 0 19))) = true then some (.rt 2) else Option.bind (if (decide ((0 : Int) < (k72 : Int))) = true then (Option.bind (idx l.targets (w64 ((k72 : Int) - 1))) fun x119 => some (decide (x91.kind ≤ x119.kind))) else (some false)) fun s113 => if s113 = true then some (.rt 5) else some (.nx ())) l.targets.length 0 ()) fun o69 => o69.andThen (fun y => some y) fun s70 =>
    some 0

/-- porterslodge level CheckPolicy -/
noncomputable def level_CheckPolicy (p : level_Policy) : Option Int :=
  Option.bind (rangeB (fun k18 _ => Option.bind (idx p.pauses (k18 : Int)) fun x33 => if (!(level_within x33 1 4)) = true then some (.rt 2) else Option.bind (if (decide ((0 : Int) < (k18 : Int))) = true then (Option.bind (idx p.pauses (w64 ((k18 : Int) - 1))) fun x44 => some (decide (x33 ≤ x44))) else (some false)) fun s39 => if s39 = true then some (.rt 5) else some (.nx ())) p.pauses.length 0 ()) fun o15 => o15.andThen (fun y => some y) fun s16 =>
  if (decide ((20 : Int) < (p.levels.length : Int))) = true then
    some 4
  else
    Option.bind (rangeB (fun k69 s75 => Option.bind (idx p.levels (k69 : Int)) fun x88 => Option.bind (level_name x88.name) fun x112 => if (!x112) = true then some (.rt 3) else if ((mapGet s75 x88.name).getD false) = true then some (.rt 6) else Option.bind (level_checkLevel x88) fun x125 => if (x125 != 0) = true then some (.rt x125) else some (.nx (mapPut s75 x88.name true))) p.levels.length 0 ([] : List (ByteArray × Bool))) fun o66 => o66.andThen (fun y => some y) fun s67 =>
    some 0

/-- (*strings.Builder).WriteString -/
def strings_Builder_WriteString (b : ByteArray) (s : ByteArray) : Option (Int × Unit × ByteArray) :=
  if b.size + s.size ≤ 140737488355328 then some (s.size, (), b ++ s) else none

/-- strconv.Itoa -/
def strconv_Itoa (n : Int) : Option ByteArray :=
  if -9223372036854775808 ≤ n ∧ n ≤ 9223372036854775807 then some ⟨(Go.Lib.itoa n).toArray⟩ else none

/-- (*strings.Builder).WriteByte -/
def strings_Builder_WriteByte (b : ByteArray) (c : UInt8) : Option (Unit × ByteArray) :=
  if b.size + 1 ≤ 140737488355328 then some ((), b ++ ⟨#[c]⟩) else none

/-- porterslodge level kindWords -/
def level_kindWords  : Option (List ByteArray) :=
  some ([(⟨#[110, 105, 108]⟩ : ByteArray), (⟨#[102, 108, 97, 103]⟩ : ByteArray), (⟨#[110, 117, 109, 98, 101, 114]⟩ : ByteArray), (⟨#[116, 101, 120, 116]⟩ : ByteArray), (⟨#[99, 104, 111, 105, 99, 101]⟩ : ByteArray), (⟨#[109, 111, 109, 101, 110, 116]⟩ : ByteArray), (⟨#[112, 101, 114, 115, 111, 110]⟩ : ByteArray)] : List ByteArray)

/-- porterslodge level testText -/
def level_testText (t : level_Test) : Option ByteArray :=
  Option.bind (strconv_Itoa t.field) fun x13 =>
  Option.bind (catS (⟨#[119, 104, 101, 110, 32]⟩ : ByteArray) x13) fun x17 =>
  Option.bind (catS x17 (⟨#[32]⟩ : ByteArray)) fun x18 =>
  Option.bind (level_kindWords) fun x19 =>
  Option.bind (idx x19 t.value.kind) fun x27 =>
  Option.bind (catS x18 x27) fun x32 =>
  if (t.value.kind == 0) = true then
    some x32
  else
    if (t.value.kind == 3) = true then
      Option.bind (catS x32 (⟨#[32]⟩ : ByteArray)) fun x37 =>
      Option.bind (catS x37 t.value.text) fun x40 =>
      some x40
    else
      Option.bind (catS x32 (⟨#[32]⟩ : ByteArray)) fun x41 =>
      Option.bind (strconv_Itoa t.value.int) fun x44 =>
      Option.bind (catS x41 x44) fun x48 =>
      some x48

/-- porterslodge level targetWords -/
def level_targetWords  : Option (List ByteArray) :=
  some ([(⟨#[102, 105, 114, 115, 116]⟩ : ByteArray), (⟨#[114, 101, 112, 108, 121]⟩ : ByteArray), (⟨#[115, 111, 108, 118, 101]⟩ : ByteArray)] : List ByteArray)

/-- (*strings.Builder).String -/
def strings_Builder_String (b : ByteArray) : Option ByteArray := some b

/-- porterslodge level PolicyText -/
noncomputable def level_PolicyText (p : level_Policy) : Option (ByteArray × Int) :=
  Option.bind (level_CheckPolicy p) fun x16 =>
  if (x16 != 0) = true then
    some ((⟨#[]⟩ : ByteArray), x16)
  else
    Option.bind (strings_Builder_WriteString ByteArray.empty (⟨#[112, 97, 117, 115, 101]⟩ : ByteArray)) fun x26 =>
    Option.bind (rangeB (fun k38 s44 => Option.bind (idx p.pauses (k38 : Int)) fun x57 => Option.bind (strconv_Itoa x57) fun x61 => Option.bind (catS (⟨#[32]⟩ : ByteArray) x61) fun x65 => Option.bind (strings_Builder_WriteString s44 x65) fun x66 => some (.nx x66.2.2)) p.pauses.length 0 x26.2.2) fun o35 => o35.andThen (fun y => some y) fun s36 =>
    Option.bind (strings_Builder_WriteByte s36 (10 : UInt8)) fun x74 =>
    Option.bind (rangeB (fun k86 s92 => Option.bind (α := Lp _ _) (Option.bind (idx p.levels (k86 : Int)) fun x113 => Option.bind (catS (⟨#[108, 101, 118, 101, 108, 32]⟩ : ByteArray) x113.name) fun x137 => Option.bind (catS x137 (⟨#[10]⟩ : ByteArray)) fun x138 => Option.bind (strings_Builder_WriteString s92 x138) fun x139 => Option.bind (rangeB (fun k151 s157 => Option.bind (idx x113.tests (k151 : Int)) fun x170 => if (!(level_within x170.value.int (-999999999999999999) 999999999999999999)) = true then some (.rt ((⟨#[]⟩ : ByteArray), 2)) else Option.bind (level_testText x170) fun x187 => Option.bind (catS x187 (⟨#[10]⟩ : ByteArray)) fun x191 => Option.bind (strings_Builder_WriteString s157 x191) fun x192 => some (.nx x192.2.2)) x113.tests.length 0 x139.2.2) fun o148 => o148.andThen (fun y => some (.rt y)) fun s149 => Option.bind (rangeB (fun k207 s213 => Option.bind (idx x113.targets (k207 : Int)) fun x226 => Option.bind (level_targetWords) fun x245 => Option.bind (idx x245 (w64 (x226.kind - 1))) fun x253 => Option.bind (catS x253 (⟨#[32]⟩ : ByteArray)) fun x258 => Option.bind (strconv_Itoa x226.minutes) fun x259 => Option.bind (catS x258 x259) fun x263 => Option.bind (catS x263 (⟨#[32]⟩ : ByteArray)) fun x264 => Option.bind (strconv_Itoa x226.calendar) fun x265 => Option.bind (catS x264 x265) fun x269 => Option.bind (catS x269 (⟨#[10]⟩ : ByteArray)) fun x270 => Option.bind (strings_Builder_WriteString s213 x270) fun x271 => some (.nx x271.2.2)) x113.targets.length 0 s149) fun o204 => o204.andThen (fun y => some (.rt y)) fun s205 => some (.fin s205)) fun o105 => o105.andThen (fun y => some (.rt y)) fun s106 => some (.nx s106)) p.levels.length 0 x74.2) fun o83 => o83.andThen (fun y => some y) fun s84 =>
    Option.bind (strings_Builder_String s84) fun x283 =>
    some (x283, 0)

/-- strings.Trim -/
def strings_Trim (s : ByteArray) (cutset : ByteArray) : Option ByteArray :=
  if s.size ≤ 9223372036854775807 ∧ cutset.size < 4294967281 ∧ (cutset.data.toList.all fun b => decide (b.toNat < 128)) = true then some ⟨(Go.Lib.trimS s.data.toList cutset.data.toList).toArray⟩ else none

/-- porterslodge portref2 IsName -/
def portref2_IsName (s : ByteArray) : Option Bool :=
  Option.bind (if (decide ((1 : Int) ≤ (s.size : Int))) = true then (if (decide ((s.size : Int) ≤ 20)) = true then (Option.bind (strings_Trim s (⟨#[97, 98, 99, 100, 101, 102, 103, 104, 105, 106, 107, 108, 109, 110, 111, 112, 113, 114, 115, 116, 117, 118, 119, 120, 121, 122, 48, 49, 50, 51, 52, 53, 54, 55, 56, 57, 95]⟩ : ByteArray)) fun x11 => some (strEq x11 (⟨#[]⟩ : ByteArray))) else (some false)) else (if false = true then (Option.bind (strings_Trim s (⟨#[97, 98, 99, 100, 101, 102, 103, 104, 105, 106, 107, 108, 109, 110, 111, 112, 113, 114, 115, 116, 117, 118, 119, 120, 121, 122, 48, 49, 50, 51, 52, 53, 54, 55, 56, 57, 95]⟩ : ByteArray)) fun x18 => some (strEq x18 (⟨#[]⟩ : ByteArray))) else (some false))) fun s2 =>
  some s2

/-- slices IndexFunc porterslodge level Level porterslodge level Level -/
def slices_IndexFunc_Llevel_Level_level_Level (s : (List level_Level)) (f : level_Level → Option Bool) : Option Int :=
  Option.bind (rangeB (fun k6 _ => Option.bind (idx s (k6 : Int)) fun x25 => Option.bind (f x25) fun x34 => if x34 = true then some (.rt (k6 : Int)) else some (.nx ())) s.length 0 ()) fun o3 => o3.andThen (fun y => some y) fun s4 =>
  some (-1)

/-- slices ContainsFunc porterslodge level Level porterslodge level Level -/
def slices_ContainsFunc_Llevel_Level_level_Level (s : (List level_Level)) (f : level_Level → Option Bool) : Option Bool :=
  Option.bind (slices_IndexFunc_Llevel_Level_level_Level s f) fun x3 =>
  some (decide ((0 : Int) ≤ x3))

/-- porterslodge portref2 levelFault 1 -/
def portref2_levelFault_1 (y : level_Level) (p1 : level_Level) : Option Bool :=
  some (strEq y.name p1.name)

/-- porterslodge portref2 IsMoment -/
def portref2_IsMoment (m : Int) : Bool :=
  ((decide ((0 : Int) ≤ m)) && (decide (m ≤ 3000000)))

/-- porterslodge portref2 lowByte 1 -/
def portref2_lowByte_1 (r_ : Int) : Bool :=
  ((decide (r_ < 32)) || (r_ == 127))

/-- porterslodge portref2 lowByte -/
def portref2_lowByte (s : ByteArray) : Option Bool :=
  some (decide (0 ≤ Go.Lib.idxFunc (fun y => portref2_lowByte_1 (y : Int)) true s))

/-- porterslodge portref2 testFault -/
def portref2_testFault (t : level_Test) : Option Int :=
  if (((decide (t.value.kind < 0)) || (decide ((6 : Int) < t.value.kind))) || ((decide (t.field < 0)) && (t.value.kind != 2))) = true then
    some 10
  else
    Option.bind (if ((!(strEq t.value.text (⟨#[]⟩ : ByteArray))) && (t.value.kind != 3)) = true then some ((!(strEq t.value.text (⟨#[]⟩ : ByteArray))) && (t.value.kind != 3)) else some ((t.value.int != 0) && ((t.value.kind == 3) || (t.value.kind == 0)))) fun s33 =>
    if s33 = true then
      some 1
    else
      Option.bind (if (((t.value.kind == 1) && (t.value.int != 0)) && (t.value.int != 1)) = true then some (((t.value.kind == 1) && (t.value.int != 0)) && (t.value.int != 1)) else Option.bind (if ((t.value.kind == 4) && ((decide (t.value.int < 0)) || (decide ((20 : Int) ≤ t.value.int)))) = true then some ((t.value.kind == 4) && ((decide (t.value.int < 0)) || (decide ((20 : Int) ≤ t.value.int)))) else Option.bind (if ((t.value.kind == 5) && (!(portref2_IsMoment t.value.int))) = true then some ((t.value.kind == 5) && (!(portref2_IsMoment t.value.int))) else some ((t.value.kind == 6) && ((decide (t.value.int < 1)) || (decide ((40 : Int) < t.value.int))))) fun s84 => some s84) fun s72 => some s72) fun s57 =>
      if s57 = true then
        some 2
      else
        if (decide ((200 : Int) < (t.value.text.size : Int))) = true then
          some 4
        else
          Option.bind (portref2_lowByte t.value.text) fun x105 =>
          if x105 = true then
            some 9
          else
            some 0

/-- porterslodge portref2 levelFault -/
def portref2_levelFault (l : (List level_Level)) (i_ : Int) : Option Int :=
  Option.bind (idx l i_) fun x3 =>
  Option.bind (portref2_IsName x3.name) fun x27 =>
  if (!x27) = true then
    some 3
  else
    Option.bind (sliceL l none (some i_)) fun x32 =>
    Option.bind (slices_ContainsFunc_Llevel_Level_level_Level x32 (fun y35 => portref2_levelFault_1 y35 x3)) fun x36 =>
    if x36 = true then
      some 6
    else
      if (decide ((8 : Int) < (x3.tests.length : Int))) = true then
        some 4
      else
        Option.bind (rangeB (fun k65 _ => Option.bind (idx x3.tests (k65 : Int)) fun x84 => if ((decide (x84.field < (-1))) || (decide ((20 : Int) ≤ x84.field))) = true then some (.rt 2) else Option.bind (if (decide ((0 : Int) < (k65 : Int))) = true then (Option.bind (idx x3.tests (w64 ((k65 : Int) - 1))) fun x109 => some (decide (x84.field ≤ x109.field))) else (some false)) fun s103 => if s103 = true then some (.rt 5) else Option.bind (portref2_testFault x84) fun x119 => if (x119 != 0) = true then some (.rt x119) else some (.nx ())) x3.tests.length 0 ()) fun o62 => o62.andThen (fun y => some y) fun s63 =>
        Option.bind (rangeB (fun k134 _ => Option.bind (idx x3.targets (k134 : Int)) fun x153 => if ((((((decide (x153.kind < 1)) || (decide ((3 : Int) < x153.kind))) || (decide (x153.minutes < 0))) || (decide ((100000 : Int) < x153.minutes))) || (decide (x153.calendar < 0))) || (decide ((20 : Int) ≤ x153.calendar))) = true then some (.rt 2) else Option.bind (if (decide ((0 : Int) < (k134 : Int))) = true then (Option.bind (idx x3.targets (w64 ((k134 : Int) - 1))) fun x190 => some (decide (x153.kind ≤ x190.kind))) else (some false)) fun s184 => if s184 = true then some (.rt 5) else some (.nx ())) x3.targets.length 0 ()) fun o131 => o131.andThen (fun y => some y) fun s132 =>
        some 0

/-- porterslodge portref2 PolicyFault -/
def portref2_PolicyFault (p : level_Policy) : Option Int :=
  Option.bind (rangeB (fun k19 _ => Option.bind (idx p.pauses (k19 : Int)) fun x34 => if ((decide (x34 < 1)) || (decide ((4 : Int) < x34))) = true then some (.rt 2) else Option.bind (if (decide ((0 : Int) < (k19 : Int))) = true then (Option.bind (idx p.pauses (w64 ((k19 : Int) - 1))) fun x47 => some (decide (x34 ≤ x47))) else (some false)) fun s42 => if s42 = true then some (.rt 5) else some (.nx ())) p.pauses.length 0 ()) fun o16 => o16.andThen (fun y => some y) fun s17 =>
  if (decide ((20 : Int) < (p.levels.length : Int))) = true then
    some 4
  else
    Option.bind (rangeB (fun k69 _ => Option.bind (portref2_levelFault p.levels (k69 : Int)) fun x92 => if (x92 != 0) = true then some (.rt x92) else some (.nx ())) p.levels.length 0 ()) fun o66 => o66.andThen (fun y => some y) fun s67 =>
    some 0

/-- strings.Join -/
def strings_Join (elems : List ByteArray) (sep : ByteArray) : Option ByteArray :=
  if elems.length ≤ 140737488355328 ∧ (Go.Lib.join (elems.map (·.data.toList)) sep.data.toList).length ≤ 140737488355328 then some ⟨(Go.Lib.join (elems.map (·.data.toList)) sep.data.toList).toArray⟩ else none

/-- porterslodge portref2 line -/
def portref2_line (words : (List AnyV)) : Option ByteArray :=
  Option.bind (rangeB (fun k6 s14 => Option.bind (Option.bind (idx words (k6 : Int)) fun x39 => Option.bind (Option.bind (if x39.asStr.2 = true then Option.bind (appendL 8796093022208 s14 ([x39.asStr.1] : List ByteArray)) fun x69 => some x69 else Option.bind (if x39.asInt.2 = true then Option.bind (strconv_Itoa x39.asInt.1) fun x87 => Option.bind (appendL 8796093022208 s14 ([x87] : List ByteArray)) fun x96 => some x96 else some s14) fun s77 => some s77) fun s54 => some s54) fun s44 => some s44) fun s30 => some (.nx s30)) words.length 0 ([] : (List ByteArray))) fun o3 => o3.andThen (fun y => some y) fun s4 =>
  Option.bind (strings_Join s4 (⟨#[32]⟩ : ByteArray)) fun x110 =>
  Option.bind (catS x110 (⟨#[10]⟩ : ByteArray)) fun x114 =>
  some x114

/-- porterslodge portref2 PolicyString -/
def portref2_PolicyString (p : level_Policy) : Option (ByteArray × Int) :=
  Option.bind (portref2_PolicyFault p) fun x16 =>
  if (x16 != 0) = true then
    some ((⟨#[]⟩ : ByteArray), x16)
  else
    Option.bind (rangeB (fun k28 s34 => Option.bind (idx p.pauses (k28 : Int)) fun x47 => Option.bind (strconv_Itoa x47) fun x51 => Option.bind (catS (⟨#[32]⟩ : ByteArray) x51) fun x55 => Option.bind (catS s34 x55) fun x56 => some (.nx x56)) p.pauses.length 0 (⟨#[112, 97, 117, 115, 101]⟩ : ByteArray)) fun o25 => o25.andThen (fun y => some y) fun s26 =>
    Option.bind (catS s26 (⟨#[10]⟩ : ByteArray)) fun x60 =>
    Option.bind (rangeB (fun k68 s74 => Option.bind (α := Lp _ _) (Option.bind (idx p.levels (k68 : Int)) fun x95 => Option.bind (portref2_line ([(AnyV.str (⟨#[108, 101, 118, 101, 108]⟩ : ByteArray)), (AnyV.str x95.name)] : List AnyV)) fun x124 => Option.bind (catS s74 x124) fun x128 => Option.bind (rangeB (fun k136 s142 => Option.bind (α := Lp _ _) (Option.bind (idx x95.tests (k136 : Int)) fun x163 => Option.bind (α := Lp _ _) (Option.bind (α := Lp _ _) (if ((x163.value.kind == 2) && ((decide (x163.value.int < (-999999999999999999))) || (decide ((999999999999999999 : Int) < x163.value.int)))) = true then some (.rt ((⟨#[]⟩ : ByteArray), 2)) else Option.bind (if (x163.value.kind == 0) = true then Option.bind (portref2_line ([(AnyV.str (⟨#[119, 104, 101, 110]⟩ : ByteArray)), (AnyV.int x163.field), (AnyV.str (⟨#[110, 105, 108]⟩ : ByteArray))] : List AnyV)) fun x226 => Option.bind (catS s142 x226) fun x230 => some x230 else Option.bind (if (x163.value.kind == 3) = true then Option.bind (strconv_Itoa x163.field) fun x243 => Option.bind (catS (⟨#[119, 104, 101, 110, 32]⟩ : ByteArray) x243) fun x244 => Option.bind (catS x244 (⟨#[32, 116, 101, 120, 116, 32]⟩ : ByteArray)) fun x245 => Option.bind (catS x245 x163.value.text) fun x247 => Option.bind (catS x247 (⟨#[10]⟩ : ByteArray)) fun x248 => Option.bind (catS s142 x248) fun x249 => some x249 else Option.bind (idx portref2_valueWords x163.value.kind) fun x262 => Option.bind (portref2_line ([(AnyV.str (⟨#[119, 104, 101, 110]⟩ : ByteArray)), (AnyV.int x163.field), (AnyV.str x262), (AnyV.int x163.value.int)] : List AnyV)) fun x272 => Option.bind (catS s142 x272) fun x276 => some x276) fun s234 => some s234) fun s212 => some (.fin s212)) fun o201 => o201.andThen (fun y => some (.rt y)) fun s202 => some (.fin s202)) fun o186 => o186.andThen (fun y => some (.rt y)) fun s187 => some (.fin s187)) fun o155 => o155.andThen (fun y => some (.rt y)) fun s156 => some (.nx s156)) x95.tests.length 0 x128) fun o133 => o133.andThen (fun y => some (.rt y)) fun s134 => Option.bind (rangeB (fun k292 s298 => Option.bind (idx x95.targets (k292 : Int)) fun x311 => Option.bind (idx portref2_targetWords x311.kind) fun x331 => Option.bind (portref2_line ([(AnyV.str x331), (AnyV.int x311.minutes), (AnyV.int x311.calendar)] : List AnyV)) fun x342 => Option.bind (catS s298 x342) fun x346 => some (.nx x346)) x95.targets.length 0 s134) fun o289 => o289.andThen (fun y => some (.rt y)) fun s290 => some (.fin s290)) fun o87 => o87.andThen (fun y => some (.rt y)) fun s88 => some (.nx s88)) p.levels.length 0 x60) fun o65 => o65.andThen (fun y => some y) fun s66 =>
    some (s66, 0)

/-- porterslodge portlaw2 LevelChecks -/
noncomputable def portlaw2_LevelChecks (p : level_Policy) : Option Bool :=
  Option.bind (level_PolicyText p) fun x16 =>
  Option.bind (portref2_PolicyString p) fun x25 =>
  Option.bind (if ((strEq x16.1 x25.1) && (x16.2 == x25.2)) = true then (Option.bind (level_CheckPolicy p) fun x38 => Option.bind (portref2_PolicyFault p) fun x44 => some (x38 == x44)) else (some false)) fun s32 =>
  some s32

end Go.Proofs.YtpkkbbcflmbjeaaDoor.M
