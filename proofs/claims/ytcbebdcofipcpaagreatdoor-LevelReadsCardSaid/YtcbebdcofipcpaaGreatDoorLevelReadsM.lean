/-
  Written by program (gen.py) from the IR of the dump: plain models of the functions.
-/
import Derived.Test.YtcbebdcofipcpaaGreatDoorPu
import Derived.Lib.Index
import Derived.Lib.AtoiAll
import Derived.Lib.ItoaNum
import Derived.Lib.Index
import Derived.Lib.SlTrimSet
import Derived.Lib.Split
import Derived.Test.YtcbebdcofipcpaaGreatDoorPj
import Derived.Shelf.GgClosure.StringsIndexFunc
namespace Go.Proofs.YtcbebdcofipcpaaGreatDoor.M
open Go Go.Pu
set_option linter.unusedVariables false
set_option linter.unusedSimpArgs false

structure api_Value where
  kind : Int
  int : Int
  text : ByteArray

structure level_Test where
  field : Int
  value : api_Value

structure level_Target where
  kind : Int
  minutes : Int
  calendar : Int

structure level_Level where
  name : ByteArray
  tests : (List level_Test)
  targets : (List level_Target)

structure level_Policy where
  pauses : (List Int)
  levels : (List level_Level)

/-- portref2 targetWords -/
def portref2_targetWords : List ByteArray := [⟨#[]⟩, ⟨#[102, 105, 114, 115, 116]⟩, ⟨#[114, 101, 112, 108, 121]⟩, ⟨#[115, 111, 108, 118, 101]⟩]

/-- portref2 valueWords -/
def portref2_valueWords : List ByteArray := [⟨#[110, 105, 108]⟩, ⟨#[102, 108, 97, 103]⟩, ⟨#[110, 117, 109, 98, 101, 114]⟩, ⟨#[116, 101, 120, 116]⟩, ⟨#[99, 104, 111, 105, 99, 101]⟩, ⟨#[109, 111, 109, 101, 110, 116]⟩, ⟨#[112, 101, 114, 115, 111, 110]⟩]

/-- internal/stringslite.Index -/
def internal_stringslite_Index (s : ByteArray) (substr : ByteArray) : Option Int :=
  match substr.data.toList with
  | [c] => some (Go.Lib.indexByte s.data.toList c)
  | _ => none

/-- internal stringslite Cut -/
def internal_stringslite_Cut (s : ByteArray) (sep : ByteArray) : Option (ByteArray × ByteArray × Bool) :=
  Option.bind (internal_stringslite_Index s sep) fun x1 =>
  if (decide ((0 : Int) ≤ x1)) = true then
    Option.bind (sliceS s none (some x1)) fun x6 =>
    Option.bind (sliceS s (some (w64 (x1 + (sep.size : Int)))) none) fun x7 =>
    some (x6, x7, true)
  else
    some (s, (⟨#[]⟩ : ByteArray), false)

/-- strings Cut -/
def strings_Cut (s : ByteArray) (sep : ByteArray) : Option (ByteArray × ByteArray × Bool) :=
  Option.bind (internal_stringslite_Cut s sep) fun x1 =>
  some (x1.1, x1.2.1, x1.2.2)

/-- strings.genSplit -/
def strings_genSplit (s : ByteArray) (sep : ByteArray) (sepSave : Int) (n : Int) : Option (List ByteArray) :=
  if s.size < 4294967281 ∧ 1 ≤ sep.size ∧ 0 ≤ sepSave ∧ sepSave ≤ (sep.size : Int) ∧ (n = -1 ∨ 1 ≤ n ∧ n ≤ 1000000) then some (Go.Lib.splitB sep sepSave.toNat (min (if n < 0 then Go.Lib.countB s sep + 1 else n.toNat) (s.size + 1) - 1) s) else none

/-- strings Split -/
def strings_Split (s : ByteArray) (sep : ByteArray) : Option (List ByteArray) :=
  Option.bind (strings_genSplit s sep 0 (-1)) fun x1 =>
  some x1

/-- strconv.Atoi -/
def strconv_Atoi (s : ByteArray) : Option (Int × Bool) :=
  if s.size ≤ 281474976710656 then some (match Go.Lib.atoiAll s.data.toList with | .ok v => (v, false) | .range => (Go.Lib.atoiSat s.data.toList, true) | _ => (0, true)) else none

/-- strconv.Itoa -/
def strconv_Itoa (n : Int) : Option ByteArray :=
  if -9223372036854775808 ≤ n ∧ n ≤ 9223372036854775807 then some ⟨(Go.Lib.itoa n).toArray⟩ else none

/-- internal stringslite HasPrefix -/
def internal_stringslite_HasPrefix (s : ByteArray) (prefix_ : ByteArray) : Option Bool :=
  Option.bind (if (decide ((prefix_.size : Int) ≤ (s.size : Int))) = true then (Option.bind (sliceS s none (some (prefix_.size : Int))) fun x3 => some (strEq x3 prefix_)) else (some false)) fun s2 =>
  some s2

/-- internal stringslite TrimPrefix -/
def internal_stringslite_TrimPrefix (s : ByteArray) (prefix_ : ByteArray) : Option ByteArray :=
  Option.bind (internal_stringslite_HasPrefix s prefix_) fun x1 =>
  if x1 = true then
    Option.bind (sliceS s (some (prefix_.size : Int)) none) fun x3 =>
    some x3
  else
    some s

/-- strings TrimPrefix -/
def strings_TrimPrefix (s : ByteArray) (prefix_ : ByteArray) : Option ByteArray :=
  Option.bind (internal_stringslite_TrimPrefix s prefix_) fun x1 =>
  some x1

/-- porterslodge level number -/
def level_number (s : ByteArray) (digits : Int) : Option (Int × Bool) :=
  Option.bind (strconv_Atoi s) fun x1 =>
  Option.bind (if x1.2 = true then (if true = true then (some true) else (Option.bind (strings_TrimPrefix s (⟨#[45]⟩ : ByteArray)) fun x18 => some (decide (digits < (x18.size : Int))))) else (Option.bind (strconv_Itoa x1.1) fun x20 => if (!(strEq x20 s)) = true then (some true) else (Option.bind (strings_TrimPrefix s (⟨#[45]⟩ : ByteArray)) fun x26 => some (decide (digits < (x26.size : Int)))))) fun s8 =>
  if s8 = true then
    some (0, false)
  else
    some (x1.1, true)

/-- porterslodge level numbers -/
def level_numbers (words : (List ByteArray)) (digits : Int) : Option ((List Int) × Bool) :=
  Option.bind (rangeB (fun k6 s14 => Option.bind (idx words (k6 : Int)) fun x29 => Option.bind (level_number x29 digits) fun x33 => if (!x33.2) = true then some (.rt (([] : (List Int)), false)) else Option.bind (appendL 17592186044416 s14 ([x33.1] : List Int)) fun x43 => some (.nx x43)) words.length 0 ([] : (List Int))) fun o3 => o3.andThen (fun y => some y) fun s4 =>
  some (s4, true)

/-- internal stringslite CutPrefix -/
def internal_stringslite_CutPrefix (s : ByteArray) (prefix_ : ByteArray) : Option (ByteArray × Bool) :=
  Option.bind (internal_stringslite_HasPrefix s prefix_) fun x1 =>
  if (!x1) = true then
    some (s, false)
  else
    Option.bind (sliceS s (some (prefix_.size : Int)) none) fun x3 =>
    some (x3, true)

/-- strings CutPrefix -/
def strings_CutPrefix (s : ByteArray) (prefix_ : ByteArray) : Option (ByteArray × Bool) :=
  Option.bind (internal_stringslite_CutPrefix s prefix_) fun x1 =>
  some (x1.1, x1.2)

/-- porterslodge level kindWords -/
def level_kindWords  : Option (List ByteArray) :=
  some ([(⟨#[110, 105, 108]⟩ : ByteArray), (⟨#[102, 108, 97, 103]⟩ : ByteArray), (⟨#[110, 117, 109, 98, 101, 114]⟩ : ByteArray), (⟨#[116, 101, 120, 116]⟩ : ByteArray), (⟨#[99, 104, 111, 105, 99, 101]⟩ : ByteArray), (⟨#[109, 111, 109, 101, 110, 116]⟩ : ByteArray), (⟨#[112, 101, 114, 115, 111, 110]⟩ : ByteArray)] : List ByteArray)

/-- slices Index string string -/
def slices_Index_Lstring_string (s : (List ByteArray)) (v : ByteArray) : Option Int :=
  Option.bind (rangeB (fun k6 _ => Option.bind (idx s (k6 : Int)) fun x21 => if (strEq v x21) = true then some (.rt (k6 : Int)) else some (.nx ())) s.length 0 ()) fun o3 => o3.andThen (fun y => some y) fun s4 =>
  some (-1)

/-- porterslodge level readTest -/
def level_readTest (s : ByteArray) : Option (level_Test × Bool) :=
  Option.bind (strings_Cut s (⟨#[32]⟩ : ByteArray)) fun x6 =>
  Option.bind (strings_Cut x6.2.1 (⟨#[32]⟩ : ByteArray)) fun x10 =>
  Option.bind (level_kindWords) fun x14 =>
  Option.bind (slices_Index_Lstring_string x14 x10.1) fun x22 =>
  Option.bind (level_number x6.1 18) fun x31 =>
  if ((!x31.2) || (decide (x22 < 0))) = true then
    some ((⟨x31.1, (⟨x22, 0, ByteArray.empty⟩ : api_Value)⟩ : level_Test), false)
  else
    if (x22 == 0) = true then
      some ((⟨x31.1, (⟨x22, 0, ByteArray.empty⟩ : api_Value)⟩ : level_Test), !x10.2.2)
    else
      if (x22 == 3) = true then
        some ((⟨x31.1, (⟨x22, 0, x10.2.1⟩ : api_Value)⟩ : level_Test), x10.2.2)
      else
        Option.bind (level_number x10.2.1 18) fun x56 =>
        some ((⟨x31.1, (⟨x22, x56.1, ByteArray.empty⟩ : api_Value)⟩ : level_Test), (x56.2 && x10.2.2))

/-- porterslodge level targetWords -/
def level_targetWords  : Option (List ByteArray) :=
  some ([(⟨#[102, 105, 114, 115, 116]⟩ : ByteArray), (⟨#[114, 101, 112, 108, 121]⟩ : ByteArray), (⟨#[115, 111, 108, 118, 101]⟩ : ByteArray)] : List ByteArray)

/-- porterslodge level Policy line -/
def level_Policy_line (p : level_Policy) (s : ByteArray) (first : Bool) : Option (Bool × level_Policy) :=
  Option.bind (strings_Split s (⟨#[32]⟩ : ByteArray)) fun x5 =>
  Option.bind (idx x5 0) fun x12 =>
  if (!(first == (strEq x12 (⟨#[112, 97, 117, 115, 101]⟩ : ByteArray)))) = true then
    some (false, p)
  else
    if first = true then
      Option.bind (sliceL x5 (some 1) none) fun x18 =>
      Option.bind (level_numbers x18 18) fun x21 =>
      some (x21.2, (⟨x21.1, p.levels⟩ : level_Policy))
    else
      if (strEq x12 (⟨#[108, 101, 118, 101, 108]⟩ : ByteArray)) = true then
        Option.bind (appendL 2199023255552 p.levels ([(⟨ByteArray.empty, ([] : (List level_Test)), ([] : (List level_Target))⟩ : level_Level)] : List level_Level)) fun x44 =>
        Option.bind (strings_TrimPrefix s (⟨#[108, 101, 118, 101, 108, 32]⟩ : ByteArray)) fun x56 =>
        Option.bind (idx x44 (w64 ((x44.length : Int) - 1))) fun x57 =>
        Option.bind (setI x44 (w64 ((x44.length : Int) - 1)) ({ (x57 : level_Level) with name := x56 })) fun x72 =>
        Option.bind (if ((x5.length : Int) == 2) = true then (Option.bind (idx x5 1) fun x78 => some (!(strEq x78 (⟨#[]⟩ : ByteArray)))) else (some false)) fun s77 =>
        some (s77, (⟨p.pauses, x72⟩ : level_Policy))
      else
        if ((p.levels.length : Int) == 0) = true then
          some (false, p)
        else
          Option.bind (idx p.levels (w64 ((p.levels.length : Int) - 1))) fun x83 =>
          Option.bind (strings_CutPrefix s (⟨#[119, 104, 101, 110, 32]⟩ : ByteArray)) fun x91 =>
          if x91.2 = true then
            Option.bind (level_readTest x91.1) fun x93 =>
            Option.bind (appendL 3518437208883 x83.tests ([x93.1] : List level_Test)) fun x124 =>
            Option.bind (setI p.levels (w64 ((p.levels.length : Int) - 1)) ({ (x83 : level_Level) with tests := x124 })) fun x133 =>
            Option.bind (idx x133 (w64 ((p.levels.length : Int) - 1))) fun x137 =>
            some ((x93.2 && ((x137.targets.length : Int) == 0)), (⟨p.pauses, x133⟩ : level_Policy))
          else
            Option.bind (level_targetWords) fun x151 =>
            Option.bind (slices_Index_Lstring_string x151 x12) fun x159 =>
            Option.bind (sliceL x5 (some 1) none) fun x160 =>
            Option.bind (level_numbers x160 18) fun x163 =>
            if (((decide (x159 < 0)) || (!x163.2)) || ((x163.1.length : Int) != 2)) = true then
              some (false, p)
            else
              Option.bind (idx x163.1 0) fun x184 =>
              Option.bind (idx x163.1 1) fun x189 =>
              Option.bind (appendL 5864062014805 x83.targets ([(⟨w64 (1 + x159), x184, x189⟩ : level_Target)] : List level_Target)) fun x206 =>
              Option.bind (setI p.levels (w64 ((p.levels.length : Int) - 1)) ({ (x83 : level_Level) with targets := x206 })) fun x215 =>
              some (true, (⟨p.pauses, x215⟩ : level_Policy))

/-- porterslodge level within -/
def level_within (n : Int) (low : Int) (high : Int) : Bool :=
  ((decide (low ≤ n)) && (decide (n ≤ high)))

/-- porterslodge level name -/
noncomputable def level_name (s : ByteArray) : Option Bool :=
  Option.bind (whileB (fun s8 => if (decide (s8 < (s.size : Int))) = true then Option.bind (idxS s s8) fun x18 => if (((!((decide ((97 : Int) ≤ (x18.toNat : Int))) && (decide ((x18.toNat : Int) ≤ 122)))) && (!((decide ((48 : Int) ≤ (x18.toNat : Int))) && (decide ((x18.toNat : Int) ≤ 57))))) && ((x18.toNat : Int) != 95)) = true then some (.rt false) else some (.nx (w64 (s8 + 1))) else some (.bk s8)) 0) fun o1 => o1.andThen (fun y => some y) fun s2 =>
  some ((!(strEq s (⟨#[]⟩ : ByteArray))) && (decide ((s.size : Int) ≤ 20)))

/-- porterslodge level checkTest -/
noncomputable def level_checkTest (t : level_Test) (before : Int) : Option Int :=
  if (!(level_within t.field (-1) 19)) = true then
    some 2
  else
    if (decide (t.field ≤ before)) = true then
      some 5
    else
      if ((!(level_within t.value.kind 0 6)) || ((t.field == (-1)) && (t.value.kind != 2))) = true then
        some 10
      else
        if (((t.value.int != 0) && ((t.value.kind == 0) || (t.value.kind == 3))) || ((!(strEq t.value.text (⟨#[]⟩ : ByteArray))) && (t.value.kind != 3))) = true then
          some 1
        else
          Option.bind (Option.bind (if (t.value.kind == 1) = true then some (level_within t.value.int 0 1) else Option.bind (if (t.value.kind == 4) = true then some (level_within t.value.int 0 19) else Option.bind (if (t.value.kind == 5) = true then some (level_within t.value.int 0 3000000) else Option.bind (if (t.value.kind == 6) = true then some (level_within t.value.int 1 40) else some true) fun s79 => some s79) fun s70 => some s70) fun s61 => some s61) fun s52 => some s52) fun s46 =>
          if (!s46) = true then
            some 2
          else
            if (decide ((200 : Int) < (t.value.text.size : Int))) = true then
              some 4
            else
              Option.bind (whileB (fun s103 => if (decide (s103 < (t.value.text.size : Int))) = true then Option.bind (idxS t.value.text s103) fun x114 => Option.bind (if (decide ((x114.toNat : Int) < 32)) = true then (some true) else (some ((x114.toNat : Int) == 127))) fun s116 => if s116 = true then some (.rt 9) else some (.nx (w64 (s103 + 1))) else some (.bk s103)) 0) fun o96 => o96.andThen (fun y => some y) fun s97 =>
              some 0

/-- porterslodge level checkLevel -/
noncomputable def level_checkLevel (l : level_Level) : Option Int :=
  if (decide ((8 : Int) < (l.tests.length : Int))) = true then
    some 4
  else
    Option.bind (rangeB (fun k23 s29 => Option.bind (idx l.tests (k23 : Int)) fun x42 => Option.bind (level_checkTest x42 s29) fun x56 => if (x56 != 0) = true then some (.rt x56) else some (.nx x42.field)) l.tests.length 0 (-2)) fun o20 => o20.andThen (fun y => some y) fun s21 =>
    Option.bind (rangeB (fun k72 _ => Option.bind (idx l.targets (k72 : Int)) fun x91 => if (((!(level_within x91.kind 1 3)) || (!(level_within x91.minutes 0 100000))) || (!(level_within x91.calendar 0 19))) = true then some (.rt 2) else Option.bind (if (decide ((0 : Int) < (k72 : Int))) = true then (Option.bind (idx l.targets (w64 ((k72 : Int) - 1))) fun x119 => some (decide (x91.kind ≤ x119.kind))) else (some false)) fun s113 => if s113 = true then some (.rt 5) else some (.nx ())) l.targets.length 0 ()) fun o69 => o69.andThen (fun y => some y) fun s70 =>
    some 0

/-- porterslodge level CheckPolicy -/
noncomputable def level_CheckPolicy (p : level_Policy) : Option Int :=
  Option.bind (rangeB (fun k18 _ => Option.bind (idx p.pauses (k18 : Int)) fun x33 => if (!(level_within x33 1 4)) = true then some (.rt 2) else Option.bind (if (decide ((0 : Int) < (k18 : Int))) = true then (Option.bind (idx p.pauses (w64 ((k18 : Int) - 1))) fun x44 => some (decide (x33 ≤ x44))) else (some false)) fun s39 => if s39 = true then some (.rt 5) else some (.nx ())) p.pauses.length 0 ()) fun o15 => o15.andThen (fun y => some y) fun s16 =>
  if (decide ((20 : Int) < (p.levels.length : Int))) = true then
    some 4
  else
    Option.bind (rangeB (fun k69 s75 => Option.bind (idx p.levels (k69 : Int)) fun x88 => Option.bind (level_name x88.name) fun x112 => if (!x112) = true then some (.rt 3) else if ((mapGet s75 x88.name).getD false) = true then some (.rt 6) else Option.bind (level_checkLevel x88) fun x125 => if (x125 != 0) = true then some (.rt x125) else some (.nx (mapPut s75 x88.name true))) p.levels.length 0 ([] : List (ByteArray × Bool))) fun o66 => o66.andThen (fun y => some y) fun s67 =>
    some 0

/-- porterslodge level ReadPolicy -/
noncomputable def level_ReadPolicy (s : ByteArray) : Option (level_Policy × Int × Int) :=
  if (decide ((400000 : Int) < (s.size : Int))) = true then
    some ((⟨([] : (List Int)), ([] : (List level_Level))⟩ : level_Policy), 0, 4)
  else
    Option.bind (whileB (fun s32 => if ((!(strEq s32.1 (⟨#[]⟩ : ByteArray))) || (s32.2.1 == 1)) = true then Option.bind (strings_Cut s32.1 (⟨#[10]⟩ : ByteArray)) fun x54 => Option.bind (level_Policy_line s32.2.2.1 x54.1 (s32.2.1 == 1)) fun x58 => if ((!x58.1) || (!x54.2.2)) = true then some (.rt ((⟨([] : (List Int)), ([] : (List level_Level))⟩ : level_Policy), s32.2.1, 8)) else some (.nx (x54.2.1, w64 (s32.2.1 + 1), x58.2, s32.2.2.2)) else some (.bk (s32.1, s32.2.1, s32.2.2.1, s32.2.2.2))) (s, 1, (⟨([] : (List Int)), ([] : (List level_Level))⟩ : level_Policy), (⟨([] : (List Int)), ([] : (List level_Level))⟩ : level_Policy))) fun o15 => o15.andThen (fun y => some y) fun s16 =>
    Option.bind (level_CheckPolicy s16.2.2.1) fun x76 =>
    if (x76 != 0) = true then
      some ((⟨([] : (List Int)), ([] : (List level_Level))⟩ : level_Policy), 0, x76)
    else
      some (s16.2.2.1, 0, 0)

/-- strings SplitAfter -/
def strings_SplitAfter (s : ByteArray) (sep : ByteArray) : Option (List ByteArray) :=
  Option.bind (strings_genSplit s sep (sep.size : Int) (-1)) fun x1 =>
  some x1

/-- internal stringslite HasSuffix -/
def internal_stringslite_HasSuffix (s : ByteArray) (suffix : ByteArray) : Option Bool :=
  Option.bind (if (decide ((suffix.size : Int) ≤ (s.size : Int))) = true then (Option.bind (sliceS s (some (w64 ((s.size : Int) - (suffix.size : Int)))) none) fun x3 => some (strEq x3 suffix)) else (some false)) fun s2 =>
  some s2

/-- internal stringslite CutSuffix -/
def internal_stringslite_CutSuffix (s : ByteArray) (suffix : ByteArray) : Option (ByteArray × Bool) :=
  Option.bind (internal_stringslite_HasSuffix s suffix) fun x1 =>
  if (!x1) = true then
    some (s, false)
  else
    Option.bind (sliceS s none (some (w64 ((s.size : Int) - (suffix.size : Int))))) fun x3 =>
    some (x3, true)

/-- strings CutSuffix -/
def strings_CutSuffix (s : ByteArray) (suffix : ByteArray) : Option (ByteArray × Bool) :=
  Option.bind (internal_stringslite_CutSuffix s suffix) fun x1 =>
  some (x1.1, x1.2)

/-- porterslodge portref2 ReadPolicyOf 1 -/
def portref2_ReadPolicyOf_1 (p0 : Int) : Option (level_Policy × Int × Int) :=
  some ((⟨([] : (List Int)), ([] : (List level_Level))⟩ : level_Policy), w64 (p0 + 1), 8)

/-- strings.Trim -/
def strings_Trim (s : ByteArray) (cutset : ByteArray) : Option ByteArray :=
  if s.size ≤ 9223372036854775807 ∧ cutset.size < 4294967281 ∧ (cutset.data.toList.all fun b => decide (b.toNat < 128)) = true then some ⟨(Go.Lib.trimS s.data.toList cutset.data.toList).toArray⟩ else none

/-- porterslodge portref2 digits -/
def portref2_digits (s : ByteArray) (most : Int) : Option Bool :=
  Option.bind (if (!(strEq s (⟨#[]⟩ : ByteArray))) = true then (if (decide ((s.size : Int) ≤ most)) = true then (Option.bind (strings_Trim s (⟨#[48, 49, 50, 51, 52, 53, 54, 55, 56, 57]⟩ : ByteArray)) fun x11 => if (strEq x11 (⟨#[]⟩ : ByteArray)) = true then (if ((s.size : Int) == 1) = true then (some true) else (Option.bind (idxS s 0) fun x18 => some ((x18.toNat : Int) != 48))) else (some false)) else (if false = true then (if ((s.size : Int) == 1) = true then (some true) else (Option.bind (idxS s 0) fun x24 => some ((x24.toNat : Int) != 48))) else (some false))) else (if false = true then (Option.bind (strings_Trim s (⟨#[48, 49, 50, 51, 52, 53, 54, 55, 56, 57]⟩ : ByteArray)) fun x28 => if (strEq x28 (⟨#[]⟩ : ByteArray)) = true then (if ((s.size : Int) == 1) = true then (some true) else (Option.bind (idxS s 0) fun x35 => some ((x35.toNat : Int) != 48))) else (some false)) else (if false = true then (if ((s.size : Int) == 1) = true then (some true) else (Option.bind (idxS s 0) fun x41 => some ((x41.toNat : Int) != 48))) else (some false)))) fun s2 =>
  some s2

/-- porterslodge portref2 number -/
def portref2_number (s : ByteArray) (most : Int) : Option (Int × Bool) :=
  Option.bind (strings_TrimPrefix s (⟨#[45]⟩ : ByteArray)) fun x1 =>
  Option.bind (portref2_digits x1 most) fun x2 =>
  if ((!x2) || ((strEq x1 (⟨#[48]⟩ : ByteArray)) && (!(strEq s (⟨#[48]⟩ : ByteArray))))) = true then
    some (0, false)
  else
    Option.bind (strconv_Atoi s) fun x11 =>
    some (x11.1, (!x11.2))

/-- porterslodge portref2 lineNumbers -/
def portref2_lineNumbers (s : ByteArray) (most : Int) : Option (ByteArray × (List Int) × Bool) :=
  Option.bind (strings_Split s (⟨#[32]⟩ : ByteArray)) fun x1 =>
  Option.bind (sliceL x1 (some 1) none) fun x7 =>
  Option.bind (rangeB (fun k13 s21 => Option.bind (idx x7 (k13 : Int)) fun x36 => Option.bind (portref2_number x36 most) fun x40 => if (!x40.2) = true then some (.rt ((⟨#[]⟩ : ByteArray), ([] : (List Int)), false)) else Option.bind (appendL 17592186044416 s21 ([x40.1] : List Int)) fun x50 => some (.nx x50)) x7.length 0 ([] : (List Int))) fun o10 => o10.andThen (fun y => some y) fun s11 =>
  Option.bind (idx x1 0) fun x59 =>
  some (x59, s11, true)

/-- strings.Contains -/
def strings_Contains (s : ByteArray) (substr : ByteArray) : Option Bool :=
  match substr.data.toList with
  | [c] => some (decide (0 ≤ Go.Lib.indexByte s.data.toList c))
  | _ => none

/-- strings SplitN -/
def strings_SplitN (s : ByteArray) (sep : ByteArray) (n : Int) : Option (List ByteArray) :=
  Option.bind (strings_genSplit s sep 0 n) fun x1 =>
  some x1

/-- porterslodge portref2 readTest -/
def portref2_readTest (t : ByteArray) : Option (level_Test × Bool) :=
  Option.bind (strings_SplitN t (⟨#[32]⟩ : ByteArray) 4) fun x6 =>
  Option.bind (if (decide ((x6.length : Int) < 3)) = true then (some true) else (Option.bind (idx x6 0) fun x14 => some (!(strEq x14 (⟨#[119, 104, 101, 110]⟩ : ByteArray))))) fun s13 =>
  if s13 = true then
    some ((⟨0, (⟨0, 0, ByteArray.empty⟩ : api_Value)⟩ : level_Test), false)
  else
    Option.bind (idx x6 1) fun x22 =>
    Option.bind (portref2_number x22 18) fun x26 =>
    Option.bind (idx x6 2) fun x33 =>
    Option.bind (slices_Index_Lstring_string portref2_valueWords x33) fun x37 =>
    if ((!x26.2) || (decide (x37 < 0))) = true then
      some ((⟨0, (⟨0, 0, ByteArray.empty⟩ : api_Value)⟩ : level_Test), false)
    else
      if (x37 == 0) = true then
        some ((⟨x26.1, (⟨x37, 0, ByteArray.empty⟩ : api_Value)⟩ : level_Test), (x6.length : Int) == 3)
      else
        if ((x6.length : Int) != 4) = true then
          some ((⟨0, (⟨0, 0, ByteArray.empty⟩ : api_Value)⟩ : level_Test), false)
        else
          if (x37 == 3) = true then
            Option.bind (idx x6 3) fun x64 =>
            some ((⟨x26.1, (⟨x37, 0, x64⟩ : api_Value)⟩ : level_Test), true)
          else
            Option.bind (idx x6 3) fun x74 =>
            Option.bind (portref2_number x74 18) fun x78 =>
            some ((⟨x26.1, (⟨x37, x78.1, ByteArray.empty⟩ : api_Value)⟩ : level_Test), x78.2)

/-- porterslodge portref2 IsName -/
def portref2_IsName (s : ByteArray) : Option Bool :=
  Option.bind (if (decide ((1 : Int) ≤ (s.size : Int))) = true then (if (decide ((s.size : Int) ≤ 20)) = true then (Option.bind (strings_Trim s (⟨#[97, 98, 99, 100, 101, 102, 103, 104, 105, 106, 107, 108, 109, 110, 111, 112, 113, 114, 115, 116, 117, 118, 119, 120, 121, 122, 48, 49, 50, 51, 52, 53, 54, 55, 56, 57, 95]⟩ : ByteArray)) fun x11 => some (strEq x11 (⟨#[]⟩ : ByteArray))) else (some false)) else (if false = true then (Option.bind (strings_Trim s (⟨#[97, 98, 99, 100, 101, 102, 103, 104, 105, 106, 107, 108, 109, 110, 111, 112, 113, 114, 115, 116, 117, 118, 119, 120, 121, 122, 48, 49, 50, 51, 52, 53, 54, 55, 56, 57, 95]⟩ : ByteArray)) fun x18 => some (strEq x18 (⟨#[]⟩ : ByteArray))) else (some false))) fun s2 =>
  some s2

/-- slices IndexFunc porterslodge level Level porterslodge level Level -/
def slices_IndexFunc_Llevel_Level_level_Level (s : (List level_Level)) (f : level_Level → Option Bool) : Option Int :=
  Option.bind (rangeB (fun k6 _ => Option.bind (idx s (k6 : Int)) fun x25 => Option.bind (f x25) fun x34 => if x34 = true then some (.rt (k6 : Int)) else some (.nx ())) s.length 0 ()) fun o3 => o3.andThen (fun y => some y) fun s4 =>
  some (-1)

/-- slices ContainsFunc porterslodge level Level porterslodge level Level -/
def slices_ContainsFunc_Llevel_Level_level_Level (s : (List level_Level)) (f : level_Level → Option Bool) : Option Bool :=
  Option.bind (slices_IndexFunc_Llevel_Level_level_Level s f) fun x3 =>
  some (decide ((0 : Int) ≤ x3))

/-- porterslodge portref2 levelFault 1 -/
def portref2_levelFault_1 (y : level_Level) (p1 : level_Level) : Option Bool :=
  some (strEq y.name p1.name)

/-- porterslodge portref2 IsMoment -/
def portref2_IsMoment (m : Int) : Bool :=
  ((decide ((0 : Int) ≤ m)) && (decide (m ≤ 3000000)))

/-- porterslodge portref2 lowByte 1 -/
def portref2_lowByte_1 (r_ : Int) : Bool :=
  ((decide (r_ < 32)) || (r_ == 127))

/-- porterslodge portref2 lowByte -/
def portref2_lowByte (s : ByteArray) : Option Bool :=
  some (decide (0 ≤ Go.Lib.idxFunc (fun y => portref2_lowByte_1 (y : Int)) true s))

/-- porterslodge portref2 testFault -/
def portref2_testFault (t : level_Test) : Option Int :=
  if (((decide (t.value.kind < 0)) || (decide ((6 : Int) < t.value.kind))) || ((decide (t.field < 0)) && (t.value.kind != 2))) = true then
    some 10
  else
    Option.bind (if ((!(strEq t.value.text (⟨#[]⟩ : ByteArray))) && (t.value.kind != 3)) = true then some ((!(strEq t.value.text (⟨#[]⟩ : ByteArray))) && (t.value.kind != 3)) else some ((t.value.int != 0) && ((t.value.kind == 3) || (t.value.kind == 0)))) fun s33 =>
    if s33 = true then
      some 1
    else
      Option.bind (if (((t.value.kind == 1) && (t.value.int != 0)) && (t.value.int != 1)) = true then some (((t.value.kind == 1) && (t.value.int != 0)) && (t.value.int != 1)) else Option.bind (if ((t.value.kind == 4) && ((decide (t.value.int < 0)) || (decide ((20 : Int) ≤ t.value.int)))) = true then some ((t.value.kind == 4) && ((decide (t.value.int < 0)) || (decide ((20 : Int) ≤ t.value.int)))) else Option.bind (if ((t.value.kind == 5) && (!(portref2_IsMoment t.value.int))) = true then some ((t.value.kind == 5) && (!(portref2_IsMoment t.value.int))) else some ((t.value.kind == 6) && ((decide (t.value.int < 1)) || (decide ((40 : Int) < t.value.int))))) fun s84 => some s84) fun s72 => some s72) fun s57 =>
      if s57 = true then
        some 2
      else
        if (decide ((200 : Int) < (t.value.text.size : Int))) = true then
          some 4
        else
          Option.bind (portref2_lowByte t.value.text) fun x105 =>
          if x105 = true then
            some 9
          else
            some 0

/-- porterslodge portref2 levelFault -/
def portref2_levelFault (l : (List level_Level)) (i_ : Int) : Option Int :=
  Option.bind (idx l i_) fun x3 =>
  Option.bind (portref2_IsName x3.name) fun x27 =>
  if (!x27) = true then
    some 3
  else
    Option.bind (sliceL l none (some i_)) fun x32 =>
    Option.bind (slices_ContainsFunc_Llevel_Level_level_Level x32 (fun y35 => portref2_levelFault_1 y35 x3)) fun x36 =>
    if x36 = true then
      some 6
    else
      if (decide ((8 : Int) < (x3.tests.length : Int))) = true then
        some 4
      else
        Option.bind (rangeB (fun k65 _ => Option.bind (idx x3.tests (k65 : Int)) fun x84 => if ((decide (x84.field < (-1))) || (decide ((20 : Int) ≤ x84.field))) = true then some (.rt 2) else Option.bind (if (decide ((0 : Int) < (k65 : Int))) = true then (Option.bind (idx x3.tests (w64 ((k65 : Int) - 1))) fun x109 => some (decide (x84.field ≤ x109.field))) else (some false)) fun s103 => if s103 = true then some (.rt 5) else Option.bind (portref2_testFault x84) fun x119 => if (x119 != 0) = true then some (.rt x119) else some (.nx ())) x3.tests.length 0 ()) fun o62 => o62.andThen (fun y => some y) fun s63 =>
        Option.bind (rangeB (fun k134 _ => Option.bind (idx x3.targets (k134 : Int)) fun x153 => if ((((((decide (x153.kind < 1)) || (decide ((3 : Int) < x153.kind))) || (decide (x153.minutes < 0))) || (decide ((100000 : Int) < x153.minutes))) || (decide (x153.calendar < 0))) || (decide ((20 : Int) ≤ x153.calendar))) = true then some (.rt 2) else Option.bind (if (decide ((0 : Int) < (k134 : Int))) = true then (Option.bind (idx x3.targets (w64 ((k134 : Int) - 1))) fun x190 => some (decide (x153.kind ≤ x190.kind))) else (some false)) fun s184 => if s184 = true then some (.rt 5) else some (.nx ())) x3.targets.length 0 ()) fun o131 => o131.andThen (fun y => some y) fun s132 =>
        some 0

/-- porterslodge portref2 PolicyFault -/
def portref2_PolicyFault (p : level_Policy) : Option Int :=
  Option.bind (rangeB (fun k19 _ => Option.bind (idx p.pauses (k19 : Int)) fun x34 => if ((decide (x34 < 1)) || (decide ((4 : Int) < x34))) = true then some (.rt 2) else Option.bind (if (decide ((0 : Int) < (k19 : Int))) = true then (Option.bind (idx p.pauses (w64 ((k19 : Int) - 1))) fun x47 => some (decide (x34 ≤ x47))) else (some false)) fun s42 => if s42 = true then some (.rt 5) else some (.nx ())) p.pauses.length 0 ()) fun o16 => o16.andThen (fun y => some y) fun s17 =>
  if (decide ((20 : Int) < (p.levels.length : Int))) = true then
    some 4
  else
    Option.bind (rangeB (fun k69 _ => Option.bind (portref2_levelFault p.levels (k69 : Int)) fun x92 => if (x92 != 0) = true then some (.rt x92) else some (.nx ())) p.levels.length 0 ()) fun o66 => o66.andThen (fun y => some y) fun s67 =>
    some 0

/-- porterslodge portref2 ReadPolicyOf -/
def portref2_ReadPolicyOf (s : ByteArray) : Option (level_Policy × Int × Int) :=
  if (decide ((400000 : Int) < (s.size : Int))) = true then
    some ((⟨([] : (List Int)), ([] : (List level_Level))⟩ : level_Policy), 0, 4)
  else
    Option.bind (strings_SplitAfter s (⟨#[10]⟩ : ByteArray)) fun x15 =>
    Option.bind (rangeB (fun k24 s38 => Option.bind (idx x15 (k24 : Int)) fun x59 => if (((strEq x59 (⟨#[]⟩ : ByteArray)) && ((k24 : Int) == (w64 ((x15.length : Int) - 1)))) && (decide ((0 : Int) < (k24 : Int)))) = true then some (.bk (s38.1, s38.2)) else Option.bind (strings_CutSuffix x59 (⟨#[10]⟩ : ByteArray)) fun x78 => if (!x78.2) = true then Option.bind (portref2_ReadPolicyOf_1 (k24 : Int)) fun x80 => some (.rt (x80.1, x80.2.1, x80.2.2)) else if ((k24 : Int) == 0) = true then Option.bind (portref2_lineNumbers x78.1 18) fun x98 => if ((!(strEq x98.1 (⟨#[112, 97, 117, 115, 101]⟩ : ByteArray))) || (!x98.2.2)) = true then Option.bind (portref2_ReadPolicyOf_1 (k24 : Int)) fun x109 => some (.rt (x109.1, x109.2.1, x109.2.2)) else some (.nx ((⟨x98.2.1, s38.1.levels⟩ : level_Policy), s38.2)) else Option.bind (strings_CutPrefix x78.1 (⟨#[108, 101, 118, 101, 108, 32]⟩ : ByteArray)) fun x133 => if x133.2 = true then Option.bind (if (strEq x133.1 (⟨#[]⟩ : ByteArray)) = true then (some true) else (Option.bind (strings_Contains x133.1 (⟨#[32]⟩ : ByteArray)) fun x145 => some x145)) fun s136 => if s136 = true then Option.bind (portref2_ReadPolicyOf_1 (k24 : Int)) fun x151 => some (.rt (x151.1, x151.2.1, x151.2.2)) else Option.bind (appendL 2199023255552 s38.1.levels ([(⟨x133.1, ([] : (List level_Test)), ([] : (List level_Target))⟩ : level_Level)] : List level_Level)) fun x173 => some (.nx ((⟨s38.1.pauses, x173⟩ : level_Policy), s38.2)) else if ((s38.1.levels.length : Int) == 0) = true then Option.bind (portref2_ReadPolicyOf_1 (k24 : Int)) fun x187 => some (.rt (x187.1, x187.2.1, x187.2.2)) else Option.bind (idx s38.1.levels (w64 ((s38.1.levels.length : Int) - 1))) fun x204 => Option.bind (portref2_readTest x78.1) fun x209 => if x209.2 = true then if (decide ((0 : Int) < (x204.targets.length : Int))) = true then Option.bind (portref2_ReadPolicyOf_1 (k24 : Int)) fun x227 => some (.rt (x227.1, x227.2.1, x227.2.2)) else Option.bind (appendL 3518437208883 x204.tests ([x209.1] : List level_Test)) fun x263 => Option.bind (setI s38.1.levels (w64 ((s38.1.levels.length : Int) - 1)) ({ (x204 : level_Level) with tests := x263 })) fun x272 => some (.nx ((⟨s38.1.pauses, x272⟩ : level_Policy), s38.2)) else Option.bind (portref2_lineNumbers x78.1 18) fun x277 => Option.bind (slices_Index_Lstring_string portref2_targetWords x277.1) fun x288 => if (((!x277.2.2) || (decide (x288 < 1))) || ((x277.2.1.length : Int) != 2)) = true then Option.bind (portref2_ReadPolicyOf_1 (k24 : Int)) fun x294 => some (.rt (x294.1, x294.2.1, x294.2.2)) else Option.bind (idx x277.2.1 0) fun x319 => Option.bind (idx x277.2.1 1) fun x324 => Option.bind (appendL 5864062014805 x204.targets ([(⟨x288, x319, x324⟩ : level_Target)] : List level_Target)) fun x340 => Option.bind (setI s38.1.levels (w64 ((s38.1.levels.length : Int) - 1)) ({ (x204 : level_Level) with targets := x340 })) fun x349 => some (.nx ((⟨s38.1.pauses, x349⟩ : level_Policy), s38.2))) x15.length 0 ((⟨([] : (List Int)), ([] : (List level_Level))⟩ : level_Policy), (⟨([] : (List Int)), ([] : (List level_Level))⟩ : level_Policy))) fun o21 => o21.andThen (fun y => some y) fun s22 =>
    Option.bind (portref2_PolicyFault s22.1) fun x356 =>
    if (x356 != 0) = true then
      some ((⟨([] : (List Int)), ([] : (List level_Level))⟩ : level_Policy), 0, x356)
    else
      some (s22.1, 0, 0)

/-- slices Equal int int -/
def slices_Equal_Lint_int (s1 : (List Int)) (s2 : (List Int)) : Option Bool :=
  if ((s1.length : Int) != (s2.length : Int)) = true then
    some false
  else
    Option.bind (rangeB (fun k9 _ => Option.bind (idx s1 (k9 : Int)) fun x29 => Option.bind (idx s2 (k9 : Int)) fun x33 => if (x29 != x33) = true then some (.rt false) else some (.nx ())) s1.length 0 ()) fun o6 => o6.andThen (fun y => some y) fun s7 =>
    some true

/-- slices EqualFunc porterslodge level Level porterslodge level Level porterslodge level Level porterslodge level Level -/
def slices_EqualFunc_Llevel_Level_Llevel_Level_level_Level_level_Level (s1 : (List level_Level)) (s2 : (List level_Level)) (eq : level_Level → level_Level → Option Bool) : Option Bool :=
  if ((s1.length : Int) != (s2.length : Int)) = true then
    some false
  else
    Option.bind (rangeB (fun k9 _ => Option.bind (idx s1 (k9 : Int)) fun x29 => Option.bind (idx s2 (k9 : Int)) fun x52 => Option.bind (eq x29 x52) fun x86 => if (!x86) = true then some (.rt false) else some (.nx ())) s1.length 0 ()) fun o6 => o6.andThen (fun y => some y) fun s7 =>
    some true

/-- slices Equal porterslodge level Test porterslodge level Test -/
def slices_Equal_Llevel_Test_level_Test (s1 : (List level_Test)) (s2 : (List level_Test)) : Option Bool :=
  if ((s1.length : Int) != (s2.length : Int)) = true then
    some false
  else
    Option.bind (rangeB (fun k9 _ => Option.bind (idx s1 (k9 : Int)) fun x29 => Option.bind (idx s2 (k9 : Int)) fun x34 => if (!(x29.field == x34.field && (x29.value.kind == x34.value.kind && (x29.value.int == x34.value.int && (strEq x29.value.text x34.value.text))))) = true then some (.rt false) else some (.nx ())) s1.length 0 ()) fun o6 => o6.andThen (fun y => some y) fun s7 =>
    some true

/-- slices Equal porterslodge level Target porterslodge level Target -/
def slices_Equal_Llevel_Target_level_Target (s1 : (List level_Target)) (s2 : (List level_Target)) : Option Bool :=
  if ((s1.length : Int) != (s2.length : Int)) = true then
    some false
  else
    Option.bind (rangeB (fun k9 _ => Option.bind (idx s1 (k9 : Int)) fun x29 => Option.bind (idx s2 (k9 : Int)) fun x34 => if (!(x29.kind == x34.kind && (x29.minutes == x34.minutes && (x29.calendar == x34.calendar)))) = true then some (.rt false) else some (.nx ())) s1.length 0 ()) fun o6 => o6.andThen (fun y => some y) fun s7 =>
    some true

/-- porterslodge portref2 Alike 8 -/
def portref2_Alike_8 (a_ : level_Level) (b : level_Level) : Option Bool :=
  Option.bind (if (strEq a_.name b.name) = true then (Option.bind (slices_Equal_Llevel_Test_level_Test a_.tests b.tests) fun x41 => if x41 = true then (Option.bind (slices_Equal_Llevel_Target_level_Target a_.targets b.targets) fun x54 => some x54) else (some false)) else (if false = true then (Option.bind (slices_Equal_Llevel_Target_level_Target a_.targets b.targets) fun x69 => some x69) else (some false))) fun s23 =>
  some s23

/-- porterslodge portref2 Alike -/
def portref2_Alike (a_ : level_Policy) (b : level_Policy) : Option Bool :=
  Option.bind (if true = true then (Option.bind (slices_Equal_Lint_int a_.pauses b.pauses) fun x54 => if x54 = true then (Option.bind (slices_EqualFunc_Llevel_Level_Llevel_Level_level_Level_level_Level a_.levels b.levels (fun y67 y68 => portref2_Alike_8 y67 y68)) fun x69 => some x69) else (some false)) else (if false = true then (Option.bind (slices_EqualFunc_Llevel_Level_Llevel_Level_level_Level_level_Level a_.levels b.levels (fun y102 y103 => portref2_Alike_8 y102 y103)) fun x104 => some x104) else (some false))) fun s38 =>
  some s38

/-- porterslodge portlaw2 LevelReads -/
noncomputable def portlaw2_LevelReads (s : ByteArray) : Option Bool :=
  Option.bind (level_ReadPolicy s) fun x1 =>
  Option.bind (portref2_ReadPolicyOf s) fun x23 =>
  Option.bind (if (x1.2.1 == x23.2.1) = true then (if (x1.2.2 == x23.2.2) = true then (Option.bind (portref2_Alike x1.1 x23.1) fun x66 => some x66) else (some false)) else (if false = true then (Option.bind (portref2_Alike x1.1 x23.1) fun x83 => some x83) else (some false))) fun s47 =>
  some s47

end Go.Proofs.YtcbebdcofipcpaaGreatDoor.M
