/-
  Written by program (gen.py) from the IR of the dump: plain models of the functions.
-/
import Derived.Test.YtebbjefkndfkpaaGreatDoorPu
import Derived.Lib.Index
import Derived.Lib.AtoiAll
import Derived.Lib.ItoaNum
import Derived.Lib.SlTrimSet
import Derived.Lib.Split
namespace Go.Proofs.YtebbjefkndfkpaaGreatDoor.M
open Go Go.Pu
set_option linter.unusedVariables false
set_option linter.unusedSimpArgs false

structure cal_Change where
  at_ : Int
  offset : Int

structure cal_Zone where
  offset : Int
  changes : (List cal_Change)

structure cal_Shift where
  day : Int
  from_ : Int
  to_ : Int

structure cal_Special where
  day : Int
  shifts : (List cal_Shift)

structure cal_Calendar where
  zone : cal_Zone
  week : (List cal_Shift)
  specials : (List cal_Special)

/-- internal/stringslite.Index -/
def internal_stringslite_Index (s : ByteArray) (substr : ByteArray) : Option Int :=
  match substr.data.toList with
  | [c] => some (Go.Lib.indexByte s.data.toList c)
  | _ => none

/-- internal stringslite Cut -/
def internal_stringslite_Cut (s : ByteArray) (sep : ByteArray) : Option (ByteArray × ByteArray × Bool) :=
  Option.bind (internal_stringslite_Index s sep) fun x1 =>
  if (decide ((0 : Int) ≤ x1)) = true then
    Option.bind (sliceS s none (some x1)) fun x6 =>
    Option.bind (sliceS s (some (w64 (x1 + (sep.size : Int)))) none) fun x7 =>
    some (x6, x7, true)
  else
    some (s, (⟨#[]⟩ : ByteArray), false)

/-- strings Cut -/
def strings_Cut (s : ByteArray) (sep : ByteArray) : Option (ByteArray × ByteArray × Bool) :=
  Option.bind (internal_stringslite_Cut s sep) fun x1 =>
  some (x1.1, x1.2.1, x1.2.2)

/-- strings.genSplit -/
def strings_genSplit (s : ByteArray) (sep : ByteArray) (sepSave : Int) (n : Int) : Option (List ByteArray) :=
  if s.size < 4294967281 ∧ 1 ≤ sep.size ∧ 0 ≤ sepSave ∧ sepSave ≤ (sep.size : Int) ∧ n = -1 then some (Go.Lib.splitB sep sepSave.toNat (min (Go.Lib.countB s sep + 1) (s.size + 1) - 1) s) else none

/-- strings Split -/
def strings_Split (s : ByteArray) (sep : ByteArray) : Option (List ByteArray) :=
  Option.bind (strings_genSplit s sep 0 (-1)) fun x1 =>
  some x1

/-- slices Index string string -/
def slices_Index_Lstring_string (s : (List ByteArray)) (v : ByteArray) : Option Int :=
  Option.bind (rangeB (fun k6 _ => Option.bind (idx s (k6 : Int)) fun x21 => if (strEq v x21) = true then some (.rt (k6 : Int)) else some (.nx ())) s.length 0 ()) fun o3 => o3.andThen (fun y => some y) fun s4 =>
  some (-1)

/-- strconv.Atoi -/
def strconv_Atoi (s : ByteArray) : Option (Int × Bool) :=
  if s.size ≤ 281474976710656 then some (match Go.Lib.atoiAll s.data.toList with | .ok v => (v, false) | .range => (Go.Lib.atoiSat s.data.toList, true) | _ => (0, true)) else none

/-- strconv.Itoa -/
def strconv_Itoa (n : Int) : Option ByteArray :=
  if -9223372036854775808 ≤ n ∧ n ≤ 9223372036854775807 then some ⟨(Go.Lib.itoa n).toArray⟩ else none

/-- internal stringslite HasPrefix -/
def internal_stringslite_HasPrefix (s : ByteArray) (prefix_ : ByteArray) : Option Bool :=
  Option.bind (if (decide ((prefix_.size : Int) ≤ (s.size : Int))) = true then (Option.bind (sliceS s none (some (prefix_.size : Int))) fun x3 => some (strEq x3 prefix_)) else (some false)) fun s2 =>
  some s2

/-- internal stringslite TrimPrefix -/
def internal_stringslite_TrimPrefix (s : ByteArray) (prefix_ : ByteArray) : Option ByteArray :=
  Option.bind (internal_stringslite_HasPrefix s prefix_) fun x1 =>
  if x1 = true then
    Option.bind (sliceS s (some (prefix_.size : Int)) none) fun x3 =>
    some x3
  else
    some s

/-- strings TrimPrefix -/
def strings_TrimPrefix (s : ByteArray) (prefix_ : ByteArray) : Option ByteArray :=
  Option.bind (internal_stringslite_TrimPrefix s prefix_) fun x1 =>
  some x1

/-- porterslodge cal number -/
def cal_number (s : ByteArray) (digits : Int) : Option (Int × Bool) :=
  Option.bind (strconv_Atoi s) fun x1 =>
  Option.bind (if x1.2 = true then (if true = true then (some true) else (Option.bind (strings_TrimPrefix s (⟨#[45]⟩ : ByteArray)) fun x18 => some (decide (digits < (x18.size : Int))))) else (Option.bind (strconv_Itoa x1.1) fun x20 => if (!(strEq x20 s)) = true then (some true) else (Option.bind (strings_TrimPrefix s (⟨#[45]⟩ : ByteArray)) fun x26 => some (decide (digits < (x26.size : Int)))))) fun s8 =>
  if s8 = true then
    some (0, false)
  else
    some (x1.1, true)

/-- porterslodge cal Calendar take -/
noncomputable def cal_Calendar_take (c : cal_Calendar) (line : ByteArray) (before : Int) : Option (Int × Bool × cal_Calendar) :=
  Option.bind (strings_Split line (⟨#[32]⟩ : ByteArray)) fun x7 =>
  Option.bind (idx x7 0) fun x18 =>
  Option.bind (slices_Index_Lstring_string ([(⟨#[122, 111, 110, 101]⟩ : ByteArray), (⟨#[99, 104, 97, 110, 103, 101]⟩ : ByteArray), (⟨#[115, 104, 105, 102, 116]⟩ : ByteArray), (⟨#[100, 97, 121]⟩ : ByteArray)] : List ByteArray) x18) fun x22 =>
  if ((((decide (x22 < 0)) || (decide (x22 < before))) || ((decide (before < 0)) && (x22 != 0))) || ((before == 0) && (x22 == 0))) = true then
    some (0, false, c)
  else
    Option.bind (sliceL x7 (some 1) none) fun x34 =>
    Option.bind (rangeB (fun k40 s48 => Option.bind (idx x34 (k40 : Int)) fun x63 => Option.bind (cal_number x63 9) fun x67 => if (!x67.2) = true then some (.rt (0, false, c)) else Option.bind (appendL 17592186044416 s48 ([x67.1] : List Int)) fun x77 => some (.nx x77)) x34.length 0 ([] : (List Int))) fun o37 => o37.andThen (fun y => some y) fun s38 =>
    Option.bind (α := Lp _ _) (Option.bind (α := Lp _ _) (if ((x22 == 0) && ((s38.length : Int) == 1)) = true then Option.bind (idx s38 0) fun x117 => some (.fin (⟨(⟨x117, c.zone.changes⟩ : cal_Zone), c.week, c.specials⟩ : cal_Calendar)) else Option.bind (α := Lp _ _) (if ((x22 == 1) && ((s38.length : Int) == 2)) = true then Option.bind (idx s38 0) fun x146 => Option.bind (idx s38 1) fun x151 => Option.bind (appendL 8796093022208 c.zone.changes ([(⟨x146, x151⟩ : cal_Change)] : List cal_Change)) fun x161 => some (.fin (⟨(⟨c.zone.offset, x161⟩ : cal_Zone), c.week, c.specials⟩ : cal_Calendar)) else Option.bind (α := Lp _ _) (if ((x22 == 2) && ((s38.length : Int) == 3)) = true then Option.bind (idx s38 0) fun x194 => Option.bind (idx s38 1) fun x199 => Option.bind (idx s38 2) fun x204 => Option.bind (appendL 5864062014805 c.week ([(⟨x194, x199, x204⟩ : cal_Shift)] : List cal_Shift)) fun x214 => some (.fin (⟨c.zone, x214, c.specials⟩ : cal_Calendar)) else if ((x22 == 3) && ((Int.tmod (s38.length : Int) 2) == 1)) = true then Option.bind (idx s38 0) fun x230 => Option.bind (whileB (fun s254 => if (decide (s254.1 < (s38.length : Int))) = true then Option.bind (idx s38 s254.1) fun x271 => Option.bind (idx s38 (w64 (s254.1 + 1))) fun x276 => Option.bind (appendL 5864062014805 s254.2.shifts ([(⟨0, x271, x276⟩ : cal_Shift)] : List cal_Shift)) fun x286 => some (.nx (w64 (s254.1 + 2), (⟨s254.2.day, x286⟩ : cal_Special))) else some (.bk (s254.1, s254.2))) (1, (⟨x230, ([] : (List cal_Shift))⟩ : cal_Special))) fun o243 => o243.andThen (fun y => some (.rt y)) fun s244 => Option.bind (appendL 4398046511104 c.specials ([s244.2] : List cal_Special)) fun x317 => some (.fin (⟨c.zone, c.week, x317⟩ : cal_Calendar)) else some (.rt (0, false, c))) fun o176 => o176.andThen (fun y => some (.rt y)) fun s177 => some (.fin s177)) fun o128 => o128.andThen (fun y => some (.rt y)) fun s129 => some (.fin s129)) fun o102 => o102.andThen (fun y => some (.rt y)) fun s103 => some (.fin s103)) fun o86 => o86.andThen (fun y => some y) fun s87 =>
    some (x22, true, s87)

/-- porterslodge cal within -/
def cal_within (n : Int) (low : Int) (high : Int) : Bool :=
  ((decide (low ≤ n)) && (decide (n ≤ high)))

/-- porterslodge cal CheckZone -/
def cal_CheckZone (z : cal_Zone) : Option Int :=
  if (!(cal_within z.offset (-1440) 1440)) = true then
    some 2
  else
    if (decide ((60 : Int) < (z.changes.length : Int))) = true then
      some 4
    else
      Option.bind (rangeB (fun k27 s33 => Option.bind (idx z.changes (k27 : Int)) fun x46 => if ((!(cal_within x46.at_ 1 3000000)) || (!(cal_within x46.offset (-1440) 1440))) = true then some (.rt 2) else if (decide (x46.at_ ≤ s33.1)) = true then some (.rt 5) else if (x46.offset == s33.2) = true then some (.rt 1) else some (.nx (x46.at_, x46.offset))) z.changes.length 0 (0, z.offset)) fun o24 => o24.andThen (fun y => some y) fun s25 =>
      some 0

/-- cmp isNaN int -/
def cmp_isNaN_int (x : Int) : Bool :=
  x != x

/-- cmp Compare int -/
def cmp_Compare_int (x : Int) (y : Int) : Int :=
  if (cmp_isNaN_int x) = true then
    if (cmp_isNaN_int y) = true then
      0
    else
      (-1)
  else
    if (cmp_isNaN_int y) = true then
      1
    else
      if (decide (x < y)) = true then
        (-1)
      else
        if (decide (y < x)) = true then
          1
        else
          0

/-- cmp Or int -/
def cmp_Or_int (vals : (List Int)) : Option Int :=
  Option.bind (rangeB (fun k6 _ => Option.bind (idx vals (k6 : Int)) fun x21 => if (x21 != 0) = true then some (.rt x21) else some (.nx ())) vals.length 0 ()) fun o3 => o3.andThen (fun y => some y) fun s4 =>
  some 0

/-- porterslodge cal after -/
def cal_after (a_ : cal_Shift) (b : cal_Shift) : Option Bool :=
  Option.bind (cmp_Or_int ([(cmp_Compare_int a_.day b.day), (cmp_Compare_int a_.from_ b.from_), (cmp_Compare_int a_.to_ b.to_)] : List Int)) fun x31 =>
  some (decide ((0 : Int) < x31))

/-- porterslodge cal checkShifts -/
def cal_checkShifts (l : (List cal_Shift)) (dated : Bool) : Option Int :=
  Option.bind (rangeB (fun k6 _ => Option.bind (idx l (k6 : Int)) fun x25 => if (dated && (x25.day != 0)) = true then some (.rt 1) else if ((((!(cal_within x25.day 0 6)) || (!(cal_within x25.from_ 0 1439))) || (decide (x25.to_ ≤ x25.from_))) || (decide ((w64 (x25.from_ + 1440)) < x25.to_))) = true then some (.rt 2) else Option.bind (if (decide ((0 : Int) < (k6 : Int))) = true then (Option.bind (idx l (w64 ((k6 : Int) - 1))) fun x58 => Option.bind (cal_after x25 x58) fun x63 => some (!x63)) else (some false)) fun s56 => if s56 = true then some (.rt 5) else some (.nx ())) l.length 0 ()) fun o3 => o3.andThen (fun y => some y) fun s4 =>
  some 0

/-- porterslodge cal CheckCalendar -/
def cal_CheckCalendar (c : cal_Calendar) : Option Int :=
  Option.bind (cal_CheckZone c.zone) fun x18 =>
  if (x18 != 0) = true then
    some x18
  else
    if ((decide ((60 : Int) < (c.week.length : Int))) || (decide ((200 : Int) < (c.specials.length : Int)))) = true then
      some 4
    else
      Option.bind (cal_checkShifts c.week false) fun x38 =>
      if (x38 != 0) = true then
        some x38
      else
        Option.bind (rangeB (fun k50 _ => Option.bind (idx c.specials (k50 : Int)) fun x69 => if (!(cal_within x69.day (-1) 2084)) = true then some (.rt 2) else Option.bind (if (decide ((0 : Int) < (k50 : Int))) = true then (Option.bind (idx c.specials (w64 ((k50 : Int) - 1))) fun x96 => some (decide (x69.day ≤ x96.day))) else (some false)) fun s90 => if s90 = true then some (.rt 5) else if (decide ((12 : Int) < (x69.shifts.length : Int))) = true then some (.rt 4) else Option.bind (cal_checkShifts x69.shifts true) fun x114 => if (x114 != 0) = true then some (.rt x114) else some (.nx ())) c.specials.length 0 ()) fun o47 => o47.andThen (fun y => some y) fun s48 =>
        some 0

/-- porterslodge cal ReadCalendar -/
noncomputable def cal_ReadCalendar (s : ByteArray) : Option (cal_Calendar × Int × Int) :=
  if (decide ((20000 : Int) < (s.size : Int))) = true then
    some ((⟨(⟨0, ([] : (List cal_Change))⟩ : cal_Zone), ([] : (List cal_Shift)), ([] : (List cal_Special))⟩ : cal_Calendar), 0, 4)
  else
    Option.bind (whileB (fun s36 => if ((!(strEq s36.1 (⟨#[]⟩ : ByteArray))) || (s36.2.2.1 == 0)) = true then Option.bind (strings_Cut s36.1 (⟨#[10]⟩ : ByteArray)) fun x62 => Option.bind (cal_Calendar_take s36.2.2.2.1 x62.1 s36.2.1) fun x66 => if ((!x66.2.1) || (!x62.2.2)) = true then some (.rt ((⟨(⟨0, ([] : (List cal_Change))⟩ : cal_Zone), ([] : (List cal_Shift)), ([] : (List cal_Special))⟩ : cal_Calendar), w64 (s36.2.2.1 + 1), 8)) else some (.nx (x62.2.1, x66.1, w64 (s36.2.2.1 + 1), x66.2.2, s36.2.2.2.2)) else some (.bk (s36.1, s36.2.1, s36.2.2.1, s36.2.2.2.1, s36.2.2.2.2))) (s, (-1), 0, (⟨(⟨0, ([] : (List cal_Change))⟩ : cal_Zone), ([] : (List cal_Shift)), ([] : (List cal_Special))⟩ : cal_Calendar), (⟨(⟨0, ([] : (List cal_Change))⟩ : cal_Zone), ([] : (List cal_Shift)), ([] : (List cal_Special))⟩ : cal_Calendar))) fun o15 => o15.andThen (fun y => some y) fun s16 =>
    Option.bind (cal_CheckCalendar s16.2.2.2.1) fun x86 =>
    if (x86 != 0) = true then
      some ((⟨(⟨0, ([] : (List cal_Change))⟩ : cal_Zone), ([] : (List cal_Shift)), ([] : (List cal_Special))⟩ : cal_Calendar), 0, x86)
    else
      some (s16.2.2.2.1, 0, 0)

/-- strings SplitAfter -/
def strings_SplitAfter (s : ByteArray) (sep : ByteArray) : Option (List ByteArray) :=
  Option.bind (strings_genSplit s sep (sep.size : Int) (-1)) fun x1 =>
  some x1

/-- internal stringslite HasSuffix -/
def internal_stringslite_HasSuffix (s : ByteArray) (suffix : ByteArray) : Option Bool :=
  Option.bind (if (decide ((suffix.size : Int) ≤ (s.size : Int))) = true then (Option.bind (sliceS s (some (w64 ((s.size : Int) - (suffix.size : Int)))) none) fun x3 => some (strEq x3 suffix)) else (some false)) fun s2 =>
  some s2

/-- internal stringslite CutSuffix -/
def internal_stringslite_CutSuffix (s : ByteArray) (suffix : ByteArray) : Option (ByteArray × Bool) :=
  Option.bind (internal_stringslite_HasSuffix s suffix) fun x1 =>
  if (!x1) = true then
    some (s, false)
  else
    Option.bind (sliceS s none (some (w64 ((s.size : Int) - (suffix.size : Int))))) fun x3 =>
    some (x3, true)

/-- strings CutSuffix -/
def strings_CutSuffix (s : ByteArray) (suffix : ByteArray) : Option (ByteArray × Bool) :=
  Option.bind (internal_stringslite_CutSuffix s suffix) fun x1 =>
  some (x1.1, x1.2)

/-- strings.Trim -/
def strings_Trim (s : ByteArray) (cutset : ByteArray) : Option ByteArray :=
  if s.size ≤ 9223372036854775807 ∧ cutset.size < 4294967281 ∧ (cutset.data.toList.all fun b => decide (b.toNat < 128)) = true then some ⟨(Go.Lib.trimS s.data.toList cutset.data.toList).toArray⟩ else none

/-- porterslodge portref2 digits -/
def portref2_digits (s : ByteArray) (most : Int) : Option Bool :=
  Option.bind (if (!(strEq s (⟨#[]⟩ : ByteArray))) = true then (if (decide ((s.size : Int) ≤ most)) = true then (Option.bind (strings_Trim s (⟨#[48, 49, 50, 51, 52, 53, 54, 55, 56, 57]⟩ : ByteArray)) fun x11 => if (strEq x11 (⟨#[]⟩ : ByteArray)) = true then (if ((s.size : Int) == 1) = true then (some true) else (Option.bind (idxS s 0) fun x18 => some ((x18.toNat : Int) != 48))) else (some false)) else (if false = true then (if ((s.size : Int) == 1) = true then (some true) else (Option.bind (idxS s 0) fun x24 => some ((x24.toNat : Int) != 48))) else (some false))) else (if false = true then (Option.bind (strings_Trim s (⟨#[48, 49, 50, 51, 52, 53, 54, 55, 56, 57]⟩ : ByteArray)) fun x28 => if (strEq x28 (⟨#[]⟩ : ByteArray)) = true then (if ((s.size : Int) == 1) = true then (some true) else (Option.bind (idxS s 0) fun x35 => some ((x35.toNat : Int) != 48))) else (some false)) else (if false = true then (if ((s.size : Int) == 1) = true then (some true) else (Option.bind (idxS s 0) fun x41 => some ((x41.toNat : Int) != 48))) else (some false)))) fun s2 =>
  some s2

/-- porterslodge portref2 number -/
def portref2_number (s : ByteArray) (most : Int) : Option (Int × Bool) :=
  Option.bind (strings_TrimPrefix s (⟨#[45]⟩ : ByteArray)) fun x1 =>
  Option.bind (portref2_digits x1 most) fun x2 =>
  if ((!x2) || ((strEq x1 (⟨#[48]⟩ : ByteArray)) && (!(strEq s (⟨#[48]⟩ : ByteArray))))) = true then
    some (0, false)
  else
    Option.bind (strconv_Atoi s) fun x11 =>
    some (x11.1, (!x11.2))

/-- porterslodge portref2 lineNumbers -/
def portref2_lineNumbers (s : ByteArray) (most : Int) : Option (ByteArray × (List Int) × Bool) :=
  Option.bind (strings_Split s (⟨#[32]⟩ : ByteArray)) fun x1 =>
  Option.bind (sliceL x1 (some 1) none) fun x7 =>
  Option.bind (rangeB (fun k13 s21 => Option.bind (idx x7 (k13 : Int)) fun x36 => Option.bind (portref2_number x36 most) fun x40 => if (!x40.2) = true then some (.rt ((⟨#[]⟩ : ByteArray), ([] : (List Int)), false)) else Option.bind (appendL 17592186044416 s21 ([x40.1] : List Int)) fun x50 => some (.nx x50)) x7.length 0 ([] : (List Int))) fun o10 => o10.andThen (fun y => some y) fun s11 =>
  Option.bind (idx x1 0) fun x59 =>
  some (x59, s11, true)

/-- porterslodge portref2 ReadCalendarOf 1 -/
def portref2_ReadCalendarOf_1 (p0 : Int) : Option (cal_Calendar × Int × Int) :=
  some ((⟨(⟨0, ([] : (List cal_Change))⟩ : cal_Zone), ([] : (List cal_Shift)), ([] : (List cal_Special))⟩ : cal_Calendar), w64 (p0 + 1), 8)

/-- porterslodge portref2 ZoneFault 1 -/
def portref2_ZoneFault_1 (n : Int) : Bool :=
  ((decide (n < (-1440))) || (decide ((1440 : Int) < n)))

/-- porterslodge portref2 ZoneFault -/
def portref2_ZoneFault (z : cal_Zone) : Option Int :=
  if (portref2_ZoneFault_1 z.offset) = true then
    some 2
  else
    if (decide ((60 : Int) < (z.changes.length : Int))) = true then
      some 4
    else
      Option.bind (rangeB (fun k24 s30 => Option.bind (idx z.changes (k24 : Int)) fun x43 => Option.bind (if (decide (x43.at_ < 1)) = true then (if true = true then (some true) else (some (portref2_ZoneFault_1 x43.offset))) else (if (decide ((3000000 : Int) < x43.at_)) = true then (some true) else (some (portref2_ZoneFault_1 x43.offset)))) fun s57 => if s57 = true then some (.rt 2) else Option.bind (if (decide ((0 : Int) < (k24 : Int))) = true then (Option.bind (idx z.changes (w64 ((k24 : Int) - 1))) fun x83 => some (decide (x43.at_ ≤ x83.at_))) else (some false)) fun s77 => if s77 = true then some (.rt 5) else if (x43.offset == s30) = true then some (.rt 1) else some (.nx x43.offset)) z.changes.length 0 z.offset) fun o21 => o21.andThen (fun y => some y) fun s22 =>
      some 0

/-- porterslodge portref2 shiftFault -/
def portref2_shiftFault (l : (List cal_Shift)) (week : Bool) : Option Int :=
  Option.bind (rangeB (fun k6 _ => Option.bind (α := Lp _ _) (Option.bind (idx l (k6 : Int)) fun x33 => if ((!week) && (x33.day != 0)) = true then some (.rt 1) else if ((((((decide (x33.day < 0)) || (decide ((6 : Int) < x33.day))) || (decide (x33.from_ < 0))) || (decide ((1440 : Int) ≤ x33.from_))) || (decide (x33.to_ ≤ x33.from_))) || (decide ((w64 (x33.from_ + 1440)) < x33.to_))) = true then some (.rt 2) else Option.bind (α := Lp _ _) (if (decide ((0 : Int) < (k6 : Int))) = true then Option.bind (idx l (w64 ((k6 : Int) - 1))) fun x78 => Option.bind (cmp_Or_int ([(cmp_Compare_int x78.day x33.day), (cmp_Compare_int x78.from_ x33.from_), (cmp_Compare_int x78.to_ x33.to_)] : List Int)) fun x108 => if (decide ((0 : Int) ≤ x108)) = true then some (.rt 5) else some (.fin ()) else some (.fin ())) fun o69 => o69.andThen (fun y => some (.rt y)) fun s70 => some (.fin ())) fun o25 => o25.andThen (fun y => some (.rt y)) fun s26 => some (.nx ())) l.length 0 ()) fun o3 => o3.andThen (fun y => some y) fun s4 =>
  some 0

/-- porterslodge portref2 CalendarFault -/
def portref2_CalendarFault (c : cal_Calendar) : Option Int :=
  Option.bind (portref2_ZoneFault c.zone) fun x18 =>
  if (x18 != 0) = true then
    some x18
  else
    if ((decide ((60 : Int) < (c.week.length : Int))) || (decide ((200 : Int) < (c.specials.length : Int)))) = true then
      some 4
    else
      Option.bind (portref2_shiftFault c.week true) fun x38 =>
      if (x38 != 0) = true then
        some x38
      else
        Option.bind (rangeB (fun k50 _ => Option.bind (idx c.specials (k50 : Int)) fun x69 => if ((decide (x69.day < (-1))) || (decide ((2084 : Int) < x69.day))) = true then some (.rt 2) else Option.bind (if (decide ((0 : Int) < (k50 : Int))) = true then (Option.bind (idx c.specials (w64 ((k50 : Int) - 1))) fun x99 => some (decide (x69.day ≤ x99.day))) else (some false)) fun s93 => if s93 = true then some (.rt 5) else if (decide ((12 : Int) < (x69.shifts.length : Int))) = true then some (.rt 4) else Option.bind (portref2_shiftFault x69.shifts false) fun x117 => if (x117 != 0) = true then some (.rt x117) else some (.nx ())) c.specials.length 0 ()) fun o47 => o47.andThen (fun y => some y) fun s48 =>
        some 0

/-- porterslodge portref2 ReadCalendarOf -/
noncomputable def portref2_ReadCalendarOf (s : ByteArray) : Option (cal_Calendar × Int × Int) :=
  if (decide ((20000 : Int) < (s.size : Int))) = true then
    some ((⟨(⟨0, ([] : (List cal_Change))⟩ : cal_Zone), ([] : (List cal_Shift)), ([] : (List cal_Special))⟩ : cal_Calendar), 0, 4)
  else
    Option.bind (strings_SplitAfter s (⟨#[10]⟩ : ByteArray)) fun x23 =>
    Option.bind (rangeB (fun k32 s50 => Option.bind (idx x23 (k32 : Int)) fun x75 => if (((strEq x75 (⟨#[]⟩ : ByteArray)) && ((k32 : Int) == (w64 ((x23.length : Int) - 1)))) && (decide ((0 : Int) < (k32 : Int)))) = true then some (.bk (s50.1, s50.2.1, s50.2.2)) else Option.bind (strings_CutSuffix x75 (⟨#[10]⟩ : ByteArray)) fun x93 => Option.bind (portref2_lineNumbers x93.1 9) fun x94 => Option.bind (slices_Index_Lstring_string ([(⟨#[122, 111, 110, 101]⟩ : ByteArray), (⟨#[99, 104, 97, 110, 103, 101]⟩ : ByteArray), (⟨#[115, 104, 105, 102, 116]⟩ : ByteArray), (⟨#[100, 97, 121]⟩ : ByteArray)] : List ByteArray) x94.1) fun x102 => if ((((((!x93.2) || (!x94.2.2)) || (decide (x102 < 0))) || (decide (x102 < s50.1))) || ((decide (s50.1 < 0)) && (x102 != 0))) || ((x102 == 0) && (decide ((0 : Int) ≤ s50.1)))) = true then Option.bind (portref2_ReadCalendarOf_1 (k32 : Int)) fun x118 => some (.rt (x118.1, x118.2.1, x118.2.2)) else Option.bind (α := Lp _ _) (Option.bind (α := Lp _ _) (if ((x102 == 0) && ((x94.2.1.length : Int) == 1)) = true then Option.bind (idx x94.2.1 0) fun x183 => some (.fin ((⟨(⟨x183, s50.2.1.zone.changes⟩ : cal_Zone), s50.2.1.week, s50.2.1.specials⟩ : cal_Calendar), s50.2.2)) else Option.bind (α := Lp _ _) (if ((x102 == 1) && ((x94.2.1.length : Int) == 2)) = true then Option.bind (idx x94.2.1 0) fun x218 => Option.bind (idx x94.2.1 1) fun x223 => Option.bind (appendL 8796093022208 s50.2.1.zone.changes ([(⟨x218, x223⟩ : cal_Change)] : List cal_Change)) fun x233 => some (.fin ((⟨(⟨s50.2.1.zone.offset, x233⟩ : cal_Zone), s50.2.1.week, s50.2.1.specials⟩ : cal_Calendar), s50.2.2)) else Option.bind (α := Lp _ _) (if ((x102 == 2) && ((x94.2.1.length : Int) == 3)) = true then Option.bind (idx x94.2.1 0) fun x272 => Option.bind (idx x94.2.1 1) fun x277 => Option.bind (idx x94.2.1 2) fun x282 => Option.bind (appendL 5864062014805 s50.2.1.week ([(⟨x272, x277, x282⟩ : cal_Shift)] : List cal_Shift)) fun x292 => some (.fin ((⟨s50.2.1.zone, x292, s50.2.1.specials⟩ : cal_Calendar), s50.2.2)) else if ((x102 == 3) && ((Int.tmod (x94.2.1.length : Int) 2) == 1)) = true then Option.bind (idx x94.2.1 0) fun x308 => Option.bind (whileB (fun s332 => if (decide (s332.1 < (x94.2.1.length : Int))) = true then Option.bind (idx x94.2.1 s332.1) fun x349 => Option.bind (idx x94.2.1 (w64 (s332.1 + 1))) fun x354 => Option.bind (appendL 5864062014805 s332.2.shifts ([(⟨0, x349, x354⟩ : cal_Shift)] : List cal_Shift)) fun x364 => some (.nx (w64 (s332.1 + 2), (⟨s332.2.day, x364⟩ : cal_Special))) else some (.bk (s332.1, s332.2))) (1, (⟨x308, ([] : (List cal_Shift))⟩ : cal_Special))) fun o321 => o321.andThen (fun y => some (.rt y)) fun s322 => Option.bind (appendL 4398046511104 s50.2.1.specials ([s322.2] : List cal_Special)) fun x392 => some (.fin ((⟨s50.2.1.zone, s50.2.1.week, x392⟩ : cal_Calendar), s50.2.2)) else Option.bind (portref2_ReadCalendarOf_1 (k32 : Int)) fun x405 => some (.rt (x405.1, x405.2.1, x405.2.2))) fun o248 => o248.andThen (fun y => some (.rt y)) fun s249 => some (.fin (s249.1, s249.2))) fun o194 => o194.andThen (fun y => some (.rt y)) fun s195 => some (.fin (s195.1, s195.2))) fun o162 => o162.andThen (fun y => some (.rt y)) fun s163 => some (.fin (s163.1, s163.2))) fun o140 => o140.andThen (fun y => some (.rt y)) fun s141 => some (.nx (x102, s141.1, s141.2))) x23.length 0 ((-1), (⟨(⟨0, ([] : (List cal_Change))⟩ : cal_Zone), ([] : (List cal_Shift)), ([] : (List cal_Special))⟩ : cal_Calendar), (⟨(⟨0, ([] : (List cal_Change))⟩ : cal_Zone), ([] : (List cal_Shift)), ([] : (List cal_Special))⟩ : cal_Calendar))) fun o29 => o29.andThen (fun y => some y) fun s30 =>
    Option.bind (portref2_CalendarFault s30.2.1) fun x433 =>
    if (x433 != 0) = true then
      some ((⟨(⟨0, ([] : (List cal_Change))⟩ : cal_Zone), ([] : (List cal_Shift)), ([] : (List cal_Special))⟩ : cal_Calendar), 0, x433)
    else
      some (s30.2.1, 0, 0)

/-- slices Equal porterslodge cal Change porterslodge cal Change -/
def slices_Equal_Lcal_Change_cal_Change (s1 : (List cal_Change)) (s2 : (List cal_Change)) : Option Bool :=
  if ((s1.length : Int) != (s2.length : Int)) = true then
    some false
  else
    Option.bind (rangeB (fun k9 _ => Option.bind (idx s1 (k9 : Int)) fun x29 => Option.bind (idx s2 (k9 : Int)) fun x34 => if (!(x29.at_ == x34.at_ && (x29.offset == x34.offset))) = true then some (.rt false) else some (.nx ())) s1.length 0 ()) fun o6 => o6.andThen (fun y => some y) fun s7 =>
    some true

/-- slices Equal porterslodge cal Shift porterslodge cal Shift -/
def slices_Equal_Lcal_Shift_cal_Shift (s1 : (List cal_Shift)) (s2 : (List cal_Shift)) : Option Bool :=
  if ((s1.length : Int) != (s2.length : Int)) = true then
    some false
  else
    Option.bind (rangeB (fun k9 _ => Option.bind (idx s1 (k9 : Int)) fun x29 => Option.bind (idx s2 (k9 : Int)) fun x34 => if (!(x29.day == x34.day && (x29.from_ == x34.from_ && (x29.to_ == x34.to_)))) = true then some (.rt false) else some (.nx ())) s1.length 0 ()) fun o6 => o6.andThen (fun y => some y) fun s7 =>
    some true

/-- slices EqualFunc porterslodge cal Special porterslodge cal Special porterslodge cal Special porterslodge cal Special -/
def slices_EqualFunc_Lcal_Special_Lcal_Special_cal_Special_cal_Special (s1 : (List cal_Special)) (s2 : (List cal_Special)) (eq : cal_Special → cal_Special → Option Bool) : Option Bool :=
  if ((s1.length : Int) != (s2.length : Int)) = true then
    some false
  else
    Option.bind (rangeB (fun k9 _ => Option.bind (idx s1 (k9 : Int)) fun x29 => Option.bind (idx s2 (k9 : Int)) fun x47 => Option.bind (eq x29 x47) fun x71 => if (!x71) = true then some (.rt false) else some (.nx ())) s1.length 0 ()) fun o6 => o6.andThen (fun y => some y) fun s7 =>
    some true

/-- porterslodge portref2 Alike 1 -/
def portref2_Alike_1 (a_ : cal_Special) (b : cal_Special) : Option Bool :=
  Option.bind (if (a_.day == b.day) = true then (Option.bind (slices_Equal_Lcal_Shift_cal_Shift a_.shifts b.shifts) fun x36 => some x36) else (some false)) fun s18 =>
  some s18

/-- porterslodge portref2 Alike -/
def portref2_Alike (a_ : cal_Calendar) (b : cal_Calendar) : Option Bool :=
  Option.bind (if true = true then (if (a_.zone.offset == b.zone.offset) = true then (Option.bind (slices_Equal_Lcal_Change_cal_Change a_.zone.changes b.zone.changes) fun x73 => if x73 = true then (Option.bind (slices_Equal_Lcal_Shift_cal_Shift a_.week b.week) fun x86 => if x86 = true then (Option.bind (slices_EqualFunc_Lcal_Special_Lcal_Special_cal_Special_cal_Special a_.specials b.specials (fun y99 y100 => portref2_Alike_1 y99 y100)) fun x101 => some x101) else (some false)) else (if false = true then (Option.bind (slices_EqualFunc_Lcal_Special_Lcal_Special_cal_Special_cal_Special a_.specials b.specials (fun y130 y131 => portref2_Alike_1 y130 y131)) fun x132 => some x132) else (some false))) else (if false = true then (Option.bind (slices_Equal_Lcal_Shift_cal_Shift a_.week b.week) fun x161 => if x161 = true then (Option.bind (slices_EqualFunc_Lcal_Special_Lcal_Special_cal_Special_cal_Special a_.specials b.specials (fun y174 y175 => portref2_Alike_1 y174 y175)) fun x176 => some x176) else (some false)) else (if false = true then (Option.bind (slices_EqualFunc_Lcal_Special_Lcal_Special_cal_Special_cal_Special a_.specials b.specials (fun y205 y206 => portref2_Alike_1 y205 y206)) fun x207 => some x207) else (some false)))) else (if false = true then (Option.bind (slices_Equal_Lcal_Change_cal_Change a_.zone.changes b.zone.changes) fun x238 => if x238 = true then (Option.bind (slices_Equal_Lcal_Shift_cal_Shift a_.week b.week) fun x251 => if x251 = true then (Option.bind (slices_EqualFunc_Lcal_Special_Lcal_Special_cal_Special_cal_Special a_.specials b.specials (fun y264 y265 => portref2_Alike_1 y264 y265)) fun x266 => some x266) else (some false)) else (if false = true then (Option.bind (slices_EqualFunc_Lcal_Special_Lcal_Special_cal_Special_cal_Special a_.specials b.specials (fun y295 y296 => portref2_Alike_1 y295 y296)) fun x297 => some x297) else (some false))) else (if false = true then (Option.bind (slices_Equal_Lcal_Shift_cal_Shift a_.week b.week) fun x326 => if x326 = true then (Option.bind (slices_EqualFunc_Lcal_Special_Lcal_Special_cal_Special_cal_Special a_.specials b.specials (fun y339 y340 => portref2_Alike_1 y339 y340)) fun x341 => some x341) else (some false)) else (if false = true then (Option.bind (slices_EqualFunc_Lcal_Special_Lcal_Special_cal_Special_cal_Special a_.specials b.specials (fun y370 y371 => portref2_Alike_1 y370 y371)) fun x372 => some x372) else (some false))))) fun s50 =>
  some s50

/-- porterslodge portlaw2 CalParses -/
noncomputable def portlaw2_CalParses (s : ByteArray) : Option Bool :=
  Option.bind (cal_ReadCalendar s) fun x1 =>
  Option.bind (portref2_ReadCalendarOf s) fun x29 =>
  Option.bind (if (x1.2.1 == x29.2.1) = true then (if (x1.2.2 == x29.2.2) = true then (Option.bind (portref2_Alike x1.1 x29.1) fun x80 => some x80) else (some false)) else (if false = true then (Option.bind (portref2_Alike x1.1 x29.1) fun x101 => some x101) else (some false))) fun s57 =>
  some s57

end Go.Proofs.YtebbjefkndfkpaaGreatDoor.M
