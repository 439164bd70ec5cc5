/-
  Written by program (gen.py) from the IR of the dump: plain models of the functions.
-/
import Derived.Test.YthhgggkhlcnbhaaDoorPu
import Derived.Lib.ItoaNum
import Derived.Lib.Join
import Derived.Test.YthhgggkhlcnbhaaDoorPj
namespace Go.Proofs.YthhgggkhlcnbhaaDoor.M
open Go Go.Pu
set_option linter.unusedVariables false
set_option linter.unusedSimpArgs false

structure cal_Change where
  at_ : Int
  offset : Int

structure cal_Zone where
  offset : Int
  changes : (List cal_Change)

structure cal_Shift where
  day : Int
  from_ : Int
  to_ : Int

structure cal_Special where
  day : Int
  shifts : (List cal_Shift)

structure cal_Calendar where
  zone : cal_Zone
  week : (List cal_Shift)
  specials : (List cal_Special)

/-- porterslodge cal within -/
def cal_within (n : Int) (low : Int) (high : Int) : Bool :=
  ((decide (low ≤ n)) && (decide (n ≤ high)))

/-- porterslodge cal CheckZone -/
def cal_CheckZone (z : cal_Zone) : Option Int :=
  if (!(cal_within z.offset (-1440) 1440)) = true then
    some 2
  else
    if (decide ((60 : Int) < (z.changes.length : Int))) = true then
      some 4
    else
      Option.bind (rangeB (fun k27 s33 => Option.bind (idx z.changes (k27 : Int)) fun x46 => if ((!(cal_within x46.at_ 1 3000000)) || (!(cal_within x46.offset (-1440) 1440))) = true then some (.rt 2) else if (decide (x46.at_ ≤ s33.1)) = true then some (.rt 5) else if (x46.offset == s33.2) = true then some (.rt 1) else some (.nx (x46.at_, x46.offset))) z.changes.length 0 (0, z.offset)) fun o24 => o24.andThen (fun y => some y) fun s25 =>
      some 0

/-- cmp isNaN int -/
def cmp_isNaN_int (x : Int) : Bool :=
  x != x

/-- cmp Compare int -/
def cmp_Compare_int (x : Int) (y : Int) : Int :=
  if (cmp_isNaN_int x) = true then
    if (cmp_isNaN_int y) = true then
      0
    else
      (-1)
  else
    if (cmp_isNaN_int y) = true then
      1
    else
      if (decide (x < y)) = true then
        (-1)
      else
        if (decide (y < x)) = true then
          1
        else
          0

/-- cmp Or int -/
def cmp_Or_int (vals : (List Int)) : Option Int :=
  Option.bind (rangeB (fun k6 _ => Option.bind (idx vals (k6 : Int)) fun x21 => if (x21 != 0) = true then some (.rt x21) else some (.nx ())) vals.length 0 ()) fun o3 => o3.andThen (fun y => some y) fun s4 =>
  some 0

/-- porterslodge cal after -/
def cal_after (a_ : cal_Shift) (b : cal_Shift) : Option Bool :=
  Option.bind (cmp_Or_int ([(cmp_Compare_int a_.day b.day), (cmp_Compare_int a_.from_ b.from_), (cmp_Compare_int a_.to_ b.to_)] : List Int)) fun x28 =>
  some (decide ((0 : Int) < x28))

/-- porterslodge cal checkShifts -/
def cal_checkShifts (l : (List cal_Shift)) (dated : Bool) : Option Int :=
  Option.bind (rangeB (fun k6 _ => Option.bind (idx l (k6 : Int)) fun x25 => if (dated && (x25.day != 0)) = true then some (.rt 1) else if ((((!(cal_within x25.day 0 6)) || (!(cal_within x25.from_ 0 1439))) || (decide (x25.to_ ≤ x25.from_))) || (decide ((w64 (x25.from_ + 1440)) < x25.to_))) = true then some (.rt 2) else Option.bind (if (decide ((0 : Int) < (k6 : Int))) = true then (Option.bind (idx l (w64 ((k6 : Int) - 1))) fun x58 => Option.bind (cal_after x25 x58) fun x63 => some (!x63)) else (some false)) fun s56 => if s56 = true then some (.rt 5) else some (.nx ())) l.length 0 ()) fun o3 => o3.andThen (fun y => some y) fun s4 =>
  some 0

/-- porterslodge cal CheckCalendar -/
def cal_CheckCalendar (c : cal_Calendar) : Option Int :=
  Option.bind (cal_CheckZone c.zone) fun x18 =>
  if (x18 != 0) = true then
    some x18
  else
    if ((decide ((60 : Int) < (c.week.length : Int))) || (decide ((200 : Int) < (c.specials.length : Int)))) = true then
      some 4
    else
      Option.bind (cal_checkShifts c.week false) fun x38 =>
      if (x38 != 0) = true then
        some x38
      else
        Option.bind (rangeB (fun k50 _ => Option.bind (idx c.specials (k50 : Int)) fun x69 => if (!(cal_within x69.day (-1) 2084)) = true then some (.rt 2) else Option.bind (if (decide ((0 : Int) < (k50 : Int))) = true then (Option.bind (idx c.specials (w64 ((k50 : Int) - 1))) fun x96 => some (decide (x69.day ≤ x96.day))) else (some false)) fun s90 => if s90 = true then some (.rt 5) else if (decide ((12 : Int) < (x69.shifts.length : Int))) = true then some (.rt 4) else Option.bind (cal_checkShifts x69.shifts true) fun x114 => if (x114 != 0) = true then some (.rt x114) else some (.nx ())) c.specials.length 0 ()) fun o47 => o47.andThen (fun y => some y) fun s48 =>
        some 0

/-- (*strings.Builder).WriteString -/
def strings_Builder_WriteString (b : ByteArray) (s : ByteArray) : Option (Int × Unit × ByteArray) :=
  if b.size + s.size ≤ 140737488355328 then some (s.size, (), b ++ s) else none

/-- strconv.Itoa -/
def strconv_Itoa (n : Int) : Option ByteArray :=
  if -9223372036854775808 ≤ n ∧ n ≤ 9223372036854775807 then some ⟨(Go.Lib.itoa n).toArray⟩ else none

/-- (*strings.Builder).WriteByte -/
def strings_Builder_WriteByte (b : ByteArray) (c : UInt8) : Option (Unit × ByteArray) :=
  if b.size + 1 ≤ 140737488355328 then some ((), b ++ ⟨#[c]⟩) else none

/-- porterslodge cal CalendarText 1 -/
def cal_CalendarText_1 (word : ByteArray) (numbers : (List Int)) (p2 : ByteArray) : Option ByteArray :=
  Option.bind (strings_Builder_WriteString p2 word) fun x3 =>
  Option.bind (rangeB (fun k11 s17 => Option.bind (idx numbers (k11 : Int)) fun x30 => Option.bind (strconv_Itoa x30) fun x34 => Option.bind (catS (⟨#[32]⟩ : ByteArray) x34) fun x38 => Option.bind (strings_Builder_WriteString s17 x38) fun x39 => some (.nx x39.2.2)) numbers.length 0 x3.2.2) fun o8 => o8.andThen (fun y => some y) fun s9 =>
  Option.bind (strings_Builder_WriteByte s9 10) fun x47 =>
  some x47.2

/-- (*strings.Builder).Len -/
def strings_Builder_Len (b : ByteArray) : Option Int := some (b.size : Int)

/-- (*strings.Builder).String -/
def strings_Builder_String (b : ByteArray) : Option ByteArray := some b

/-- porterslodge cal CalendarText -/
def cal_CalendarText (c : cal_Calendar) : Option (ByteArray × Int) :=
  Option.bind (cal_CheckCalendar c) fun x21 =>
  if (x21 != 0) = true then
    some ((⟨#[]⟩ : ByteArray), x21)
  else
    Option.bind (cal_CalendarText_1 (⟨#[122, 111, 110, 101]⟩ : ByteArray) ([c.zone.offset] : List Int) ByteArray.empty) fun x38 =>
    Option.bind (rangeB (fun k51 s57 => Option.bind (idx c.zone.changes (k51 : Int)) fun x70 => Option.bind (cal_CalendarText_1 (⟨#[99, 104, 97, 110, 103, 101]⟩ : ByteArray) ([x70.at_, x70.offset] : List Int) s57) fun x90 => some (.nx x90)) c.zone.changes.length 0 x38) fun o48 => o48.andThen (fun y => some y) fun s49 =>
    Option.bind (rangeB (fun k105 s111 => Option.bind (idx c.week (k105 : Int)) fun x124 => Option.bind (cal_CalendarText_1 (⟨#[115, 104, 105, 102, 116]⟩ : ByteArray) ([x124.day, x124.from_, x124.to_] : List Int) s111) fun x145 => some (.nx x145)) c.week.length 0 s49) fun o102 => o102.andThen (fun y => some y) fun s103 =>
    Option.bind (rangeB (fun k160 s166 => Option.bind (idx c.specials (k160 : Int)) fun x179 => Option.bind (rangeB (fun k212 s220 => Option.bind (idx x179.shifts (k212 : Int)) fun x235 => Option.bind (appendL 17592186044416 s220 ([x235.from_, x235.to_] : List Int)) fun x255 => some (.nx x255)) x179.shifts.length 0 ([x179.day] : List Int)) fun o209 => o209.andThen (fun y => some (.rt y)) fun s210 => Option.bind (cal_CalendarText_1 (⟨#[100, 97, 121]⟩ : ByteArray) s210 s166) fun x269 => some (.nx x269)) c.specials.length 0 s103) fun o157 => o157.andThen (fun y => some y) fun s158 =>
    Option.bind (strings_Builder_Len s158) fun x277 =>
    if (decide ((20000 : Int) < x277)) = true then
      some ((⟨#[]⟩ : ByteArray), 4)
    else
      Option.bind (strings_Builder_String s158) fun x283 =>
      some (x283, 0)

/-- porterslodge portref2 ZoneFault 1 -/
def portref2_ZoneFault_1 (n : Int) : Bool :=
  ((decide (n < (-1440))) || (decide ((1440 : Int) < n)))

/-- porterslodge portref2 ZoneFault -/
def portref2_ZoneFault (z : cal_Zone) : Option Int :=
  if (portref2_ZoneFault_1 z.offset) = true then
    some 2
  else
    if (decide ((60 : Int) < (z.changes.length : Int))) = true then
      some 4
    else
      Option.bind (rangeB (fun k24 s30 => Option.bind (idx z.changes (k24 : Int)) fun x43 => Option.bind (if (decide (x43.at_ < 1)) = true then (if true = true then (some true) else (some (portref2_ZoneFault_1 x43.offset))) else (if (decide ((3000000 : Int) < x43.at_)) = true then (some true) else (some (portref2_ZoneFault_1 x43.offset)))) fun s57 => if s57 = true then some (.rt 2) else Option.bind (if (decide ((0 : Int) < (k24 : Int))) = true then (Option.bind (idx z.changes (w64 ((k24 : Int) - 1))) fun x83 => some (decide (x43.at_ ≤ x83.at_))) else (some false)) fun s77 => if s77 = true then some (.rt 5) else if (x43.offset == s30) = true then some (.rt 1) else some (.nx x43.offset)) z.changes.length 0 z.offset) fun o21 => o21.andThen (fun y => some y) fun s22 =>
      some 0

/-- porterslodge portref2 shiftFault -/
def portref2_shiftFault (l : (List cal_Shift)) (week : Bool) : Option Int :=
  Option.bind (rangeB (fun k6 _ => Option.bind (α := Lp _ _) (Option.bind (idx l (k6 : Int)) fun x33 => if ((!week) && (x33.day != 0)) = true then some (.rt 1) else if ((((((decide (x33.day < 0)) || (decide ((6 : Int) < x33.day))) || (decide (x33.from_ < 0))) || (decide ((1440 : Int) ≤ x33.from_))) || (decide (x33.to_ ≤ x33.from_))) || (decide ((w64 (x33.from_ + 1440)) < x33.to_))) = true then some (.rt 2) else Option.bind (α := Lp _ _) (if (decide ((0 : Int) < (k6 : Int))) = true then Option.bind (idx l (w64 ((k6 : Int) - 1))) fun x78 => Option.bind (cmp_Or_int ([(cmp_Compare_int x78.day x33.day), (cmp_Compare_int x78.from_ x33.from_), (cmp_Compare_int x78.to_ x33.to_)] : List Int)) fun x105 => if (decide ((0 : Int) ≤ x105)) = true then some (.rt 5) else some (.fin ()) else some (.fin ())) fun o69 => o69.andThen (fun y => some (.rt y)) fun s70 => some (.fin ())) fun o25 => o25.andThen (fun y => some (.rt y)) fun s26 => some (.nx ())) l.length 0 ()) fun o3 => o3.andThen (fun y => some y) fun s4 =>
  some 0

/-- porterslodge portref2 CalendarFault -/
def portref2_CalendarFault (c : cal_Calendar) : Option Int :=
  Option.bind (portref2_ZoneFault c.zone) fun x18 =>
  if (x18 != 0) = true then
    some x18
  else
    if ((decide ((60 : Int) < (c.week.length : Int))) || (decide ((200 : Int) < (c.specials.length : Int)))) = true then
      some 4
    else
      Option.bind (portref2_shiftFault c.week true) fun x38 =>
      if (x38 != 0) = true then
        some x38
      else
        Option.bind (rangeB (fun k50 _ => Option.bind (idx c.specials (k50 : Int)) fun x69 => if ((decide (x69.day < (-1))) || (decide ((2084 : Int) < x69.day))) = true then some (.rt 2) else Option.bind (if (decide ((0 : Int) < (k50 : Int))) = true then (Option.bind (idx c.specials (w64 ((k50 : Int) - 1))) fun x99 => some (decide (x69.day ≤ x99.day))) else (some false)) fun s93 => if s93 = true then some (.rt 5) else if (decide ((12 : Int) < (x69.shifts.length : Int))) = true then some (.rt 4) else Option.bind (portref2_shiftFault x69.shifts false) fun x117 => if (x117 != 0) = true then some (.rt x117) else some (.nx ())) c.specials.length 0 ()) fun o47 => o47.andThen (fun y => some y) fun s48 =>
        some 0

/-- strings.Join -/
def strings_Join (elems : List ByteArray) (sep : ByteArray) : Option ByteArray :=
  if elems.length ≤ 140737488355328 ∧ (Go.Lib.join (elems.map (·.data.toList)) sep.data.toList).length ≤ 140737488355328 then some ⟨(Go.Lib.join (elems.map (·.data.toList)) sep.data.toList).toArray⟩ else none

/-- porterslodge portref2 line -/
def portref2_line (words : (List AnyV)) : Option ByteArray :=
  Option.bind (rangeB (fun k6 s14 => Option.bind (Option.bind (idx words (k6 : Int)) fun x39 => Option.bind (Option.bind (if x39.asStr.2 = true then Option.bind (appendL 8796093022208 s14 ([x39.asStr.1] : List ByteArray)) fun x69 => some x69 else Option.bind (if x39.asInt.2 = true then Option.bind (strconv_Itoa x39.asInt.1) fun x87 => Option.bind (appendL 8796093022208 s14 ([x87] : List ByteArray)) fun x96 => some x96 else some s14) fun s77 => some s77) fun s54 => some s54) fun s44 => some s44) fun s30 => some (.nx s30)) words.length 0 ([] : (List ByteArray))) fun o3 => o3.andThen (fun y => some y) fun s4 =>
  Option.bind (strings_Join s4 (⟨#[32]⟩ : ByteArray)) fun x110 =>
  Option.bind (catS x110 (⟨#[10]⟩ : ByteArray)) fun x114 =>
  some x114

/-- porterslodge portref2 CalendarString -/
def portref2_CalendarString (c : cal_Calendar) : Option (ByteArray × Int) :=
  Option.bind (portref2_CalendarFault c) fun x21 =>
  if (x21 != 0) = true then
    some ((⟨#[]⟩ : ByteArray), x21)
  else
    Option.bind (portref2_line ([(AnyV.str (⟨#[122, 111, 110, 101]⟩ : ByteArray)), (AnyV.int c.zone.offset)] : List AnyV)) fun x33 =>
    Option.bind (rangeB (fun k45 s51 => Option.bind (idx c.zone.changes (k45 : Int)) fun x64 => Option.bind (portref2_line ([(AnyV.str (⟨#[99, 104, 97, 110, 103, 101]⟩ : ByteArray)), (AnyV.int x64.at_), (AnyV.int x64.offset)] : List AnyV)) fun x84 => Option.bind (catS s51 x84) fun x88 => some (.nx x88)) c.zone.changes.length 0 x33) fun o42 => o42.andThen (fun y => some y) fun s43 =>
    Option.bind (rangeB (fun k99 s105 => Option.bind (idx c.week (k99 : Int)) fun x118 => Option.bind (portref2_line ([(AnyV.str (⟨#[115, 104, 105, 102, 116]⟩ : ByteArray)), (AnyV.int x118.day), (AnyV.int x118.from_), (AnyV.int x118.to_)] : List AnyV)) fun x139 => Option.bind (catS s105 x139) fun x143 => some (.nx x143)) c.week.length 0 s43) fun o96 => o96.andThen (fun y => some y) fun s97 =>
    Option.bind (rangeB (fun k154 s160 => Option.bind (idx c.specials (k154 : Int)) fun x173 => Option.bind (rangeB (fun k206 s214 => Option.bind (idx x173.shifts (k206 : Int)) fun x229 => Option.bind (appendL 8796093022208 s214 ([(AnyV.int x229.from_), (AnyV.int x229.to_)] : List AnyV)) fun x249 => some (.nx x249)) x173.shifts.length 0 ([(AnyV.str (⟨#[100, 97, 121]⟩ : ByteArray)), (AnyV.int x173.day)] : List AnyV)) fun o203 => o203.andThen (fun y => some (.rt y)) fun s204 => Option.bind (portref2_line s204) fun x258 => Option.bind (catS s160 x258) fun x262 => some (.nx x262)) c.specials.length 0 s97) fun o151 => o151.andThen (fun y => some y) fun s152 =>
    if (decide ((20000 : Int) < (s152.size : Int))) = true then
      some ((⟨#[]⟩ : ByteArray), 4)
    else
      some (s152, 0)

/-- porterslodge portlaw2 CalChecks -/
def portlaw2_CalChecks (c : cal_Calendar) : Option Bool :=
  Option.bind (cal_CalendarText c) fun x21 =>
  Option.bind (portref2_CalendarString c) fun x32 =>
  Option.bind (if ((strEq x21.1 x32.1) && (x21.2 == x32.2)) = true then (Option.bind (cal_CheckCalendar c) fun x47 => Option.bind (portref2_CalendarFault c) fun x55 => some (x47 == x55)) else (some false)) fun s39 =>
  some s39

end Go.Proofs.YthhgggkhlcnbhaaDoor.M
