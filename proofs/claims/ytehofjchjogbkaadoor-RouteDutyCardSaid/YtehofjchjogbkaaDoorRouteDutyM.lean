/-
  Written by program (gen.py) from the IR of the dump: plain models of the functions.
-/
import Derived.Test.YtehofjchjogbkaaDoorPu
import Derived.Lib.SlTrimSet
import Derived.Test.YtehofjchjogbkaaDoorPj
namespace Go.Proofs.YtehofjchjogbkaaDoor.M
open Go Go.Pu
set_option linter.unusedVariables false
set_option linter.unusedSimpArgs false

structure route_Skill where
  name : ByteArray
  rank : Int

structure route_Person where
  no : Int
  capacity : Int
  calendar : Int
  skills : (List route_Skill)

structure cal_Change where
  at_ : Int
  offset : Int

structure cal_Zone where
  offset : Int
  changes : (List cal_Change)

structure cal_Shift where
  day : Int
  from_ : Int
  to_ : Int

structure cal_Special where
  day : Int
  shifts : (List cal_Shift)

structure cal_Calendar where
  zone : cal_Zone
  week : (List cal_Shift)
  specials : (List cal_Special)

structure portref2_duty where
  people : (List route_Person)
  clocks : (List cal_Calendar)
  away : (List (Int × Bool))

structure cal_Span where
  from_ : Int
  to_ : Int

structure cal_part where
  from_ : Int
  to_ : Int
  offset : Int

structure portref2_meter where
  clocks : (List cal_Calendar)

/-- porterslodge route within -/
def route_within (n : Int) (low : Int) (high : Int) : Bool :=
  ((decide (low ≤ n)) && (decide (n ≤ high)))

/-- porterslodge route name -/
noncomputable def route_name (s : ByteArray) : Option Bool :=
  Option.bind (whileB (fun s8 => if (decide (s8 < (s.size : Int))) = true then Option.bind (idxS s s8) fun x18 => if (((!((decide ((97 : Int) ≤ (x18.toNat : Int))) && (decide ((x18.toNat : Int) ≤ 122)))) && (!((decide ((48 : Int) ≤ (x18.toNat : Int))) && (decide ((x18.toNat : Int) ≤ 57))))) && ((x18.toNat : Int) != 95)) = true then some (.rt false) else some (.nx (w64 (s8 + 1))) else some (.bk s8)) 0) fun o1 => o1.andThen (fun y => some y) fun s2 =>
  some ((!(strEq s (⟨#[]⟩ : ByteArray))) && (decide ((s.size : Int) ≤ 20)))

/-- porterslodge route checkSkills -/
noncomputable def route_checkSkills (l : (List route_Skill)) : Option Int :=
  if (decide ((12 : Int) < (l.length : Int))) = true then
    some 4
  else
    Option.bind (rangeB (fun k7 _ => Option.bind (idx l (k7 : Int)) fun x27 => Option.bind (route_name x27.name) fun x41 => if (!x41) = true then some (.rt 3) else Option.bind (if (decide ((0 : Int) < (k7 : Int))) = true then (Option.bind (idx l (w64 ((k7 : Int) - 1))) fun x46 => some (strLt x27.name x46.name || strEq x27.name x46.name)) else (some false)) fun s44 => if s44 = true then some (.rt 5) else if (!(route_within x27.rank 1 9)) = true then some (.rt 2) else some (.nx ())) l.length 0 ()) fun o4 => o4.andThen (fun y => some y) fun s5 =>
    some 0

/-- porterslodge route CheckPeople -/
noncomputable def route_CheckPeople (l : (List route_Person)) : Option Int :=
  if (decide ((40 : Int) < (l.length : Int))) = true then
    some 4
  else
    Option.bind (rangeB (fun k7 _ => Option.bind (idx l (k7 : Int)) fun x27 => if (!(route_within x27.no 1 40)) = true then some (.rt 2) else Option.bind (if (decide ((0 : Int) < (k7 : Int))) = true then (Option.bind (idx l (w64 ((k7 : Int) - 1))) fun x50 => some (decide (x27.no ≤ x50.no))) else (some false)) fun s48 => if s48 = true then some (.rt 5) else if ((!(route_within x27.capacity 0 100)) || (!(route_within x27.calendar 0 19))) = true then some (.rt 2) else Option.bind (route_checkSkills x27.skills) fun x68 => if (x68 != 0) = true then some (.rt x68) else some (.nx ())) l.length 0 ()) fun o4 => o4.andThen (fun y => some y) fun s5 =>
    some 0

/-- porterslodge cal within -/
def cal_within (n : Int) (low : Int) (high : Int) : Bool :=
  ((decide (low ≤ n)) && (decide (n ≤ high)))

/-- porterslodge cal CheckZone -/
def cal_CheckZone (z : cal_Zone) : Option Int :=
  if (!(cal_within z.offset (-1440) 1440)) = true then
    some 2
  else
    if (decide ((60 : Int) < (z.changes.length : Int))) = true then
      some 4
    else
      Option.bind (rangeB (fun k27 s33 => Option.bind (idx z.changes (k27 : Int)) fun x46 => if ((!(cal_within x46.at_ 1 3000000)) || (!(cal_within x46.offset (-1440) 1440))) = true then some (.rt 2) else if (decide (x46.at_ ≤ s33.1)) = true then some (.rt 5) else if (x46.offset == s33.2) = true then some (.rt 1) else some (.nx (x46.at_, x46.offset))) z.changes.length 0 (0, z.offset)) fun o24 => o24.andThen (fun y => some y) fun s25 =>
      some 0

/-- cmp isNaN int -/
def cmp_isNaN_int (x : Int) : Bool :=
  x != x

/-- cmp Compare int -/
def cmp_Compare_int (x : Int) (y : Int) : Int :=
  if (cmp_isNaN_int x) = true then
    if (cmp_isNaN_int y) = true then
      0
    else
      (-1)
  else
    if (cmp_isNaN_int y) = true then
      1
    else
      if (decide (x < y)) = true then
        (-1)
      else
        if (decide (y < x)) = true then
          1
        else
          0

/-- cmp Or int -/
def cmp_Or_int (vals : (List Int)) : Option Int :=
  Option.bind (rangeB (fun k6 _ => Option.bind (idx vals (k6 : Int)) fun x21 => if (x21 != 0) = true then some (.rt x21) else some (.nx ())) vals.length 0 ()) fun o3 => o3.andThen (fun y => some y) fun s4 =>
  some 0

/-- porterslodge cal after -/
def cal_after (a_ : cal_Shift) (b : cal_Shift) : Option Bool :=
  Option.bind (cmp_Or_int ([(cmp_Compare_int a_.day b.day), (cmp_Compare_int a_.from_ b.from_), (cmp_Compare_int a_.to_ b.to_)] : List Int)) fun x31 =>
  some (decide ((0 : Int) < x31))

/-- porterslodge cal checkShifts -/
def cal_checkShifts (l : (List cal_Shift)) (dated : Bool) : Option Int :=
  Option.bind (rangeB (fun k6 _ => Option.bind (idx l (k6 : Int)) fun x25 => if (dated && (x25.day != 0)) = true then some (.rt 1) else if ((((!(cal_within x25.day 0 6)) || (!(cal_within x25.from_ 0 1439))) || (decide (x25.to_ ≤ x25.from_))) || (decide ((w64 (x25.from_ + 1440)) < x25.to_))) = true then some (.rt 2) else Option.bind (if (decide ((0 : Int) < (k6 : Int))) = true then (Option.bind (idx l (w64 ((k6 : Int) - 1))) fun x58 => Option.bind (cal_after x25 x58) fun x63 => some (!x63)) else (some false)) fun s56 => if s56 = true then some (.rt 5) else some (.nx ())) l.length 0 ()) fun o3 => o3.andThen (fun y => some y) fun s4 =>
  some 0

/-- porterslodge cal CheckCalendar -/
def cal_CheckCalendar (c : cal_Calendar) : Option Int :=
  Option.bind (cal_CheckZone c.zone) fun x18 =>
  if (x18 != 0) = true then
    some x18
  else
    if ((decide ((60 : Int) < (c.week.length : Int))) || (decide ((200 : Int) < (c.specials.length : Int)))) = true then
      some 4
    else
      Option.bind (cal_checkShifts c.week false) fun x38 =>
      if (x38 != 0) = true then
        some x38
      else
        Option.bind (rangeB (fun k50 _ => Option.bind (idx c.specials (k50 : Int)) fun x69 => if (!(cal_within x69.day (-1) 2084)) = true then some (.rt 2) else Option.bind (if (decide ((0 : Int) < (k50 : Int))) = true then (Option.bind (idx c.specials (w64 ((k50 : Int) - 1))) fun x96 => some (decide (x69.day ≤ x96.day))) else (some false)) fun s90 => if s90 = true then some (.rt 5) else if (decide ((12 : Int) < (x69.shifts.length : Int))) = true then some (.rt 4) else Option.bind (cal_checkShifts x69.shifts true) fun x114 => if (x114 != 0) = true then some (.rt x114) else some (.nx ())) c.specials.length 0 ()) fun o47 => o47.andThen (fun y => some y) fun s48 =>
        some 0

/-- porterslodge route checkCals -/
noncomputable def route_checkCals (people : (List route_Person)) (cals : (List cal_Calendar)) : Option Int :=
  Option.bind (route_CheckPeople people) fun x5 =>
  if (x5 != 0) = true then
    some x5
  else
    if (decide ((20 : Int) < (cals.length : Int))) = true then
      some 4
    else
      Option.bind (rangeB (fun k14 _ => Option.bind (idx cals (k14 : Int)) fun x33 => Option.bind (cal_CheckCalendar x33) fun x68 => if (x68 != 0) = true then some (.rt x68) else some (.nx ())) cals.length 0 ()) fun o11 => o11.andThen (fun y => some y) fun s12 =>
      Option.bind (rangeB (fun k79 _ => Option.bind (idx people (k79 : Int)) fun x98 => if (decide ((cals.length : Int) ≤ x98.calendar)) = true then some (.rt 7) else some (.nx ())) people.length 0 ()) fun o76 => o76.andThen (fun y => some y) fun s77 =>
      some 0

/-- porterslodge route moment -/
def route_moment (m : Int) : Int :=
  if (!(route_within m 0 3000000)) = true then
    2
  else
    0

/-- cmp Or porterslodge api Errno -/
def cmp_Or_api_Errno (vals : (List Int)) : Option Int :=
  Option.bind (rangeB (fun k6 _ => Option.bind (idx vals (k6 : Int)) fun x21 => if (x21 != 0) = true then some (.rt x21) else some (.nx ())) vals.length 0 ()) fun o3 => o3.andThen (fun y => some y) fun s4 =>
  some 0

/-- porterslodge cal moment -/
def cal_moment (m : Int) : Int :=
  if (!(cal_within m 0 3000000)) = true then
    2
  else
    0

/-- porterslodge cal Calendar open -/
def cal_Calendar_open (c : cal_Calendar) (from_ : Int) (to_ : Int) : Option (cal_Calendar × Int × Int) :=
  some (c, from_, to_)

/-- porterslodge cal Calendar shifts -/
def cal_Calendar_shifts (c : cal_Calendar) (from_ : Int) (to_ : Int) : Option (cal_Calendar × Int × Int) :=
  some (c, from_, to_)

/-- porterslodge cal Zone parts -/
def cal_Zone_parts (z : cal_Zone) : Option (List cal_part) :=
  Option.bind (rangeB (fun k24 s32 => Option.bind (idx z.changes (k24 : Int)) fun x47 => Option.bind (idx s32 (w64 ((s32.length : Int) - 1))) fun x61 => Option.bind (setI s32 (w64 ((s32.length : Int) - 1)) ({ (x61 : cal_part) with to_ := x47.at_ })) fun x67 => Option.bind (appendL 5864062014805 x67 ([(⟨x47.at_, 3000001, x47.offset⟩ : cal_part)] : List cal_part)) fun x78 => some (.nx x78)) z.changes.length 0 ([(⟨0, 3000001, z.offset⟩ : cal_part)] : List cal_part)) fun o21 => o21.andThen (fun y => some y) fun s22 =>
  some s22

/-- porterslodge cal floor -/
def cal_floor (a_ : Int) (b : Int) : Option Int :=
  Option.bind (quo a_ b) fun x1 =>
  Option.bind (rem a_ b) fun x2 =>
  Option.bind (if (decide (x2 < 0)) = true then some (w64 (x1 - 1)) else some x1) fun s4 =>
  some s4

/-- slices BinarySearchFunc porterslodge cal Special porterslodge cal Special int -/
noncomputable def slices_BinarySearchFunc_Lcal_Special_cal_Special_int (x : (List cal_Special)) (target : Int) (cmp : cal_Special → Int → Option Int) : Option (Int × Bool) :=
  Option.bind (whileB (fun s12 => if (decide (s12.1 < s12.2)) = true then Option.bind (Option.bind (shr .u64 (IntKind.wrap .u64 (w64 (s12.1 + s12.2))) 1) fun x32 => Option.bind (idx x (IntKind.wrap .i64 x32)) fun x33 => Option.bind (cmp x33 target) fun x40 => Option.bind (if (decide (x40 < 0)) = true then some (w64 ((IntKind.wrap .i64 x32) + 1), s12.2) else some (s12.1, IntKind.wrap .i64 x32)) fun s45 => some (s45.1, s45.2)) fun s25 => some (.nx (s25.1, s25.2)) else some (.bk (s12.1, s12.2))) (0, (x.length : Int))) fun o3 => o3.andThen (fun y => some y) fun s4 =>
  Option.bind (if (decide (s4.1 < (x.length : Int))) = true then (Option.bind (idx x s4.1) fun x66 => Option.bind (cmp x66 target) fun x73 => some (s4.1, x73 == 0)) else (some (s4.1, false))) fun s58 =>
  some (s58.1, s58.2)

/-- porterslodge cal Calendar shiftsOf 1 -/
def cal_Calendar_shiftsOf_1 (s : cal_Special) (d : Int) : Option Int :=
  some (cmp_Compare_int s.day d)

/-- slices Clone porterslodge cal Shift porterslodge cal Shift -/
def slices_Clone_Lcal_Shift_cal_Shift (s : (List cal_Shift)) : Option (List cal_Shift) :=
  Option.bind (appendL 5864062014805 ([] : List cal_Shift) s) fun x8 =>
  some x8

/-- porterslodge cal Calendar shiftsOf -/
noncomputable def cal_Calendar_shiftsOf (c : cal_Calendar) (day : Int) : Option (List cal_Shift) :=
  Option.bind (slices_BinarySearchFunc_Lcal_Special_cal_Special_int c.specials day (fun y18 y19 => cal_Calendar_shiftsOf_1 y18 y19)) fun x20 =>
  if x20.2 = true then
    Option.bind (idx c.specials x20.1) fun x41 =>
    Option.bind (slices_Clone_Lcal_Shift_cal_Shift x41.shifts) fun x49 =>
    some x49
  else
    Option.bind (rangeB (fun k64 s72 => Option.bind (Option.bind (idx c.week (k64 : Int)) fun x97 => Option.bind (cal_floor day 7) fun x111 => Option.bind (if (x97.day == (w64 (day - (w64 (7 * x111))))) = true then Option.bind (appendL 5864062014805 s72 ([(⟨0, x97.from_, x97.to_⟩ : cal_Shift)] : List cal_Shift)) fun x133 => some x133 else some s72) fun s116 => some s116) fun s88 => some (.nx s88)) c.week.length 0 ([] : (List cal_Shift))) fun o61 => o61.andThen (fun y => some y) fun s62 =>
    some s62

/-- porterslodge cal Calendar shifts 1 1 -/
noncomputable def cal_Calendar_shifts_1_1 (day : Int) (p1 : cal_Calendar) (p2 : cal_part) (p3 : Int) (p4 : Int) {p5_S : Type} (p5 : cal_Span → p5_S → Option (Bool × p5_S)) (p5_s : p5_S) : Option (Bool × p5_S) :=
  Option.bind (cal_Calendar_shiftsOf p1 day) fun x8 =>
  Option.bind (rangeB (fun k19 s25 => Option.bind (idx x8 (k19 : Int)) fun x38 => Option.bind (if (decide (((⟨(if p3 < w64 ((w64 ((w64 (day * 1440)) - p2.offset)) + x38.from_) then w64 ((w64 ((w64 (day * 1440)) - p2.offset)) + x38.from_) else p3), (if w64 ((w64 ((w64 (day * 1440)) - p2.offset)) + x38.to_) < p4 then w64 ((w64 ((w64 (day * 1440)) - p2.offset)) + x38.to_) else p4)⟩ : cal_Span).from_) < ((⟨(if p3 < w64 ((w64 ((w64 (day * 1440)) - p2.offset)) + x38.from_) then w64 ((w64 ((w64 (day * 1440)) - p2.offset)) + x38.from_) else p3), (if w64 ((w64 ((w64 (day * 1440)) - p2.offset)) + x38.to_) < p4 then w64 ((w64 ((w64 (day * 1440)) - p2.offset)) + x38.to_) else p4)⟩ : cal_Span).to_))) = true then (Option.bind (p5 (⟨(if p3 < w64 ((w64 ((w64 (day * 1440)) - p2.offset)) + x38.from_) then w64 ((w64 ((w64 (day * 1440)) - p2.offset)) + x38.from_) else p3), (if w64 ((w64 ((w64 (day * 1440)) - p2.offset)) + x38.to_) < p4 then w64 ((w64 ((w64 (day * 1440)) - p2.offset)) + x38.to_) else p4)⟩ : cal_Span) s25) fun x75 => some (!x75.1, x75.2)) else (some (false, s25))) fun s64 => if s64.1 = true then some (.rt (false, s64.2)) else some (.nx s64.2)) x8.length 0 p5_s) fun o16 => o16.andThen (fun y => some y) fun s17 =>
  some (true, s17)

/-- porterslodge cal Calendar shifts 1 -/
noncomputable def cal_Calendar_shifts_1 {yield_S : Type} (yield : cal_Span → yield_S → Option (Bool × yield_S)) (yield_s : yield_S) (p1 : cal_Calendar) (p2 : Int) (p3 : Int) : Option yield_S :=
  Option.bind (cal_Zone_parts p1.zone) fun x11 =>
  Option.bind (rangeB (fun k22 s28 => Option.bind (α := Lp _ _) (Option.bind (idx x11 (k22 : Int)) fun x49 => if (decide ((if x49.to_ < p3 then x49.to_ else p3) ≤ (if p2 < x49.from_ then x49.from_ else p2))) = true then some (.fin s28) else Option.bind (cal_floor (w64 ((if p2 < x49.from_ then x49.from_ else p2) + x49.offset)) 1440) fun x83 => Option.bind (whileB (fun s93 => Option.bind (cal_floor (w64 ((w64 ((if x49.to_ < p3 then x49.to_ else p3) - 1)) + x49.offset)) 1440) fun x105 => if (decide (s93.1 ≤ x105)) = true then Option.bind (cal_Calendar_shifts_1_1 s93.1 p1 x49 (if p2 < x49.from_ then x49.from_ else p2) (if x49.to_ < p3 then x49.to_ else p3) yield s93.2) fun x107 => if (!x107.1) = true then some (.rt x107.2) else some (.nx (w64 (s93.1 + 1), x107.2)) else some (.bk (s93.1, s93.2))) (w64 (x83 - 1), s28)) fun o84 => o84.andThen (fun y => some (.rt y)) fun s85 => some (.fin s85.2)) fun o41 => o41.andThen (fun y => some (.rt y)) fun s42 => some (.nx s42)) x11.length 0 yield_s) fun o19 => o19.andThen (fun y => some y) fun s20 =>
  some s20

/-- porterslodge cal Calendar open 1 -/
noncomputable def cal_Calendar_open_1 {yield_S : Type} (yield : cal_Span → yield_S → Option (Bool × yield_S)) (yield_s : yield_S) (p1 : cal_Calendar) (p2 : Int) (p3 : Int) : Option yield_S :=
  Option.bind (cal_Calendar_shifts p1 p2 p3) fun x23 =>
  Option.bind (cal_Calendar_shifts_1 (yieldB (fun (x43 : cal_Span) (s35 : (cal_Span × yield_S)) => Option.bind (α := Lp _ _) (Option.bind (α := Lp _ _) (Option.bind (α := Lp _ _) (if (decide (s35.1.from_ < 0)) = true then some (.fin (x43, s35.2)) else Option.bind (α := Lp _ _) (if (decide (x43.from_ ≤ s35.1.to_)) = true then some (.fin ((⟨s35.1.from_, (if s35.1.to_ < x43.to_ then x43.to_ else s35.1.to_)⟩ : cal_Span), s35.2)) else Option.bind (yield s35.1 s35.2) fun x110 => if (!x110.1) = true then some (.rt ((s35.1, x110.2), some 0)) else some (.fin (x43, x110.2))) fun o96 => o96.andThen (fun y => some (.rt y)) fun s97 => some (.fin (s97.1, s97.2))) fun o81 => o81.andThen (fun y => some (.rt y)) fun s82 => some (.fin (s82.1, s82.2))) fun o73 => o73.andThen (fun y => some (.rt y)) fun s74 => some (.fin (s74.1, s74.2))) fun o65 => o65.andThen (fun y => some y) fun s66 => some ((s66.1, s66.2), none))) (((⟨(-1), (-1)⟩ : cal_Span), yield_s), none) x23.1 x23.2.1 x23.2.2) fun z33 =>
  if z33.2 = some 0 then (some z33.1.2) else
  Option.bind (if (decide ((0 : Int) ≤ z33.1.1.from_)) = true then Option.bind (yield z33.1.1 z33.1.2) fun x148 => some x148.2 else some z33.1.2) fun s140 =>
  some s140

/-- porterslodge cal Open -/
noncomputable def cal_Open (c : cal_Calendar) (m : Int) : Option (Bool × Int) :=
  Option.bind (cal_CheckCalendar c) fun x31 =>
  Option.bind (cmp_Or_api_Errno ([x31, (cal_moment m)] : List Int)) fun x42 =>
  if (x42 != 0) = true then
    some (false, x42)
  else
    Option.bind (cal_Calendar_open c m (w64 (m + 1))) fun x57 =>
    Option.bind (cal_Calendar_open_1 (yieldB (fun (x78 : cal_Span) (s70 : (Int × Bool)) => some ((0, true), some 0))) ((0, false), none) x57.1 x57.2.1 x57.2.2) fun z68 =>
    if z68.2 = some 0 then (some (z68.1.2, z68.1.1)) else
    some (false, 0)

/-- porterslodge route OnDuty -/
noncomputable def route_OnDuty (people : (List route_Person)) (cals : (List cal_Calendar)) (m : Int) : Option ((List Int) × Int) :=
  Option.bind (route_checkCals people cals) fun x5 =>
  Option.bind (cmp_Or_api_Errno ([x5, (route_moment m)] : List Int)) fun x15 =>
  if (x15 != 0) = true then
    some (([] : (List Int)), x15)
  else
    Option.bind (rangeB (fun k20 s28 => Option.bind (Option.bind (idx people (k20 : Int)) fun x53 => Option.bind (idx cals x53.calendar) fun x72 => Option.bind (cal_Open x72 m) fun x83 => Option.bind (if x83.1 = true then Option.bind (appendL 17592186044416 s28 ([(k20 : Int)] : List Int)) fun x104 => some x104 else some s28) fun s88 => some s88) fun s44 => some (.nx s44)) people.length 0 ([] : (List Int))) fun o17 => o17.andThen (fun y => some y) fun s18 =>
    some (s18, 0)

/-- strings.Trim -/
def strings_Trim (s : ByteArray) (cutset : ByteArray) : Option ByteArray :=
  if s.size ≤ 9223372036854775807 ∧ cutset.size < 4294967281 ∧ (cutset.data.toList.all fun b => decide (b.toNat < 128)) = true then some ⟨(Go.Lib.trimS s.data.toList cutset.data.toList).toArray⟩ else none

/-- porterslodge portref2 IsName -/
def portref2_IsName (s : ByteArray) : Option Bool :=
  Option.bind (if (decide ((1 : Int) ≤ (s.size : Int))) = true then (if (decide ((s.size : Int) ≤ 20)) = true then (Option.bind (strings_Trim s (⟨#[97, 98, 99, 100, 101, 102, 103, 104, 105, 106, 107, 108, 109, 110, 111, 112, 113, 114, 115, 116, 117, 118, 119, 120, 121, 122, 48, 49, 50, 51, 52, 53, 54, 55, 56, 57, 95]⟩ : ByteArray)) fun x11 => some (strEq x11 (⟨#[]⟩ : ByteArray))) else (some false)) else (if false = true then (Option.bind (strings_Trim s (⟨#[97, 98, 99, 100, 101, 102, 103, 104, 105, 106, 107, 108, 109, 110, 111, 112, 113, 114, 115, 116, 117, 118, 119, 120, 121, 122, 48, 49, 50, 51, 52, 53, 54, 55, 56, 57, 95]⟩ : ByteArray)) fun x18 => some (strEq x18 (⟨#[]⟩ : ByteArray))) else (some false))) fun s2 =>
  some s2

/-- porterslodge portref2 skillsFault -/
def portref2_skillsFault (l : (List route_Skill)) : Option Int :=
  if (decide ((12 : Int) < (l.length : Int))) = true then
    some 4
  else
    Option.bind (rangeB (fun k7 _ => Option.bind (idx l (k7 : Int)) fun x27 => Option.bind (portref2_IsName x27.name) fun x41 => if (!x41) = true then some (.rt 3) else Option.bind (if (decide ((0 : Int) < (k7 : Int))) = true then (Option.bind (idx l (w64 ((k7 : Int) - 1))) fun x49 => some (strLt x27.name x49.name || strEq x27.name x49.name)) else (some false)) fun s47 => if s47 = true then some (.rt 5) else if ((decide (x27.rank < 1)) || (decide ((9 : Int) < x27.rank))) = true then some (.rt 2) else some (.nx ())) l.length 0 ()) fun o4 => o4.andThen (fun y => some y) fun s5 =>
    some 0

/-- porterslodge portref2 PeopleFault -/
def portref2_PeopleFault (l : (List route_Person)) : Option Int :=
  if (decide ((40 : Int) < (l.length : Int))) = true then
    some 4
  else
    Option.bind (rangeB (fun k7 _ => Option.bind (idx l (k7 : Int)) fun x27 => if ((decide (x27.no < 1)) || (decide ((40 : Int) < x27.no))) = true then some (.rt 2) else Option.bind (if (decide ((0 : Int) < (k7 : Int))) = true then (Option.bind (idx l (w64 ((k7 : Int) - 1))) fun x53 => some (decide (x27.no ≤ x53.no))) else (some false)) fun s51 => if s51 = true then some (.rt 5) else if ((((decide (x27.capacity < 0)) || (decide ((100 : Int) < x27.capacity))) || (decide (x27.calendar < 0))) || (decide ((20 : Int) ≤ x27.calendar))) = true then some (.rt 2) else Option.bind (portref2_skillsFault x27.skills) fun x77 => if (x77 != 0) = true then some (.rt x77) else some (.nx ())) l.length 0 ()) fun o4 => o4.andThen (fun y => some y) fun s5 =>
    some 0

/-- porterslodge portref2 ZoneFault 1 -/
def portref2_ZoneFault_1 (n : Int) : Bool :=
  ((decide (n < (-1440))) || (decide ((1440 : Int) < n)))

/-- porterslodge portref2 ZoneFault -/
def portref2_ZoneFault (z : cal_Zone) : Option Int :=
  if (portref2_ZoneFault_1 z.offset) = true then
    some 2
  else
    if (decide ((60 : Int) < (z.changes.length : Int))) = true then
      some 4
    else
      Option.bind (rangeB (fun k24 s30 => Option.bind (idx z.changes (k24 : Int)) fun x43 => Option.bind (if (decide (x43.at_ < 1)) = true then (if true = true then (some true) else (some (portref2_ZoneFault_1 x43.offset))) else (if (decide ((3000000 : Int) < x43.at_)) = true then (some true) else (some (portref2_ZoneFault_1 x43.offset)))) fun s57 => if s57 = true then some (.rt 2) else Option.bind (if (decide ((0 : Int) < (k24 : Int))) = true then (Option.bind (idx z.changes (w64 ((k24 : Int) - 1))) fun x83 => some (decide (x43.at_ ≤ x83.at_))) else (some false)) fun s77 => if s77 = true then some (.rt 5) else if (x43.offset == s30) = true then some (.rt 1) else some (.nx x43.offset)) z.changes.length 0 z.offset) fun o21 => o21.andThen (fun y => some y) fun s22 =>
      some 0

/-- porterslodge portref2 shiftFault -/
def portref2_shiftFault (l : (List cal_Shift)) (week : Bool) : Option Int :=
  Option.bind (rangeB (fun k6 _ => Option.bind (α := Lp _ _) (Option.bind (idx l (k6 : Int)) fun x33 => if ((!week) && (x33.day != 0)) = true then some (.rt 1) else if ((((((decide (x33.day < 0)) || (decide ((6 : Int) < x33.day))) || (decide (x33.from_ < 0))) || (decide ((1440 : Int) ≤ x33.from_))) || (decide (x33.to_ ≤ x33.from_))) || (decide ((w64 (x33.from_ + 1440)) < x33.to_))) = true then some (.rt 2) else Option.bind (α := Lp _ _) (if (decide ((0 : Int) < (k6 : Int))) = true then Option.bind (idx l (w64 ((k6 : Int) - 1))) fun x78 => Option.bind (cmp_Or_int ([(cmp_Compare_int x78.day x33.day), (cmp_Compare_int x78.from_ x33.from_), (cmp_Compare_int x78.to_ x33.to_)] : List Int)) fun x108 => if (decide ((0 : Int) ≤ x108)) = true then some (.rt 5) else some (.fin ()) else some (.fin ())) fun o69 => o69.andThen (fun y => some (.rt y)) fun s70 => some (.fin ())) fun o25 => o25.andThen (fun y => some (.rt y)) fun s26 => some (.nx ())) l.length 0 ()) fun o3 => o3.andThen (fun y => some y) fun s4 =>
  some 0

/-- porterslodge portref2 CalendarFault -/
def portref2_CalendarFault (c : cal_Calendar) : Option Int :=
  Option.bind (portref2_ZoneFault c.zone) fun x18 =>
  if (x18 != 0) = true then
    some x18
  else
    if ((decide ((60 : Int) < (c.week.length : Int))) || (decide ((200 : Int) < (c.specials.length : Int)))) = true then
      some 4
    else
      Option.bind (portref2_shiftFault c.week true) fun x38 =>
      if (x38 != 0) = true then
        some x38
      else
        Option.bind (rangeB (fun k50 _ => Option.bind (idx c.specials (k50 : Int)) fun x69 => if ((decide (x69.day < (-1))) || (decide ((2084 : Int) < x69.day))) = true then some (.rt 2) else Option.bind (if (decide ((0 : Int) < (k50 : Int))) = true then (Option.bind (idx c.specials (w64 ((k50 : Int) - 1))) fun x99 => some (decide (x69.day ≤ x99.day))) else (some false)) fun s93 => if s93 = true then some (.rt 5) else if (decide ((12 : Int) < (x69.shifts.length : Int))) = true then some (.rt 4) else Option.bind (portref2_shiftFault x69.shifts false) fun x117 => if (x117 != 0) = true then some (.rt x117) else some (.nx ())) c.specials.length 0 ()) fun o47 => o47.andThen (fun y => some y) fun s48 =>
        some 0

/-- porterslodge portref2 CalsFault -/
def portref2_CalsFault (cals : (List cal_Calendar)) (most : Int) : Option Int :=
  if (decide (most < (cals.length : Int))) = true then
    some 4
  else
    Option.bind (rangeB (fun k7 _ => Option.bind (idx cals (k7 : Int)) fun x27 => Option.bind (portref2_CalendarFault x27) fun x62 => if (x62 != 0) = true then some (.rt x62) else some (.nx ())) cals.length 0 ()) fun o4 => o4.andThen (fun y => some y) fun s5 =>
    some 0

/-- slices IndexFunc porterslodge route Person porterslodge route Person -/
def slices_IndexFunc_Lroute_Person_route_Person (s : (List route_Person)) (f : route_Person → Option Bool) : Option Int :=
  Option.bind (rangeB (fun k6 _ => Option.bind (idx s (k6 : Int)) fun x25 => Option.bind (f x25) fun x32 => if x32 = true then some (.rt (k6 : Int)) else some (.nx ())) s.length 0 ()) fun o3 => o3.andThen (fun y => some y) fun s4 =>
  some (-1)

/-- slices ContainsFunc porterslodge route Person porterslodge route Person -/
def slices_ContainsFunc_Lroute_Person_route_Person (s : (List route_Person)) (f : route_Person → Option Bool) : Option Bool :=
  Option.bind (slices_IndexFunc_Lroute_Person_route_Person s f) fun x3 =>
  some (decide ((0 : Int) ≤ x3))

/-- porterslodge portref2 dutyFault 1 -/
def portref2_dutyFault_1 (p : route_Person) (p1 : (List cal_Calendar)) : Option Bool :=
  some (decide ((p1.length : Int) ≤ p.calendar))

/-- porterslodge portref2 dutyFault -/
def portref2_dutyFault (people : (List route_Person)) (cals : (List cal_Calendar)) : Option Int :=
  Option.bind (portref2_PeopleFault people) fun x14 =>
  if (x14 != 0) = true then
    some x14
  else
    Option.bind (portref2_CalsFault cals 20) fun x22 =>
    if (x22 != 0) = true then
      some x22
    else
      Option.bind (slices_ContainsFunc_Lroute_Person_route_Person people (fun y27 => portref2_dutyFault_1 y27 cals)) fun x28 =>
      if x28 = true then
        some 7
      else
        some 0

/-- porterslodge portref2 IsMoment -/
def portref2_IsMoment (m : Int) : Bool :=
  ((decide ((0 : Int) ≤ m)) && (decide (m ≤ 3000000)))

/-- porterslodge portref2 floorDiv -/
def portref2_floorDiv (a_ : Int) (b : Int) : Option (Int × Int) :=
  Option.bind (quo a_ b) fun x1 =>
  Option.bind (rem a_ b) fun x2 =>
  Option.bind (if (decide (x2 < 0)) = true then some (w64 (x1 - 1), w64 (x2 + b)) else some (x1, x2)) fun s7 =>
  some (s7.1, s7.2)

/-- porterslodge portref2 ShiftsIn -/
def portref2_ShiftsIn (c : cal_Calendar) (day : Int) : Option (List cal_Shift) :=
  Option.bind (rangeB (fun k21 _ => Option.bind (idx c.specials (k21 : Int)) fun x40 => if (x40.day == day) = true then some (.rt x40.shifts) else some (.nx ())) c.specials.length 0 ()) fun o18 => o18.andThen (fun y => some y) fun s19 =>
  Option.bind (portref2_floorDiv day 7) fun x67 =>
  Option.bind (rangeB (fun k78 s86 => Option.bind (Option.bind (idx c.week (k78 : Int)) fun x111 => Option.bind (if (x111.day == x67.2) = true then Option.bind (appendL 5864062014805 s86 ([(⟨0, x111.from_, x111.to_⟩ : cal_Shift)] : List cal_Shift)) fun x143 => some x143 else some s86) fun s126 => some s126) fun s102 => some (.nx s102)) c.week.length 0 ([] : (List cal_Shift))) fun o75 => o75.andThen (fun y => some y) fun s76 =>
  some s76

def portref2_NewClock (c : cal_Calendar) : Option cal_Calendar := some c

/-- porterslodge portref2 newMeter -/
def portref2_newMeter (cals : (List cal_Calendar)) : Option portref2_meter :=
  Option.bind (rangeB (fun k11 s19 => Option.bind (idx cals (k11 : Int)) fun x34 => Option.bind (portref2_NewClock x34) fun x72 => Option.bind (appendL 17592186044416 s19.clocks [x72]) fun x86 => some (.nx (⟨x86⟩ : portref2_meter))) cals.length 0 (⟨([] : (List cal_Calendar))⟩ : portref2_meter)) fun o8 => o8.andThen (fun y => some y) fun s9 =>
  some s9

/-- porterslodge portref2 newDuty -/
def portref2_newDuty (people : (List route_Person)) (cals : (List cal_Calendar)) : Option portref2_duty :=
  Option.bind (portref2_newMeter cals) fun x5 =>
  some (⟨people, x5.clocks, ([] : List (Int × Bool))⟩ : portref2_duty)

/-- porterslodge portref2 OffsetIn -/
def portref2_OffsetIn (z : cal_Zone) (m : Int) : Option Int :=
  Option.bind (rangeB (fun k17 s23 => Option.bind (Option.bind (idx z.changes (k17 : Int)) fun x44 => Option.bind (if (decide (x44.at_ ≤ m)) = true then some x44.offset else some s23) fun s59 => some s59) fun s37 => some (.nx s37)) z.changes.length 0 z.offset) fun o14 => o14.andThen (fun y => some y) fun s15 =>
  some s15

/-- porterslodge portref2 LocalIn -/
def portref2_LocalIn (z : cal_Zone) (m : Int) : Option (Int × Int) :=
  Option.bind (portref2_OffsetIn z m) fun x12 =>
  Option.bind (portref2_floorDiv (w64 (m + x12)) 1440) fun x16 =>
  some (x16.1, x16.2)

def portref2_Clock_shifts (k : cal_Calendar) (day : Int) : Option (List cal_Shift) := portref2_ShiftsIn k day

/-- porterslodge portref2 Clock Open -/
def portref2_Clock_Open (k_ : cal_Calendar) (m : Int) : Option Bool :=
  Option.bind (portref2_LocalIn k_.zone m) fun x6 =>
  Option.bind (portref2_Clock_shifts k_ x6.1) fun x10 =>
  Option.bind (rangeB (fun k20 _ => Option.bind (idx x10 (k20 : Int)) fun x39 => if ((decide (x39.from_ ≤ x6.2)) && (decide (x6.2 < x39.to_))) = true then some (.rt true) else some (.nx ())) x10.length 0 ()) fun o17 => o17.andThen (fun y => some y) fun s18 =>
  Option.bind (portref2_Clock_shifts k_ (w64 (x6.1 - 1))) fun x60 =>
  Option.bind (rangeB (fun k70 _ => Option.bind (idx x60 (k70 : Int)) fun x89 => if ((decide (x89.from_ ≤ (w64 (x6.2 + 1440)))) && (decide ((w64 (x6.2 + 1440)) < x89.to_))) = true then some (.rt true) else some (.nx ())) x60.length 0 ()) fun o67 => o67.andThen (fun y => some y) fun s68 =>
  some false

/-- porterslodge portref2 duty on -/
def portref2_duty_on (d : portref2_duty) (p : route_Person) (m : Int) : Option Bool :=
  Option.bind (if (!((mapGet d.away p.no).getD false)) = true then (Option.bind (idx d.clocks p.calendar) fun x25 => Option.bind (portref2_Clock_Open x25 m) fun x34 => some x34) else (some false)) fun s15 =>
  some s15

/-- porterslodge portref2 OnDutyOf -/
def portref2_OnDutyOf (people : (List route_Person)) (cals : (List cal_Calendar)) (m : Int) : Option ((List Int) × Int) :=
  Option.bind (portref2_dutyFault people cals) fun x5 =>
  if (x5 != 0) = true then
    some (([] : (List Int)), x5)
  else
    if (!(portref2_IsMoment m)) = true then
      some (([] : (List Int)), 2)
    else
      Option.bind (portref2_newDuty people cals) fun x11 =>
      Option.bind (rangeB (fun k25 s33 => Option.bind (Option.bind (idx people (k25 : Int)) fun x58 => Option.bind (portref2_duty_on x11 x58 m) fun x79 => Option.bind (if x79 = true then Option.bind (appendL 17592186044416 s33 ([(k25 : Int)] : List Int)) fun x101 => some x101 else some s33) fun s85 => some s85) fun s49 => some (.nx s49)) people.length 0 ([] : (List Int))) fun o22 => o22.andThen (fun y => some y) fun s23 =>
      some (s23, 0)

/-- porterslodge route NextChange 1 -/
def route_NextChange_1 (p : route_Person) (p1 : Int) : Option Bool :=
  some (p.calendar == p1)

/-- porterslodge cal NextClosed -/
noncomputable def cal_NextClosed (c : cal_Calendar) (m : Int) : Option (Int × Int) :=
  Option.bind (cal_CheckCalendar c) fun x26 =>
  Option.bind (cmp_Or_api_Errno ([x26, (cal_moment m)] : List Int)) fun x36 =>
  if (x36 != 0) = true then
    some (0, x36)
  else
    Option.bind (cal_Calendar_open c m 3000001) fun x45 =>
    Option.bind (cal_Calendar_open_1 (yieldB (fun (x65 : cal_Span) (s57 : Int) => Option.bind (if (x65.from_ == s57) = true then some x65.to_ else some s57) fun s89 => some (s89, some 1))) (m, none) x45.1 x45.2.1 x45.2.2) fun z55 =>
    if (decide ((3000000 : Int) < z55.1)) = true then
      some (0, 7)
    else
      some (z55.1, 0)

/-- porterslodge cal NextOpen -/
noncomputable def cal_NextOpen (c : cal_Calendar) (m : Int) : Option (Int × Int) :=
  Option.bind (cal_CheckCalendar c) fun x31 =>
  Option.bind (cmp_Or_api_Errno ([x31, (cal_moment m)] : List Int)) fun x42 =>
  if (x42 != 0) = true then
    some (0, x42)
  else
    Option.bind (cal_Calendar_open c m 3000001) fun x57 =>
    Option.bind (cal_Calendar_open_1 (yieldB (fun (x78 : cal_Span) (s70 : (Int × Int)) => some ((0, x78.from_), some 0))) ((0, 0), none) x57.1 x57.2.1 x57.2.2) fun z68 =>
    if z68.2 = some 0 then (some (z68.1.2, z68.1.1)) else
    some (0, 7)

/-- porterslodge route turn -/
noncomputable def route_turn (c : cal_Calendar) (m : Int) : Option (Int × Int) :=
  Option.bind (cal_Open c m) fun x21 =>
  if x21.1 = true then
    Option.bind (cal_NextClosed c m) fun x33 =>
    some (x33.1, x33.2)
  else
    Option.bind (cal_NextOpen c m) fun x44 =>
    some (x44.1, x44.2)

/-- porterslodge route NextChange -/
noncomputable def route_NextChange (people : (List route_Person)) (cals : (List cal_Calendar)) (m : Int) : Option (Int × Int) :=
  Option.bind (route_checkCals people cals) fun x5 =>
  Option.bind (cmp_Or_api_Errno ([x5, (route_moment m)] : List Int)) fun x15 =>
  if (x15 != 0) = true then
    some (0, x15)
  else
    Option.bind (rangeB (fun k20 s26 => Option.bind (Option.bind (idx cals (k20 : Int)) fun x47 => Option.bind (slices_ContainsFunc_Lroute_Person_route_Person people (fun y92 => route_NextChange_1 y92 (k20 : Int))) fun x93 => if (!x93) = true then some s26 else Option.bind (route_turn x47 m) fun x116 => Option.bind (if ((x116.2 == 0) && ((decide (s26 < 0)) || (decide (x116.1 < s26)))) = true then some x116.1 else some s26) fun s125 => some s125) fun s40 => some (.nx s40)) cals.length 0 (-1)) fun o17 => o17.andThen (fun y => some y) fun s18 =>
    if (decide (s18 < 0)) = true then
      some (0, 7)
    else
      some (s18, 0)

/-- porterslodge portref2 duty change -/
noncomputable def portref2_duty_change (d : portref2_duty) (m : Int) (to_ : Int) : Option Int :=
  Option.bind (whileB (fun s15 => if (decide (s15 ≤ to_)) = true then Option.bind (α := Lp _ _) (Option.bind (rangeB (fun k39 _ => Option.bind (idx d.people (k39 : Int)) fun x58 => Option.bind (idx d.clocks x58.calendar) fun x77 => Option.bind (portref2_Clock_Open x77 s15) fun x99 => Option.bind (portref2_Clock_Open x77 (w64 (s15 - 1))) fun x104 => if (!(x99 == x104)) = true then some (.rt s15) else some (.nx ())) d.people.length 0 ()) fun o36 => o36.andThen (fun y => some (.rt y)) fun s37 => some (.fin ())) fun o28 => o28.andThen (fun y => some (.rt y)) fun s29 => some (.nx (w64 (s15 + 1))) else some (.bk s15)) (w64 (m + 1))) fun o6 => o6.andThen (fun y => some y) fun s7 =>
  some (-1)

/-- porterslodge portref2 NextChangeOf -/
noncomputable def portref2_NextChangeOf (people : (List route_Person)) (cals : (List cal_Calendar)) (m : Int) : Option (Int × Int) :=
  Option.bind (portref2_dutyFault people cals) fun x5 =>
  if (x5 != 0) = true then
    some (0, x5)
  else
    if (!(portref2_IsMoment m)) = true then
      some (0, 2)
    else
      Option.bind (portref2_newDuty people cals) fun x11 =>
      Option.bind (portref2_duty_change x11 m 3000000) fun x22 =>
      if (decide (x22 < 0)) = true then
        some (0, 7)
      else
        some (x22, 0)

/-- slices Equal int int -/
def slices_Equal_Lint_int (s1 : (List Int)) (s2 : (List Int)) : Option Bool :=
  if ((s1.length : Int) != (s2.length : Int)) = true then
    some false
  else
    Option.bind (rangeB (fun k9 _ => Option.bind (idx s1 (k9 : Int)) fun x29 => Option.bind (idx s2 (k9 : Int)) fun x33 => if (x29 != x33) = true then some (.rt false) else some (.nx ())) s1.length 0 ()) fun o6 => o6.andThen (fun y => some y) fun s7 =>
    some true

/-- porterslodge portlaw2 RouteDuty -/
noncomputable def portlaw2_RouteDuty (people : (List route_Person)) (cals : (List cal_Calendar)) (m : Int) : Option Bool :=
  Option.bind (route_OnDuty people cals m) fun x5 =>
  Option.bind (portref2_OnDutyOf people cals m) fun x14 =>
  Option.bind (route_NextChange people cals m) fun x22 =>
  Option.bind (portref2_NextChangeOf people cals m) fun x26 =>
  Option.bind (if (x5.2 == x14.2) = true then (if (x22.2 == x26.2) = true then (Option.bind (slices_Equal_Lint_int x5.1 x14.1) fun x40 => if x40 = true then (some (x22.1 == x26.1)) else (some false)) else (if false = true then (some (x22.1 == x26.1)) else (some false))) else (if false = true then (Option.bind (slices_Equal_Lint_int x5.1 x14.1) fun x51 => if x51 = true then (some (x22.1 == x26.1)) else (some false)) else (if false = true then (some (x22.1 == x26.1)) else (some false)))) fun s31 =>
  some s31

end Go.Proofs.YtehofjchjogbkaaDoor.M
