import Derived.Test.YtfbnaobiondblaaGreatDoorPu
import Derived.Lib.SlTrimSet
import Derived.Test.YtfbnaobiondblaaGreatDoorPr
import Derived.Test.YtfbnaobiondblaaGreatDoorPj
namespace Go.Proofs.YtfbnaobiondblaaGreatDoor.M
open Go Go.Pu
set_option linter.unusedVariables false
set_option linter.unusedSimpArgs false
structure route_Skill where
 name : ByteArray
 rank : Int
structure route_Person where
 no : Int
 capacity : Int
 calendar : Int
 skills : (List route_Skill)
structure cal_Change where
 at_ : Int
 offset : Int
structure cal_Zone where
 offset : Int
 changes : (List cal_Change)
structure cal_Shift where
 day : Int
 from_ : Int
 to_ : Int
structure cal_Special where
 day : Int
 shifts : (List cal_Shift)
structure cal_Calendar where
 zone : cal_Zone
 week : (List cal_Shift)
 specials : (List cal_Special)
structure route_Step where
 after : Int
 lower : Int
 any : Bool
structure route_assigner where
 people : (List route_Person)
 cals : (List cal_Calendar)
 steps : (List route_Step)
 away : (List Bool)
structure route_desk where
 people : (List route_Person)
 duty : (List Bool)
 weights : (List Int)
 latest : (List Int)
structure portref2_duty where
 people : (List route_Person)
 clocks : (List cal_Calendar)
 away : (List (Int × Bool))
structure route_Held where
 ticket : Int
 person : Int
 weight : Int
 since : Int
structure route_Work where
 ticket : Int
 weight : Int
 urgency : Int
 since : Int
 former : Int
 needs : (List route_Skill)
structure cal_Span where
 from_ : Int
 to_ : Int
structure cal_part where
 from_ : Int
 to_ : Int
 offset : Int
structure portref2_meter where
 clocks : (List cal_Calendar)
def route_within (n : Int) (low : Int) (high : Int) : Bool :=
 ((decide (low ≤ n)) && (decide (n ≤ high)))
noncomputable def route_name (s : ByteArray) : Option Bool :=
 Option.bind (whileB (fun s8 => if (decide (s8 < (s.size : Int))) = true then Option.bind (idxS s s8) fun x18 => if (((!((decide ((97 : Int) ≤ (x18.toNat : Int))) && (decide ((x18.toNat : Int) ≤ 122)))) && (!((decide ((48 : Int) ≤ (x18.toNat : Int))) && (decide ((x18.toNat : Int) ≤ 57))))) && ((x18.toNat : Int) != 95)) = true then some (.rt false) else some (.nx (w64 (s8 + 1))) else some (.bk s8)) 0) fun o1 => o1.andThen (fun y => some y) fun s2 =>
 some ((!(strEq s (⟨#[]⟩ : ByteArray))) && (decide ((s.size : Int) ≤ 20)))
noncomputable def route_checkSkills (l : (List route_Skill)) : Option Int :=
 if (decide ((12 : Int) < (l.length : Int))) = true then
  some 4
 else
  Option.bind (rangeB (fun k7 _ => Option.bind (idx l (k7 : Int)) fun x27 => Option.bind (route_name x27.name) fun x41 => if (!x41) = true then some (.rt 3) else Option.bind (if (decide ((0 : Int) < (k7 : Int))) = true then (Option.bind (idx l (w64 ((k7 : Int) - 1))) fun x46 => some (strLt x27.name x46.name || strEq x27.name x46.name)) else (some false)) fun s44 => if s44 = true then some (.rt 5) else if (!(route_within x27.rank 1 9)) = true then some (.rt 2) else some (.nx ())) l.length 0 ()) fun o4 => o4.andThen (fun y => some y) fun s5 =>
  some 0
noncomputable def route_CheckPeople (l : (List route_Person)) : Option Int :=
 if (decide ((40 : Int) < (l.length : Int))) = true then
  some 4
 else
  Option.bind (rangeB (fun k7 _ => Option.bind (idx l (k7 : Int)) fun x27 => if (!(route_within x27.no 1 40)) = true then some (.rt 2) else Option.bind (if (decide ((0 : Int) < (k7 : Int))) = true then (Option.bind (idx l (w64 ((k7 : Int) - 1))) fun x50 => some (decide (x27.no ≤ x50.no))) else (some false)) fun s48 => if s48 = true then some (.rt 5) else if ((!(route_within x27.capacity 0 100)) || (!(route_within x27.calendar 0 19))) = true then some (.rt 2) else Option.bind (route_checkSkills x27.skills) fun x68 => if (x68 != 0) = true then some (.rt x68) else some (.nx ())) l.length 0 ()) fun o4 => o4.andThen (fun y => some y) fun s5 =>
  some 0
def cal_within (n : Int) (low : Int) (high : Int) : Bool :=
 ((decide (low ≤ n)) && (decide (n ≤ high)))
def cal_CheckZone (z : cal_Zone) : Option Int :=
 if (!(cal_within z.offset (-1440) 1440)) = true then
  some 2
 else
  if (decide ((60 : Int) < (z.changes.length : Int))) = true then
   some 4
  else
   Option.bind (rangeB (fun k27 s33 => Option.bind (idx z.changes (k27 : Int)) fun x46 => if ((!(cal_within x46.at_ 1 3000000)) || (!(cal_within x46.offset (-1440) 1440))) = true then some (.rt 2) else if (decide (x46.at_ ≤ s33.1)) = true then some (.rt 5) else if (x46.offset == s33.2) = true then some (.rt 1) else some (.nx (x46.at_, x46.offset))) z.changes.length 0 (0, z.offset)) fun o24 => o24.andThen (fun y => some y) fun s25 =>
   some 0
def cmp_isNaN_int (x : Int) : Bool :=
 x != x
def cmp_Compare_int (x : Int) (y : Int) : Int :=
 if (cmp_isNaN_int x) = true then
  if (cmp_isNaN_int y) = true then
   0
  else
   (-1)
 else
  if (cmp_isNaN_int y) = true then
   1
  else
   if (decide (x < y)) = true then
    (-1)
   else
    if (decide (y < x)) = true then
     1
    else
     0
def cmp_Or_int (vals : (List Int)) : Option Int :=
 Option.bind (rangeB (fun k6 _ => Option.bind (idx vals (k6 : Int)) fun x21 => if (x21 != 0) = true then some (.rt x21) else some (.nx ())) vals.length 0 ()) fun o3 => o3.andThen (fun y => some y) fun s4 =>
 some 0
def cal_after (a_ : cal_Shift) (b : cal_Shift) : Option Bool :=
 Option.bind (cmp_Or_int ([(cmp_Compare_int a_.day b.day), (cmp_Compare_int a_.from_ b.from_), (cmp_Compare_int a_.to_ b.to_)] : List Int)) fun x31 =>
 some (decide ((0 : Int) < x31))
def cal_checkShifts (l : (List cal_Shift)) (dated : Bool) : Option Int :=
 Option.bind (rangeB (fun k6 _ => Option.bind (idx l (k6 : Int)) fun x25 => if (dated && (x25.day != 0)) = true then some (.rt 1) else if ((((!(cal_within x25.day 0 6)) || (!(cal_within x25.from_ 0 1439))) || (decide (x25.to_ ≤ x25.from_))) || (decide ((w64 (x25.from_ + 1440)) < x25.to_))) = true then some (.rt 2) else Option.bind (if (decide ((0 : Int) < (k6 : Int))) = true then (Option.bind (idx l (w64 ((k6 : Int) - 1))) fun x58 => Option.bind (cal_after x25 x58) fun x63 => some (!x63)) else (some false)) fun s56 => if s56 = true then some (.rt 5) else some (.nx ())) l.length 0 ()) fun o3 => o3.andThen (fun y => some y) fun s4 =>
 some 0
def cal_CheckCalendar (c : cal_Calendar) : Option Int :=
 Option.bind (cal_CheckZone c.zone) fun x18 =>
 if (x18 != 0) = true then
  some x18
 else
  if ((decide ((60 : Int) < (c.week.length : Int))) || (decide ((200 : Int) < (c.specials.length : Int)))) = true then
   some 4
  else
   Option.bind (cal_checkShifts c.week false) fun x38 =>
   if (x38 != 0) = true then
    some x38
   else
    Option.bind (rangeB (fun k50 _ => Option.bind (idx c.specials (k50 : Int)) fun x69 => if (!(cal_within x69.day (-1) 2084)) = true then some (.rt 2) else Option.bind (if (decide ((0 : Int) < (k50 : Int))) = true then (Option.bind (idx c.specials (w64 ((k50 : Int) - 1))) fun x96 => some (decide (x69.day ≤ x96.day))) else (some false)) fun s90 => if s90 = true then some (.rt 5) else if (decide ((12 : Int) < (x69.shifts.length : Int))) = true then some (.rt 4) else Option.bind (cal_checkShifts x69.shifts true) fun x114 => if (x114 != 0) = true then some (.rt x114) else some (.nx ())) c.specials.length 0 ()) fun o47 => o47.andThen (fun y => some y) fun s48 =>
    some 0
noncomputable def route_checkCals (people : (List route_Person)) (cals : (List cal_Calendar)) : Option Int :=
 Option.bind (route_CheckPeople people) fun x5 =>
 if (x5 != 0) = true then
  some x5
 else
  if (decide ((20 : Int) < (cals.length : Int))) = true then
   some 4
  else
   Option.bind (rangeB (fun k14 _ => Option.bind (idx cals (k14 : Int)) fun x33 => Option.bind (cal_CheckCalendar x33) fun x68 => if (x68 != 0) = true then some (.rt x68) else some (.nx ())) cals.length 0 ()) fun o11 => o11.andThen (fun y => some y) fun s12 =>
   Option.bind (rangeB (fun k79 _ => Option.bind (idx people (k79 : Int)) fun x98 => if (decide ((cals.length : Int) ≤ x98.calendar)) = true then some (.rt 7) else some (.nx ())) people.length 0 ()) fun o76 => o76.andThen (fun y => some y) fun s77 =>
   some 0
def slices_IndexFunc_Lroute_Person_route_Person (s : (List route_Person)) (f : route_Person → Option Bool) : Option Int :=
 Option.bind (rangeB (fun k6 _ => Option.bind (idx s (k6 : Int)) fun x25 => Option.bind (f x25) fun x32 => if x32 = true then some (.rt (k6 : Int)) else some (.nx ())) s.length 0 ()) fun o3 => o3.andThen (fun y => some y) fun s4 =>
 some (-1)
def route_position_1 (p : route_Person) (p1 : Int) : Option Bool :=
 some (p.no == p1)
def route_position (people : (List route_Person)) (no : Int) : Option Int :=
 Option.bind (slices_IndexFunc_Lroute_Person_route_Person people (fun y9 => route_position_1 y9 no)) fun x10 =>
 some x10
def route_checkHeld (people : (List route_Person)) (l : (List route_Held)) : Option Int :=
 if (decide ((400 : Int) < (l.length : Int))) = true then
  some 4
 else
  Option.bind (rangeB (fun k9 _ => Option.bind (idx l (k9 : Int)) fun x29 => if (!(route_within x29.ticket 1 400)) = true then some (.rt 2) else Option.bind (if (decide ((0 : Int) < (k9 : Int))) = true then (Option.bind (idx l (w64 ((k9 : Int) - 1))) fun x47 => some (decide (x29.ticket ≤ x47.ticket))) else (some false)) fun s45 => if s45 = true then some (.rt 5) else Option.bind (route_position people x29.person) fun x57 => if (decide (x57 < 0)) = true then some (.rt 7) else if ((!(route_within x29.weight 1 20)) || (!(route_within x29.since 0 3000000))) = true then some (.rt 2) else some (.nx ())) l.length 0 ()) fun o6 => o6.andThen (fun y => some y) fun s7 =>
  some 0
def slices_IndexFunc_Lroute_Work_route_Work (s : (List route_Work)) (f : route_Work → Option Bool) : Option Int :=
 Option.bind (rangeB (fun k6 _ => Option.bind (idx s (k6 : Int)) fun x25 => Option.bind (f x25) fun x32 => if x32 = true then some (.rt (k6 : Int)) else some (.nx ())) s.length 0 ()) fun o3 => o3.andThen (fun y => some y) fun s4 =>
 some (-1)
def slices_ContainsFunc_Lroute_Work_route_Work (s : (List route_Work)) (f : route_Work → Option Bool) : Option Bool :=
 Option.bind (slices_IndexFunc_Lroute_Work_route_Work s f) fun x3 =>
 some (decide ((0 : Int) ≤ x3))
def route_CheckWork_1 (x : route_Work) (p1 : route_Work) : Option Bool :=
 some (x.ticket == p1.ticket)
noncomputable def route_CheckWork (l : (List route_Work)) : Option Int :=
 if (decide ((200 : Int) < (l.length : Int))) = true then
  some 4
 else
  Option.bind (rangeB (fun k7 _ => Option.bind (idx l (k7 : Int)) fun x27 => if (!(route_within x27.ticket 1 400)) = true then some (.rt 2) else Option.bind (sliceL l none (some (k7 : Int))) fun x47 => Option.bind (slices_ContainsFunc_Lroute_Work_route_Work x47 (fun y50 => route_CheckWork_1 y50 x27)) fun x51 => if x51 = true then some (.rt 6) else if ((((!(route_within x27.weight 1 20)) || (!(route_within x27.urgency 0 9))) || (!(route_within x27.since 0 3000000))) || (!(route_within x27.former 0 40))) = true then some (.rt 2) else Option.bind (route_checkSkills x27.needs) fun x81 => if (x81 != 0) = true then some (.rt x81) else some (.nx ())) l.length 0 ()) fun o4 => o4.andThen (fun y => some y) fun s5 =>
  some 0
def route_CheckSteps (l : (List route_Step)) : Option Int :=
 if (decide ((8 : Int) < (l.length : Int))) = true then
  some 4
 else
  Option.bind (rangeB (fun k7 _ => Option.bind (idx l (k7 : Int)) fun x27 => if ((!(route_within x27.after 1 3000000)) || (!(route_within x27.lower 0 9))) = true then some (.rt 2) else Option.bind (if (decide ((0 : Int) < (k7 : Int))) = true then (Option.bind (idx l (w64 ((k7 : Int) - 1))) fun x48 => some (decide (x27.after ≤ x48.after))) else (some false)) fun s46 => if s46 = true then some (.rt 5) else some (.nx ())) l.length 0 ()) fun o4 => o4.andThen (fun y => some y) fun s5 =>
  some 0
def route_moment (m : Int) : Int :=
 if (!(route_within m 0 3000000)) = true then
  2
 else
  0
def cmp_Or_api_Errno (vals : (List Int)) : Option Int :=
 Option.bind (rangeB (fun k6 _ => Option.bind (idx vals (k6 : Int)) fun x21 => if (x21 != 0) = true then some (.rt x21) else some (.nx ())) vals.length 0 ()) fun o3 => o3.andThen (fun y => some y) fun s4 =>
 some 0
def slices_IndexFunc_Lroute_Held_route_Held (s : (List route_Held)) (f : route_Held → Option Bool) : Option Int :=
 Option.bind (rangeB (fun k6 _ => Option.bind (idx s (k6 : Int)) fun x25 => Option.bind (f x25) fun x30 => if x30 = true then some (.rt (k6 : Int)) else some (.nx ())) s.length 0 ()) fun o3 => o3.andThen (fun y => some y) fun s4 =>
 some (-1)
def slices_ContainsFunc_Lroute_Held_route_Held (s : (List route_Held)) (f : route_Held → Option Bool) : Option Bool :=
 Option.bind (slices_IndexFunc_Lroute_Held_route_Held s f) fun x3 =>
 some (decide ((0 : Int) ≤ x3))
def route_Assign_1 (h : route_Held) (p1 : route_Work) : Option Bool :=
 some (h.ticket == p1.ticket)
def route_weights (people : (List route_Person)) (held : (List route_Held)) : Option (List Int) :=
 Option.bind (makeL 35184372088832 (people.length : Int) (0 : Int)) fun x5 =>
 Option.bind (rangeB (fun k14 s22 => Option.bind (idx held (k14 : Int)) fun x37 => Option.bind (route_position people x37.person) fun x51 => Option.bind (idx s22 x51) fun x52 => Option.bind (setI s22 x51 (w64 (x52 + x37.weight))) fun x65 => some (.nx x65)) held.length 0 x5) fun o11 => o11.andThen (fun y => some y) fun s12 =>
 some s12
def cal_moment (m : Int) : Int :=
 if (!(cal_within m 0 3000000)) = true then
  2
 else
  0
def cal_Calendar_open (c : cal_Calendar) (from_ : Int) (to_ : Int) : Option (cal_Calendar × Int × Int) :=
 some (c, from_, to_)
def cal_Calendar_shifts (c : cal_Calendar) (from_ : Int) (to_ : Int) : Option (cal_Calendar × Int × Int) :=
 some (c, from_, to_)
def cal_Zone_parts (z : cal_Zone) : Option (List cal_part) :=
 Option.bind (rangeB (fun k24 s32 => Option.bind (idx z.changes (k24 : Int)) fun x47 => Option.bind (idx s32 (w64 ((s32.length : Int) - 1))) fun x61 => Option.bind (setI s32 (w64 ((s32.length : Int) - 1)) ({ (x61 : cal_part) with to_ := x47.at_ })) fun x67 => Option.bind (appendL 5864062014805 x67 ([(⟨x47.at_, 3000001, x47.offset⟩ : cal_part)] : List cal_part)) fun x78 => some (.nx x78)) z.changes.length 0 ([(⟨0, 3000001, z.offset⟩ : cal_part)] : List cal_part)) fun o21 => o21.andThen (fun y => some y) fun s22 =>
 some s22
def cal_floor (a_ : Int) (b : Int) : Option Int :=
 Option.bind (quo a_ b) fun x1 =>
 Option.bind (rem a_ b) fun x2 =>
 Option.bind (if (decide (x2 < 0)) = true then some (w64 (x1 - 1)) else some x1) fun s4 =>
 some s4
noncomputable def slices_BinarySearchFunc_Lcal_Special_cal_Special_int (x : (List cal_Special)) (target : Int) (cmp : cal_Special → Int → Option Int) : Option (Int × Bool) :=
 Option.bind (whileB (fun s12 => if (decide (s12.1 < s12.2)) = true then Option.bind (Option.bind (shr .u64 (IntKind.wrap .u64 (w64 (s12.1 + s12.2))) 1) fun x32 => Option.bind (idx x (IntKind.wrap .i64 x32)) fun x33 => Option.bind (cmp x33 target) fun x40 => Option.bind (if (decide (x40 < 0)) = true then some (w64 ((IntKind.wrap .i64 x32) + 1), s12.2) else some (s12.1, IntKind.wrap .i64 x32)) fun s45 => some (s45.1, s45.2)) fun s25 => some (.nx (s25.1, s25.2)) else some (.bk (s12.1, s12.2))) (0, (x.length : Int))) fun o3 => o3.andThen (fun y => some y) fun s4 =>
 Option.bind (if (decide (s4.1 < (x.length : Int))) = true then (Option.bind (idx x s4.1) fun x66 => Option.bind (cmp x66 target) fun x73 => some (s4.1, x73 == 0)) else (some (s4.1, false))) fun s58 =>
 some (s58.1, s58.2)
def cal_Calendar_shiftsOf_1 (s : cal_Special) (d : Int) : Option Int :=
 some (cmp_Compare_int s.day d)
def slices_Clone_Lcal_Shift_cal_Shift (s : (List cal_Shift)) : Option (List cal_Shift) :=
 Option.bind (appendL 5864062014805 ([] : List cal_Shift) s) fun x8 =>
 some x8
noncomputable def cal_Calendar_shiftsOf (c : cal_Calendar) (day : Int) : Option (List cal_Shift) :=
 Option.bind (slices_BinarySearchFunc_Lcal_Special_cal_Special_int c.specials day (fun y18 y19 => cal_Calendar_shiftsOf_1 y18 y19)) fun x20 =>
 if x20.2 = true then
  Option.bind (idx c.specials x20.1) fun x41 =>
  Option.bind (slices_Clone_Lcal_Shift_cal_Shift x41.shifts) fun x49 =>
  some x49
 else
  Option.bind (rangeB (fun k64 s72 => Option.bind (Option.bind (idx c.week (k64 : Int)) fun x97 => Option.bind (cal_floor day 7) fun x111 => Option.bind (if (x97.day == (w64 (day - (w64 (7 * x111))))) = true then Option.bind (appendL 5864062014805 s72 ([(⟨0, x97.from_, x97.to_⟩ : cal_Shift)] : List cal_Shift)) fun x133 => some x133 else some s72) fun s116 => some s116) fun s88 => some (.nx s88)) c.week.length 0 ([] : (List cal_Shift))) fun o61 => o61.andThen (fun y => some y) fun s62 =>
  some s62
noncomputable def cal_Calendar_shifts_1_1 (day : Int) (p1 : cal_Calendar) (p2 : cal_part) (p3 : Int) (p4 : Int) {p5_S : Type} (p5 : cal_Span → p5_S → Option (Bool × p5_S)) (p5_s : p5_S) : Option (Bool × p5_S) :=
 Option.bind (cal_Calendar_shiftsOf p1 day) fun x8 =>
 Option.bind (rangeB (fun k19 s25 => Option.bind (idx x8 (k19 : Int)) fun x38 => Option.bind (if (decide (((⟨(if p3 < w64 ((w64 ((w64 (day * 1440)) - p2.offset)) + x38.from_) then w64 ((w64 ((w64 (day * 1440)) - p2.offset)) + x38.from_) else p3), (if w64 ((w64 ((w64 (day * 1440)) - p2.offset)) + x38.to_) < p4 then w64 ((w64 ((w64 (day * 1440)) - p2.offset)) + x38.to_) else p4)⟩ : cal_Span).from_) < ((⟨(if p3 < w64 ((w64 ((w64 (day * 1440)) - p2.offset)) + x38.from_) then w64 ((w64 ((w64 (day * 1440)) - p2.offset)) + x38.from_) else p3), (if w64 ((w64 ((w64 (day * 1440)) - p2.offset)) + x38.to_) < p4 then w64 ((w64 ((w64 (day * 1440)) - p2.offset)) + x38.to_) else p4)⟩ : cal_Span).to_))) = true then (Option.bind (p5 (⟨(if p3 < w64 ((w64 ((w64 (day * 1440)) - p2.offset)) + x38.from_) then w64 ((w64 ((w64 (day * 1440)) - p2.offset)) + x38.from_) else p3), (if w64 ((w64 ((w64 (day * 1440)) - p2.offset)) + x38.to_) < p4 then w64 ((w64 ((w64 (day * 1440)) - p2.offset)) + x38.to_) else p4)⟩ : cal_Span) s25) fun x75 => some (!x75.1, x75.2)) else (some (false, s25))) fun s64 => if s64.1 = true then some (.rt (false, s64.2)) else some (.nx s64.2)) x8.length 0 p5_s) fun o16 => o16.andThen (fun y => some y) fun s17 =>
 some (true, s17)
noncomputable def cal_Calendar_shifts_1 {yield_S : Type} (yield : cal_Span → yield_S → Option (Bool × yield_S)) (yield_s : yield_S) (p1 : cal_Calendar) (p2 : Int) (p3 : Int) : Option yield_S :=
 Option.bind (cal_Zone_parts p1.zone) fun x11 =>
 Option.bind (rangeB (fun k22 s28 => Option.bind (α := Lp _ _) (Option.bind (idx x11 (k22 : Int)) fun x49 => if (decide ((if x49.to_ < p3 then x49.to_ else p3) ≤ (if p2 < x49.from_ then x49.from_ else p2))) = true then some (.fin s28) else Option.bind (cal_floor (w64 ((if p2 < x49.from_ then x49.from_ else p2) + x49.offset)) 1440) fun x83 => Option.bind (whileB (fun s93 => Option.bind (cal_floor (w64 ((w64 ((if x49.to_ < p3 then x49.to_ else p3) - 1)) + x49.offset)) 1440) fun x105 => if (decide (s93.1 ≤ x105)) = true then Option.bind (cal_Calendar_shifts_1_1 s93.1 p1 x49 (if p2 < x49.from_ then x49.from_ else p2) (if x49.to_ < p3 then x49.to_ else p3) yield s93.2) fun x107 => if (!x107.1) = true then some (.rt x107.2) else some (.nx (w64 (s93.1 + 1), x107.2)) else some (.bk (s93.1, s93.2))) (w64 (x83 - 1), s28)) fun o84 => o84.andThen (fun y => some (.rt y)) fun s85 => some (.fin s85.2)) fun o41 => o41.andThen (fun y => some (.rt y)) fun s42 => some (.nx s42)) x11.length 0 yield_s) fun o19 => o19.andThen (fun y => some y) fun s20 =>
 some s20
noncomputable def cal_Calendar_open_1 {yield_S : Type} (yield : cal_Span → yield_S → Option (Bool × yield_S)) (yield_s : yield_S) (p1 : cal_Calendar) (p2 : Int) (p3 : Int) : Option yield_S :=
 Option.bind (cal_Calendar_shifts p1 p2 p3) fun x23 =>
 Option.bind (cal_Calendar_shifts_1 (yieldB (fun (x43 : cal_Span) (s35 : (cal_Span × yield_S)) => Option.bind (α := Lp _ _) (Option.bind (α := Lp _ _) (Option.bind (α := Lp _ _) (if (decide (s35.1.from_ < 0)) = true then some (.fin (x43, s35.2)) else Option.bind (α := Lp _ _) (if (decide (x43.from_ ≤ s35.1.to_)) = true then some (.fin ((⟨s35.1.from_, (if s35.1.to_ < x43.to_ then x43.to_ else s35.1.to_)⟩ : cal_Span), s35.2)) else Option.bind (yield s35.1 s35.2) fun x110 => if (!x110.1) = true then some (.rt ((s35.1, x110.2), some 0)) else some (.fin (x43, x110.2))) fun o96 => o96.andThen (fun y => some (.rt y)) fun s97 => some (.fin (s97.1, s97.2))) fun o81 => o81.andThen (fun y => some (.rt y)) fun s82 => some (.fin (s82.1, s82.2))) fun o73 => o73.andThen (fun y => some (.rt y)) fun s74 => some (.fin (s74.1, s74.2))) fun o65 => o65.andThen (fun y => some y) fun s66 => some ((s66.1, s66.2), none))) (((⟨(-1), (-1)⟩ : cal_Span), yield_s), none) x23.1 x23.2.1 x23.2.2) fun z33 =>
 if z33.2 = some 0 then (some z33.1.2) else
 Option.bind (if (decide ((0 : Int) ≤ z33.1.1.from_)) = true then Option.bind (yield z33.1.1 z33.1.2) fun x148 => some x148.2 else some z33.1.2) fun s140 =>
 some s140
noncomputable def cal_Open (c : cal_Calendar) (m : Int) : Option (Bool × Int) :=
 Option.bind (cal_CheckCalendar c) fun x31 =>
 Option.bind (cmp_Or_api_Errno ([x31, (cal_moment m)] : List Int)) fun x42 =>
 if (x42 != 0) = true then
  some (false, x42)
 else
  Option.bind (cal_Calendar_open c m (w64 (m + 1))) fun x57 =>
  Option.bind (cal_Calendar_open_1 (yieldB (fun (x78 : cal_Span) (s70 : (Int × Bool)) => some ((0, true), some 0))) ((0, false), none) x57.1 x57.2.1 x57.2.2) fun z68 =>
  if z68.2 = some 0 then (some (z68.1.2, z68.1.1)) else
  some (false, 0)
noncomputable def route_assigner_at (a_ : route_assigner) (held : (List route_Held)) (m : Int) : Option route_desk :=
 Option.bind (makeL 281474976710656 (a_.people.length : Int) (false : Bool)) fun x83 =>
 Option.bind (route_weights a_.people held) fun x143 =>
 Option.bind (makeL 35184372088832 (a_.people.length : Int) (0 : Int)) fun x203 =>
 Option.bind (makeL 281474976710656 (a_.cals.length : Int) (false : Bool)) fun x346 =>
 Option.bind (rangeB (fun k359 s367 => Option.bind (idx a_.cals (k359 : Int)) fun x382 => Option.bind (cal_Open x382 m) fun x417 => Option.bind (idx s367 (k359 : Int)) fun x421 => Option.bind (setI s367 (k359 : Int) x417.1) fun x426 => some (.nx x426)) a_.cals.length 0 x346) fun o356 => o356.andThen (fun y => some y) fun s357 =>
 Option.bind (rangeB (fun k440 s454 => Option.bind (idx a_.people (k440 : Int)) fun x475 => Option.bind (idx s357 x475.calendar) fun x494 => Option.bind (if x494 = true then (Option.bind (idx a_.away (k440 : Int)) fun x505 => some (!x505)) else (some false)) fun s500 => Option.bind (idx s454.duty (k440 : Int)) fun x509 => Option.bind (setI s454.duty (k440 : Int) s500) fun x517 => Option.bind (idx s454.latest (k440 : Int)) fun x521 => Option.bind (setI s454.latest (k440 : Int) (-1)) fun x526 => some (.nx (⟨s454.people, x517, s454.weights, x526⟩ : route_desk))) a_.people.length 0 (⟨a_.people, x83, x143, x203⟩ : route_desk)) fun o437 => o437.andThen (fun y => some y) fun s438 =>
 Option.bind (rangeB (fun k536 s550 => Option.bind (idx held (k536 : Int)) fun x571 => Option.bind (route_position a_.people x571.person) fun x589 => Option.bind (idx s550.latest x589) fun x593 => Option.bind (setI s550.latest x589 (if x593 < x571.since then x571.since else x593)) fun x606 => some (.nx (⟨s550.people, s550.duty, s550.weights, x606⟩ : route_desk))) held.length 0 s438) fun o533 => o533.andThen (fun y => some y) fun s534 =>
 some s534
def route_order_1 (a_ : Int) (b : Int) (p2 : (List route_Work)) : Option Int :=
 Option.bind (idx p2 a_) fun x10 =>
 Option.bind (idx p2 b) fun x20 =>
 Option.bind (cmp_Or_int ([(cmp_Compare_int x20.urgency x10.urgency), (cmp_Compare_int x10.since x20.since), (cmp_Compare_int x10.ticket x20.ticket)] : List Int)) fun x58 =>
 some x58
noncomputable def route_order (l : (List route_Work)) : Option (List Int) :=
 Option.bind (rangeB (fun k19 s27 => Option.bind (appendL 17592186044416 s27 ([(k19 : Int)] : List Int)) fun x48 => some (.nx x48)) l.length 0 ([] : (List Int))) fun o16 => o16.andThen (fun y => some y) fun s17 =>
 Option.bind (sortFuncL (fun y61 y62 => route_order_1 y61 y62 l) s17) fun x57 =>
 some x57
def slices_Clone_Lroute_Skill_route_Skill (s : (List route_Skill)) : Option (List route_Skill) :=
 Option.bind (appendL 5864062014805 ([] : List route_Skill) s) fun x8 =>
 some x8
def route_needsAt (w_ : route_Work) (steps : (List route_Step)) (m : Int) : Option (List route_Skill) :=
 Option.bind (rangeB (fun k14 s20 => Option.bind (Option.bind (idx steps (k14 : Int)) fun x41 => Option.bind (if (decide (x41.after ≤ (w64 (m - w_.since)))) = true then some (k14 : Int) else some s20) fun s51 => some s51) fun s34 => some (.nx s34)) steps.length 0 (-1)) fun o11 => o11.andThen (fun y => some y) fun s12 =>
 Option.bind ((if s12 < 0 then some true else (idx steps s12).map fun _ => false)) fun x63 =>
 if x63 = true then
  Option.bind (slices_Clone_Lroute_Skill_route_Skill w_.needs) fun x69 =>
  some x69
 else
  Option.bind (idx steps s12) fun x77 =>
  if x77.any = true then
   some ([] : (List route_Skill))
  else
   Option.bind (rangeB (fun k91 s99 => Option.bind (Option.bind (idx w_.needs (k91 : Int)) fun x124 => Option.bind (if (decide ((1 : Int) ≤ (w64 (x124.rank - x77.lower)))) = true then Option.bind (appendL 5864062014805 s99 ([(⟨x124.name, w64 (x124.rank - x77.lower)⟩ : route_Skill)] : List route_Skill)) fun x165 => some x165 else some s99) fun s149 => some s149) fun s115 => some (.nx s115)) w_.needs.length 0 ([] : (List route_Skill))) fun o88 => o88.andThen (fun y => some y) fun s89 =>
   some s89
def slices_IndexFunc_Lroute_Skill_route_Skill (s : (List route_Skill)) (f : route_Skill → Option Bool) : Option Int :=
 Option.bind (rangeB (fun k6 _ => Option.bind (idx s (k6 : Int)) fun x25 => Option.bind (f x25) fun x30 => if x30 = true then some (.rt (k6 : Int)) else some (.nx ())) s.length 0 ()) fun o3 => o3.andThen (fun y => some y) fun s4 =>
 some (-1)
def slices_ContainsFunc_Lroute_Skill_route_Skill (s : (List route_Skill)) (f : route_Skill → Option Bool) : Option Bool :=
 Option.bind (slices_IndexFunc_Lroute_Skill_route_Skill s f) fun x3 =>
 some (decide ((0 : Int) ≤ x3))
def route_Person_able_1 (s : route_Skill) (p1 : route_Skill) : Option Bool :=
 some ((strEq s.name p1.name) && (decide (p1.rank ≤ s.rank)))
def route_Person_able (p : route_Person) (needs : (List route_Skill)) : Option Bool :=
 Option.bind (rangeB (fun k14 _ => Option.bind (idx needs (k14 : Int)) fun x33 => Option.bind (slices_ContainsFunc_Lroute_Skill_route_Skill p.skills (fun y50 => route_Person_able_1 y50 x33)) fun x51 => if (!x51) = true then some (.rt false) else some (.nx ())) needs.length 0 ()) fun o11 => o11.andThen (fun y => some y) fun s12 =>
 some true
noncomputable def slices_MinFunc_Lint_int (x : (List Int)) (cmp : Int → Int → Option Int) : Option Int :=
 if (decide ((x.length : Int) < 1)) = true then
  none
 else
  Option.bind (idx x 0) fun x4 =>
  Option.bind (whileB (fun s17 => if (decide (s17.2 < (x.length : Int))) = true then Option.bind (Option.bind (idx x s17.2) fun x38 => Option.bind (cmp x38 s17.1) fun x42 => Option.bind (if (decide (x42 < 0)) = true then some x38 else some s17.1) fun s47 => some s47) fun s30 => some (.nx (s30, w64 (s17.2 + 1))) else some (.bk (s17.1, s17.2))) (x4, 1)) fun o8 => o8.andThen (fun y => some y) fun s9 =>
  some s9.1
def route_desk_before (d : route_desk) (a_ : Int) (b : Int) : Option Int :=
 Option.bind (idx d.people a_) fun x11 =>
 Option.bind (idx d.people b) fun x22 =>
 Option.bind (idx d.weights a_) fun x47 =>
 Option.bind (idx d.weights b) fun x56 =>
 Option.bind (idx d.latest a_) fun x65 =>
 Option.bind (idx d.latest b) fun x73 =>
 Option.bind (cmp_Or_int ([(cmp_Compare_int (w64 (x47 * x22.capacity)) (w64 (x56 * x11.capacity))), (cmp_Compare_int x65 x73), (cmp_Compare_int x11.no x22.no)] : List Int)) fun x90 =>
 some x90
noncomputable def route_desk_choose (d : route_desk) (w_ : route_Work) (needs : (List route_Skill)) : Option Int :=
 Option.bind (rangeB (fun k18 s26 => Option.bind (α := Lp _ _) (Option.bind (idx d.people (k18 : Int)) fun x51 => Option.bind (idx d.duty (k18 : Int)) fun x73 => Option.bind (if (!x73) = true then (some true) else (Option.bind (idx d.weights (k18 : Int)) fun x84 => some (decide ((w64 (x51.capacity - x84)) < w_.weight)))) fun s78 => Option.bind (if s78 = true then (some true) else (Option.bind (route_Person_able x51 needs) fun x94 => some (!x94))) fun s90 => if s90 = true then some (.fin s26) else if (x51.no == w_.former) = true then some (.rt (k18 : Int)) else Option.bind (appendL 17592186044416 s26 ([(k18 : Int)] : List Int)) fun x109 => some (.fin x109)) fun o41 => o41.andThen (fun y => some (.rt y)) fun s42 => some (.nx s42)) d.people.length 0 ([] : (List Int))) fun o15 => o15.andThen (fun y => some y) fun s16 =>
 if ((s16.length : Int) == 0) = true then
  some (-1)
 else
  Option.bind (slices_MinFunc_Lint_int s16 (fun y120 y121 => route_desk_before d y120 y121)) fun x122 =>
  some x122
noncomputable def route_assigner_assign (a_ : route_assigner) (held : (List route_Held)) (waiting : (List route_Work)) (m : Int) : Option ((List route_Held) × (List route_Work)) :=
 Option.bind (route_assigner_at a_ held m) fun x5 =>
 Option.bind (makeL 281474976710656 (waiting.length : Int) (false : Bool)) fun x19 =>
 Option.bind (route_order waiting) fun x25 =>
 Option.bind (rangeB (fun k36 s54 => Option.bind (Option.bind (idx x25 (k36 : Int)) fun x99 => Option.bind (idx waiting x99) fun x104 => Option.bind (route_needsAt x104 a_.steps m) fun x135 => Option.bind (route_desk_choose s54.2.2 x104 x135) fun x143 => if (decide (x143 < 0)) = true then some (s54.1, s54.2.1, s54.2.2) else Option.bind (idx s54.1 x99) fun x149 => Option.bind (setI s54.1 x99 true) fun x154 => Option.bind (idx s54.2.2.weights x143) fun x158 => Option.bind (setI s54.2.2.weights x143 (w64 (x158 + x104.weight))) fun x171 => Option.bind (idx s54.2.2.latest x143) fun x175 => Option.bind (setI s54.2.2.latest x143 (if x175 < m then m else x175)) fun x187 => Option.bind (idx a_.people x143) fun x199 => Option.bind (appendL 4398046511104 s54.2.1 ([(⟨x104.ticket, x199.no, x104.weight, m⟩ : route_Held)] : List route_Held)) fun x210 => some (x154, x210, (⟨s54.2.2.people, s54.2.2.duty, x171, x187⟩ : route_desk))) fun s80 => some (.nx (s80.1, s80.2.1, s80.2.2))) x25.length 0 (x19, ([] : (List route_Held)), x5)) fun o33 => o33.andThen (fun y => some y) fun s34 =>
 Option.bind (rangeB (fun k223 s231 => Option.bind (Option.bind (idx waiting (k223 : Int)) fun x256 => Option.bind (idx s34.1 (k223 : Int)) fun x274 => Option.bind (if (!x274) = true then Option.bind (slices_Clone_Lroute_Skill_route_Skill x256.needs) fun x292 => Option.bind (appendL 2199023255552 s231 ([(⟨x256.ticket, x256.weight, x256.urgency, x256.since, x256.former, x292⟩ : route_Work)] : List route_Work)) fun x319 => some (x319, (⟨x256.ticket, x256.weight, x256.urgency, x256.since, x256.former, x292⟩ : route_Work)) else some (s231, x256)) fun s280 => some s280.1) fun s247 => some (.nx s247)) waiting.length 0 ([] : (List route_Work))) fun o220 => o220.andThen (fun y => some y) fun s221 =>
 some (s34.2.1, s221)
def slices_Grow_Lroute_Held_route_Held {α : Type} (n : Int) : Option (List α) := if 0 ≤ n ∧ n ≤ 4398046511104 then some [] else none
def slices_Concat_Lroute_Held_route_Held (slices : (List (List route_Held))) : Option (List route_Held) :=
 Option.bind (rangeB (fun k6 s12 => Option.bind (idx slices (k6 : Int)) fun x25 => if (decide ((w64 (s12 + (x25.length : Int))) < 0)) = true then none else some (.nx (w64 (s12 + (x25.length : Int))))) slices.length 0 0) fun o3 => o3.andThen (fun y => some y) fun s4 =>
 Option.bind (slices_Grow_Lroute_Held_route_Held  s4) fun x36 =>
 Option.bind (rangeB (fun k47 s55 => Option.bind (idx slices (k47 : Int)) fun x70 => Option.bind (appendL 4398046511104 s55 x70) fun x77 => some (.nx x77)) slices.length 0 x36) fun o44 => o44.andThen (fun y => some y) fun s45 =>
 some s45
def route_byTicket_1 (x : route_Held) (y : route_Held) : Option Int :=
 some (cmp_Compare_int x.ticket y.ticket)
noncomputable def route_byTicket (l : (List route_Held)) : Option (List route_Held) :=
 Option.bind (sortFuncL (fun y5 y6 => route_byTicket_1 y5 y6) l) fun x1 =>
 some x1
noncomputable def route_Assign (people : (List route_Person)) (cals : (List cal_Calendar)) (held : (List route_Held)) (waiting : (List route_Work)) (steps : (List route_Step)) (m : Int) : Option ((List route_Held) × (List route_Work) × Int) :=
 Option.bind (route_checkCals people cals) fun x11 =>
 Option.bind (route_checkHeld people held) fun x15 =>
 Option.bind (route_CheckWork waiting) fun x20 =>
 Option.bind (route_CheckSteps steps) fun x24 =>
 Option.bind (cmp_Or_api_Errno ([x11, x15, x20, x24, (route_moment m)] : List Int)) fun x34 =>
 if (x34 != 0) = true then
  some (([] : (List route_Held)), ([] : (List route_Work)), x34)
 else
  Option.bind (rangeB (fun k39 _ => Option.bind (idx waiting (k39 : Int)) fun x58 => Option.bind (slices_ContainsFunc_Lroute_Held_route_Held held (fun y76 => route_Assign_1 y76 x58)) fun x77 => if x77 = true then some (.rt (([] : (List route_Held)), ([] : (List route_Work)), 6)) else some (.nx ())) waiting.length 0 ()) fun o36 => o36.andThen (fun y => some y) fun s37 =>
  Option.bind (makeL 281474976710656 (people.length : Int) (false : Bool)) fun x93 =>
  Option.bind (route_assigner_assign (⟨people, cals, steps, x93⟩ : route_assigner) held waiting m) fun x122 =>
  Option.bind (slices_Concat_Lroute_Held_route_Held ([held, x122.1] : List (List route_Held))) fun x147 =>
  Option.bind (route_byTicket x147) fun x155 =>
  some (x155, x122.2, 0)
def strings_Trim (s : ByteArray) (cutset : ByteArray) : Option ByteArray :=
 if s.size ≤ 9223372036854775807 ∧ cutset.size < 4294967281 ∧ (cutset.data.toList.all fun b => decide (b.toNat < 128)) = true then some ⟨(Go.Lib.trimS s.data.toList cutset.data.toList).toArray⟩ else none
def portref2_IsName (s : ByteArray) : Option Bool :=
 Option.bind (if (decide ((1 : Int) ≤ (s.size : Int))) = true then (if (decide ((s.size : Int) ≤ 20)) = true then (Option.bind (strings_Trim s (⟨#[97, 98, 99, 100, 101, 102, 103, 104, 105, 106, 107, 108, 109, 110, 111, 112, 113, 114, 115, 116, 117, 118, 119, 120, 121, 122, 48, 49, 50, 51, 52, 53, 54, 55, 56, 57, 95]⟩ : ByteArray)) fun x11 => some (strEq x11 (⟨#[]⟩ : ByteArray))) else (some false)) else (if false = true then (Option.bind (strings_Trim s (⟨#[97, 98, 99, 100, 101, 102, 103, 104, 105, 106, 107, 108, 109, 110, 111, 112, 113, 114, 115, 116, 117, 118, 119, 120, 121, 122, 48, 49, 50, 51, 52, 53, 54, 55, 56, 57, 95]⟩ : ByteArray)) fun x18 => some (strEq x18 (⟨#[]⟩ : ByteArray))) else (some false))) fun s2 =>
 some s2
def portref2_skillsFault (l : (List route_Skill)) : Option Int :=
 if (decide ((12 : Int) < (l.length : Int))) = true then
  some 4
 else
  Option.bind (rangeB (fun k7 _ => Option.bind (idx l (k7 : Int)) fun x27 => Option.bind (portref2_IsName x27.name) fun x41 => if (!x41) = true then some (.rt 3) else Option.bind (if (decide ((0 : Int) < (k7 : Int))) = true then (Option.bind (idx l (w64 ((k7 : Int) - 1))) fun x49 => some (strLt x27.name x49.name || strEq x27.name x49.name)) else (some false)) fun s47 => if s47 = true then some (.rt 5) else if ((decide (x27.rank < 1)) || (decide ((9 : Int) < x27.rank))) = true then some (.rt 2) else some (.nx ())) l.length 0 ()) fun o4 => o4.andThen (fun y => some y) fun s5 =>
  some 0
def portref2_PeopleFault (l : (List route_Person)) : Option Int :=
 if (decide ((40 : Int) < (l.length : Int))) = true then
  some 4
 else
  Option.bind (rangeB (fun k7 _ => Option.bind (idx l (k7 : Int)) fun x27 => if ((decide (x27.no < 1)) || (decide ((40 : Int) < x27.no))) = true then some (.rt 2) else Option.bind (if (decide ((0 : Int) < (k7 : Int))) = true then (Option.bind (idx l (w64 ((k7 : Int) - 1))) fun x53 => some (decide (x27.no ≤ x53.no))) else (some false)) fun s51 => if s51 = true then some (.rt 5) else if ((((decide (x27.capacity < 0)) || (decide ((100 : Int) < x27.capacity))) || (decide (x27.calendar < 0))) || (decide ((20 : Int) ≤ x27.calendar))) = true then some (.rt 2) else Option.bind (portref2_skillsFault x27.skills) fun x77 => if (x77 != 0) = true then some (.rt x77) else some (.nx ())) l.length 0 ()) fun o4 => o4.andThen (fun y => some y) fun s5 =>
  some 0
def portref2_ZoneFault_1 (n : Int) : Bool :=
 ((decide (n < (-1440))) || (decide ((1440 : Int) < n)))
def portref2_ZoneFault (z : cal_Zone) : Option Int :=
 if (portref2_ZoneFault_1 z.offset) = true then
  some 2
 else
  if (decide ((60 : Int) < (z.changes.length : Int))) = true then
   some 4
  else
   Option.bind (rangeB (fun k24 s30 => Option.bind (idx z.changes (k24 : Int)) fun x43 => Option.bind (if (decide (x43.at_ < 1)) = true then (if true = true then (some true) else (some (portref2_ZoneFault_1 x43.offset))) else (if (decide ((3000000 : Int) < x43.at_)) = true then (some true) else (some (portref2_ZoneFault_1 x43.offset)))) fun s57 => if s57 = true then some (.rt 2) else Option.bind (if (decide ((0 : Int) < (k24 : Int))) = true then (Option.bind (idx z.changes (w64 ((k24 : Int) - 1))) fun x83 => some (decide (x43.at_ ≤ x83.at_))) else (some false)) fun s77 => if s77 = true then some (.rt 5) else if (x43.offset == s30) = true then some (.rt 1) else some (.nx x43.offset)) z.changes.length 0 z.offset) fun o21 => o21.andThen (fun y => some y) fun s22 =>
   some 0
def portref2_shiftFault (l : (List cal_Shift)) (week : Bool) : Option Int :=
 Option.bind (rangeB (fun k6 _ => Option.bind (α := Lp _ _) (Option.bind (idx l (k6 : Int)) fun x33 => if ((!week) && (x33.day != 0)) = true then some (.rt 1) else if ((((((decide (x33.day < 0)) || (decide ((6 : Int) < x33.day))) || (decide (x33.from_ < 0))) || (decide ((1440 : Int) ≤ x33.from_))) || (decide (x33.to_ ≤ x33.from_))) || (decide ((w64 (x33.from_ + 1440)) < x33.to_))) = true then some (.rt 2) else Option.bind (α := Lp _ _) (if (decide ((0 : Int) < (k6 : Int))) = true then Option.bind (idx l (w64 ((k6 : Int) - 1))) fun x78 => Option.bind (cmp_Or_int ([(cmp_Compare_int x78.day x33.day), (cmp_Compare_int x78.from_ x33.from_), (cmp_Compare_int x78.to_ x33.to_)] : List Int)) fun x108 => if (decide ((0 : Int) ≤ x108)) = true then some (.rt 5) else some (.fin ()) else some (.fin ())) fun o69 => o69.andThen (fun y => some (.rt y)) fun s70 => some (.fin ())) fun o25 => o25.andThen (fun y => some (.rt y)) fun s26 => some (.nx ())) l.length 0 ()) fun o3 => o3.andThen (fun y => some y) fun s4 =>
 some 0
def portref2_CalendarFault (c : cal_Calendar) : Option Int :=
 Option.bind (portref2_ZoneFault c.zone) fun x18 =>
 if (x18 != 0) = true then
  some x18
 else
  if ((decide ((60 : Int) < (c.week.length : Int))) || (decide ((200 : Int) < (c.specials.length : Int)))) = true then
   some 4
  else
   Option.bind (portref2_shiftFault c.week true) fun x38 =>
   if (x38 != 0) = true then
    some x38
   else
    Option.bind (rangeB (fun k50 _ => Option.bind (idx c.specials (k50 : Int)) fun x69 => if ((decide (x69.day < (-1))) || (decide ((2084 : Int) < x69.day))) = true then some (.rt 2) else Option.bind (if (decide ((0 : Int) < (k50 : Int))) = true then (Option.bind (idx c.specials (w64 ((k50 : Int) - 1))) fun x99 => some (decide (x69.day ≤ x99.day))) else (some false)) fun s93 => if s93 = true then some (.rt 5) else if (decide ((12 : Int) < (x69.shifts.length : Int))) = true then some (.rt 4) else Option.bind (portref2_shiftFault x69.shifts false) fun x117 => if (x117 != 0) = true then some (.rt x117) else some (.nx ())) c.specials.length 0 ()) fun o47 => o47.andThen (fun y => some y) fun s48 =>
    some 0
def portref2_CalsFault (cals : (List cal_Calendar)) (most : Int) : Option Int :=
 if (decide (most < (cals.length : Int))) = true then
  some 4
 else
  Option.bind (rangeB (fun k7 _ => Option.bind (idx cals (k7 : Int)) fun x27 => Option.bind (portref2_CalendarFault x27) fun x62 => if (x62 != 0) = true then some (.rt x62) else some (.nx ())) cals.length 0 ()) fun o4 => o4.andThen (fun y => some y) fun s5 =>
  some 0
def slices_ContainsFunc_Lroute_Person_route_Person (s : (List route_Person)) (f : route_Person → Option Bool) : Option Bool :=
 Option.bind (slices_IndexFunc_Lroute_Person_route_Person s f) fun x3 =>
 some (decide ((0 : Int) ≤ x3))
def portref2_dutyFault_1 (p : route_Person) (p1 : (List cal_Calendar)) : Option Bool :=
 some (decide ((p1.length : Int) ≤ p.calendar))
def portref2_dutyFault (people : (List route_Person)) (cals : (List cal_Calendar)) : Option Int :=
 Option.bind (portref2_PeopleFault people) fun x14 =>
 if (x14 != 0) = true then
  some x14
 else
  Option.bind (portref2_CalsFault cals 20) fun x22 =>
  if (x22 != 0) = true then
   some x22
  else
   Option.bind (slices_ContainsFunc_Lroute_Person_route_Person people (fun y27 => portref2_dutyFault_1 y27 cals)) fun x28 =>
   if x28 = true then
    some 7
   else
    some 0
def portref2_personAt_1 (p : route_Person) (p1 : Int) : Option Bool :=
 some (p.no == p1)
def portref2_personAt (people : (List route_Person)) (no : Int) : Option Int :=
 Option.bind (slices_IndexFunc_Lroute_Person_route_Person people (fun y9 => portref2_personAt_1 y9 no)) fun x10 =>
 some x10
def portref2_IsMoment (m : Int) : Bool :=
 ((decide ((0 : Int) ≤ m)) && (decide (m ≤ 3000000)))
def portref2_heldAlone (people : (List route_Person)) (l : (List route_Held)) : Option Int :=
 if (decide ((400 : Int) < (l.length : Int))) = true then
  some 4
 else
  Option.bind (rangeB (fun k9 _ => Option.bind (idx l (k9 : Int)) fun x29 => if ((decide (x29.ticket < 1)) || (decide ((400 : Int) < x29.ticket))) = true then some (.rt 2) else Option.bind (if (decide ((0 : Int) < (k9 : Int))) = true then (Option.bind (idx l (w64 ((k9 : Int) - 1))) fun x50 => some (decide (x29.ticket ≤ x50.ticket))) else (some false)) fun s48 => if s48 = true then some (.rt 5) else Option.bind (portref2_personAt people x29.person) fun x60 => if (decide (x60 < 0)) = true then some (.rt 7) else if (((decide (x29.weight < 1)) || (decide ((20 : Int) < x29.weight))) || (!(portref2_IsMoment x29.since))) = true then some (.rt 2) else some (.nx ())) l.length 0 ()) fun o6 => o6.andThen (fun y => some y) fun s7 =>
  some 0
def portref2_WorkFault_1 (x : route_Work) (p1 : route_Work) : Option Bool :=
 some (x.ticket == p1.ticket)
def portref2_WorkFault (l : (List route_Work)) : Option Int :=
 if (decide ((200 : Int) < (l.length : Int))) = true then
  some 4
 else
  Option.bind (rangeB (fun k7 _ => Option.bind (idx l (k7 : Int)) fun x27 => if ((decide (x27.ticket < 1)) || (decide ((400 : Int) < x27.ticket))) = true then some (.rt 2) else Option.bind (sliceL l none (some (k7 : Int))) fun x50 => Option.bind (slices_ContainsFunc_Lroute_Work_route_Work x50 (fun y53 => portref2_WorkFault_1 y53 x27)) fun x54 => if x54 = true then some (.rt 6) else if (((((((decide (x27.weight < 1)) || (decide ((20 : Int) < x27.weight))) || (decide (x27.urgency < 0))) || (decide ((9 : Int) < x27.urgency))) || (!(portref2_IsMoment x27.since))) || (decide (x27.former < 0))) || (decide ((40 : Int) < x27.former))) = true then some (.rt 2) else Option.bind (portref2_skillsFault x27.needs) fun x93 => if (x93 != 0) = true then some (.rt x93) else some (.nx ())) l.length 0 ()) fun o4 => o4.andThen (fun y => some y) fun s5 =>
  some 0
def portref2_StepsFault (l : (List route_Step)) : Option Int :=
 if (decide ((8 : Int) < (l.length : Int))) = true then
  some 4
 else
  Option.bind (rangeB (fun k7 _ => Option.bind (idx l (k7 : Int)) fun x27 => if ((((decide (x27.after < 1)) || (decide ((3000000 : Int) < x27.after))) || (decide (x27.lower < 0))) || (decide ((9 : Int) < x27.lower))) = true then some (.rt 2) else Option.bind (if (decide ((0 : Int) < (k7 : Int))) = true then (Option.bind (idx l (w64 ((k7 : Int) - 1))) fun x54 => some (decide (x27.after ≤ x54.after))) else (some false)) fun s52 => if s52 = true then some (.rt 5) else some (.nx ())) l.length 0 ()) fun o4 => o4.andThen (fun y => some y) fun s5 =>
  some 0
def portref2_heldAt_1 (h : route_Held) (p1 : Int) : Option Bool :=
 some (h.ticket == p1)
def portref2_heldAt (l : (List route_Held)) (no : Int) : Option Int :=
 Option.bind (slices_IndexFunc_Lroute_Held_route_Held l (fun y9 => portref2_heldAt_1 y9 no)) fun x10 =>
 some x10
def portref2_AssignOf_1 (w_ : route_Work) (p1 : (List route_Held)) : Option Bool :=
 Option.bind (portref2_heldAt p1 w_.ticket) fun x13 =>
 some (decide ((0 : Int) ≤ x13))
def portref2_floorDiv (a_ : Int) (b : Int) : Option (Int × Int) :=
 Option.bind (quo a_ b) fun x1 =>
 Option.bind (rem a_ b) fun x2 =>
 Option.bind (if (decide (x2 < 0)) = true then some (w64 (x1 - 1), w64 (x2 + b)) else some (x1, x2)) fun s7 =>
 some (s7.1, s7.2)
def portref2_ShiftsIn (c : cal_Calendar) (day : Int) : Option (List cal_Shift) :=
 Option.bind (rangeB (fun k21 _ => Option.bind (idx c.specials (k21 : Int)) fun x40 => if (x40.day == day) = true then some (.rt x40.shifts) else some (.nx ())) c.specials.length 0 ()) fun o18 => o18.andThen (fun y => some y) fun s19 =>
 Option.bind (portref2_floorDiv day 7) fun x67 =>
 Option.bind (rangeB (fun k78 s86 => Option.bind (Option.bind (idx c.week (k78 : Int)) fun x111 => Option.bind (if (x111.day == x67.2) = true then Option.bind (appendL 5864062014805 s86 ([(⟨0, x111.from_, x111.to_⟩ : cal_Shift)] : List cal_Shift)) fun x143 => some x143 else some s86) fun s126 => some s126) fun s102 => some (.nx s102)) c.week.length 0 ([] : (List cal_Shift))) fun o75 => o75.andThen (fun y => some y) fun s76 =>
 some s76
def portref2_NewClock (c : cal_Calendar) : Option cal_Calendar := some c
def portref2_newMeter (cals : (List cal_Calendar)) : Option portref2_meter :=
 Option.bind (rangeB (fun k11 s19 => Option.bind (idx cals (k11 : Int)) fun x34 => Option.bind (portref2_NewClock x34) fun x72 => Option.bind (appendL 17592186044416 s19.clocks [x72]) fun x86 => some (.nx (⟨x86⟩ : portref2_meter))) cals.length 0 (⟨([] : (List cal_Calendar))⟩ : portref2_meter)) fun o8 => o8.andThen (fun y => some y) fun s9 =>
 some s9
def portref2_newDuty (people : (List route_Person)) (cals : (List cal_Calendar)) : Option portref2_duty :=
 Option.bind (portref2_newMeter cals) fun x5 =>
 some (⟨people, x5.clocks, ([] : List (Int × Bool))⟩ : portref2_duty)
def slices_Clone_Lroute_Held_route_Held (s : (List route_Held)) : Option (List route_Held) :=
 Option.bind (appendL 4398046511104 ([] : List route_Held) s) fun x8 =>
 some x8
def portref2_orderOf_1 (a_ : Int) (b : Int) (p2 : (List route_Work)) : Option Int :=
 Option.bind (idx p2 a_) fun x10 =>
 Option.bind (idx p2 b) fun x20 =>
 Option.bind (cmp_Or_int ([(cmp_Compare_int x20.urgency x10.urgency), (cmp_Compare_int x10.since x20.since), (cmp_Compare_int x10.ticket x20.ticket)] : List Int)) fun x58 =>
 some x58
noncomputable def portref2_orderOf (l : (List route_Work)) : Option (List Int) :=
 Option.bind (makeL 35184372088832 (l.length : Int) (0 : Int)) fun x16 =>
 Option.bind (rangeB (fun k29 s37 => Option.bind (idx s37 (k29 : Int)) fun x52 => Option.bind (setI s37 (k29 : Int) (k29 : Int)) fun x57 => some (.nx x57)) l.length 0 x16) fun o26 => o26.andThen (fun y => some y) fun s27 =>
 Option.bind (sortFuncL (fun y68 y69 => portref2_orderOf_1 y68 y69 l) s27) fun x64 =>
 some x64
def portref2_needsAt (w_ : route_Work) (steps : (List route_Step)) (m : Int) : Option (List route_Skill) :=
 Option.bind (rangeB (fun k14 s20 => Option.bind (Option.bind (idx steps (k14 : Int)) fun x41 => Option.bind (if (decide (x41.after ≤ (w64 (m - w_.since)))) = true then some (k14 : Int) else some s20) fun s57 => some s57) fun s34 => some (.nx s34)) steps.length 0 (-1)) fun o11 => o11.andThen (fun y => some y) fun s12 =>
 if (decide (s12 < 0)) = true then
  some w_.needs
 else
  Option.bind (idx steps s12) fun x74 =>
  if x74.any = true then
   some ([] : (List route_Skill))
  else
   Option.bind (rangeB (fun k87 s95 => Option.bind (Option.bind (idx w_.needs (k87 : Int)) fun x120 => Option.bind (if (decide ((1 : Int) ≤ (w64 (x120.rank - x74.lower)))) = true then Option.bind (appendL 5864062014805 s95 ([(⟨x120.name, w64 (x120.rank - x74.lower)⟩ : route_Skill)] : List route_Skill)) fun x160 => some x160 else some s95) fun s144 => some s144) fun s111 => some (.nx s111)) w_.needs.length 0 ([] : (List route_Skill))) fun o84 => o84.andThen (fun y => some y) fun s85 =>
   some s85
def portref2_weightOf (held : (List route_Held)) (no : Int) : Option (Int × Int) :=
 Option.bind (rangeB (fun k6 s12 => Option.bind (Option.bind (idx held (k6 : Int)) fun x33 => Option.bind (if (x33.person == no) = true then some (w64 (s12.1 + x33.weight), (if s12.2 < x33.since then x33.since else s12.2)) else some (s12.1, s12.2)) fun s48 => some (s48.1, s48.2)) fun s26 => some (.nx (s26.1, s26.2))) held.length 0 (0, (-1))) fun o3 => o3.andThen (fun y => some y) fun s4 =>
 some (s4.1, s4.2)
def portref2_OffsetIn (z : cal_Zone) (m : Int) : Option Int :=
 Option.bind (rangeB (fun k17 s23 => Option.bind (Option.bind (idx z.changes (k17 : Int)) fun x44 => Option.bind (if (decide (x44.at_ ≤ m)) = true then some x44.offset else some s23) fun s59 => some s59) fun s37 => some (.nx s37)) z.changes.length 0 z.offset) fun o14 => o14.andThen (fun y => some y) fun s15 =>
 some s15
def portref2_LocalIn (z : cal_Zone) (m : Int) : Option (Int × Int) :=
 Option.bind (portref2_OffsetIn z m) fun x12 =>
 Option.bind (portref2_floorDiv (w64 (m + x12)) 1440) fun x16 =>
 some (x16.1, x16.2)
def portref2_Clock_shifts (k : cal_Calendar) (day : Int) : Option (List cal_Shift) := portref2_ShiftsIn k day
def portref2_Clock_Open (k_ : cal_Calendar) (m : Int) : Option Bool :=
 Option.bind (portref2_LocalIn k_.zone m) fun x6 =>
 Option.bind (portref2_Clock_shifts k_ x6.1) fun x10 =>
 Option.bind (rangeB (fun k20 _ => Option.bind (idx x10 (k20 : Int)) fun x39 => if ((decide (x39.from_ ≤ x6.2)) && (decide (x6.2 < x39.to_))) = true then some (.rt true) else some (.nx ())) x10.length 0 ()) fun o17 => o17.andThen (fun y => some y) fun s18 =>
 Option.bind (portref2_Clock_shifts k_ (w64 (x6.1 - 1))) fun x60 =>
 Option.bind (rangeB (fun k70 _ => Option.bind (idx x60 (k70 : Int)) fun x89 => if ((decide (x89.from_ ≤ (w64 (x6.2 + 1440)))) && (decide ((w64 (x6.2 + 1440)) < x89.to_))) = true then some (.rt true) else some (.nx ())) x60.length 0 ()) fun o67 => o67.andThen (fun y => some y) fun s68 =>
 some false
def portref2_duty_on (d : portref2_duty) (p : route_Person) (m : Int) : Option Bool :=
 Option.bind (if (!((mapGet d.away p.no).getD false)) = true then (Option.bind (idx d.clocks p.calendar) fun x25 => Option.bind (portref2_Clock_Open x25 m) fun x34 => some x34) else (some false)) fun s15 =>
 some s15
def portref2_able_1 (s : route_Skill) (p1 : route_Skill) : Option Bool :=
 some ((strEq s.name p1.name) && (decide (p1.rank ≤ s.rank)))
def portref2_able (p : route_Person) (needs : (List route_Skill)) : Option Bool :=
 Option.bind (rangeB (fun k14 _ => Option.bind (idx needs (k14 : Int)) fun x33 => Option.bind (slices_ContainsFunc_Lroute_Skill_route_Skill p.skills (fun y50 => portref2_able_1 y50 x33)) fun x51 => if (!x51) = true then some (.rt false) else some (.nx ())) needs.length 0 ()) fun o11 => o11.andThen (fun y => some y) fun s12 =>
 some true
def portref2_duty_ahead  (a_ : route_Person) (b : route_Person) (w_ : route_Work) (held : (List route_Held)) : Option Bool :=
 if (b.no == w_.former) = true then
  some false
 else
  if (a_.no == w_.former) = true then
   some true
  else
   Option.bind (portref2_weightOf held a_.no) fun x35 =>
   Option.bind (portref2_weightOf held b.no) fun x40 =>
   Option.bind (cmp_Or_int ([(cmp_Compare_int (w64 (x35.1 * b.capacity)) (w64 (x40.1 * a_.capacity))), (cmp_Compare_int x35.2 x40.2)] : List Int)) fun x53 =>
   some (decide (x53 < 0))
def portref2_duty_assign_1 (a_ : route_Held) (b : route_Held) : Option Int :=
 some (cmp_Compare_int a_.ticket b.ticket)
noncomputable def portref2_duty_assign (d : portref2_duty) (held : (List route_Held)) (waiting : (List route_Work)) (steps : (List route_Step)) (m : Int) : Option ((List route_Held) × (List route_Work) × (List route_Held)) :=
 Option.bind (slices_Clone_Lroute_Held_route_Held held) fun x12 =>
 Option.bind (portref2_orderOf waiting) fun x25 =>
 Option.bind (rangeB (fun k36 s46 => Option.bind (Option.bind (idx x25 (k36 : Int)) fun x75 => Option.bind (idx waiting x75) fun x80 => Option.bind (portref2_needsAt x80 steps m) fun x101 => Option.bind (rangeB (R := Empty) (fun k110 s116 => Option.bind (Option.bind (idx d.people (k110 : Int)) fun x137 => Option.bind (portref2_weightOf s46.1 x137.no) fun x156 => Option.bind (Option.bind (portref2_able x137 x101) fun x171 => if (!x171) = true then (if true = true then (some true) else (some (decide ((w64 (x137.capacity - x156.1)) < x80.weight)))) else (Option.bind (portref2_duty_on d x137 m) fun x184 => if (!x184) = true then (some true) else (some (decide ((w64 (x137.capacity - x156.1)) < x80.weight))))) fun s161 => if s161 = true then some s116 else Option.bind ((if s116 < 0 then some true else (idx d.people s116).map fun _ => false)) fun x196 => Option.bind (if x196 = true then (some true) else (Option.bind (idx d.people s116) fun x202 => Option.bind (portref2_duty_ahead  x137 x202 x80 s46.1) fun x213 => some x213)) fun s198 => Option.bind (if s198 = true then some (k110 : Int) else some s116) fun s218 => some s218) fun s130 => some (.nx s130)) d.people.length 0 (-1)) fun o107 => o107.andThen (fun y => y.elim) fun s108 => Option.bind ((if s108 < 0 then some true else (idx d.people s108).map fun _ => false)) fun x230 => Option.bind (if (!x230) = true then Option.bind (idx d.people s108) fun x251 => Option.bind (appendL 4398046511104 s46.1 ([(⟨x80.ticket, x251.no, x80.weight, m⟩ : route_Held)] : List route_Held)) fun x662 => Option.bind (appendL 4398046511104 s46.2.1 ([(⟨x80.ticket, x251.no, x80.weight, m⟩ : route_Held)] : List route_Held)) fun x782 => some (x662, x782, (mapPut s46.2.2 x75 true)) else some (s46.1, s46.2.1, s46.2.2)) fun s232 => some (s232.1, s232.2.1, s232.2.2)) fun s64 => some (.nx (s64.1, s64.2.1, s64.2.2))) x25.length 0 (x12, ([] : (List route_Held)), ([] : List (Int × Bool)))) fun o33 => o33.andThen (fun y => some y) fun s34 =>
 Option.bind (rangeB (fun k975 s983 => Option.bind (Option.bind (idx waiting (k975 : Int)) fun x1008 => Option.bind (if (!((mapGet s34.2.2 (k975 : Int)).getD false)) = true then Option.bind (appendL 2199023255552 s983 ([x1008] : List route_Work)) fun x1048 => some x1048 else some s983) fun s1027 => some s1027) fun s999 => some (.nx s999)) waiting.length 0 ([] : (List route_Work))) fun o972 => o972.andThen (fun y => some y) fun s973 =>
 Option.bind (sortFuncL (fun y1064 y1065 => portref2_duty_assign_1 y1064 y1065) s34.1) fun x1060 =>
 some (x1060, s973, s34.2.1)
noncomputable def portref2_AssignOf (people : (List route_Person)) (cals : (List cal_Calendar)) (held : (List route_Held)) (waiting : (List route_Work)) (steps : (List route_Step)) (m : Int) : Option ((List route_Held) × (List route_Work) × Int) :=
 Option.bind (portref2_dutyFault people cals) fun x20 =>
 Option.bind (if (x20 == 0) = true then Option.bind (portref2_heldAlone people held) fun x36 => some x36 else some x20) fun s25 =>
 Option.bind (if (s25 == 0) = true then Option.bind (portref2_WorkFault waiting) fun x51 => some x51 else some s25) fun s43 =>
 Option.bind (if (s43 == 0) = true then Option.bind (portref2_StepsFault steps) fun x66 => some x66 else some s43) fun s58 =>
 Option.bind (if ((s58 == 0) && (!(portref2_IsMoment m))) = true then some 2 else some s58) fun s75 =>
 Option.bind (if (s75 == 0) = true then (Option.bind (slices_ContainsFunc_Lroute_Work_route_Work waiting (fun y92 => portref2_AssignOf_1 y92 held)) fun x93 => some x93) else (some false)) fun s84 =>
 Option.bind (if s84 = true then some 6 else some s75) fun s110 =>
 if (s110 != 0) = true then
  some (([] : (List route_Held)), ([] : (List route_Work)), s110)
 else
  Option.bind (portref2_newDuty people cals) fun x125 =>
  Option.bind (portref2_duty_assign x125 held waiting steps m) fun x139 =>
  some (x139.1, x139.2.1, 0)
def slices_Equal_Lroute_Held_route_Held (s1 : (List route_Held)) (s2 : (List route_Held)) : Option Bool :=
 if ((s1.length : Int) != (s2.length : Int)) = true then
  some false
 else
  Option.bind (rangeB (fun k9 _ => Option.bind (idx s1 (k9 : Int)) fun x29 => Option.bind (idx s2 (k9 : Int)) fun x34 => if (!(x29.ticket == x34.ticket && (x29.person == x34.person && (x29.weight == x34.weight && (x29.since == x34.since))))) = true then some (.rt false) else some (.nx ())) s1.length 0 ()) fun o6 => o6.andThen (fun y => some y) fun s7 =>
  some true
def slices_EqualFunc_Lroute_Work_Lroute_Work_route_Work_route_Work (s1 : (List route_Work)) (s2 : (List route_Work)) (eq : route_Work → route_Work → Option Bool) : Option Bool :=
 if ((s1.length : Int) != (s2.length : Int)) = true then
  some false
 else
  Option.bind (rangeB (fun k9 _ => Option.bind (idx s1 (k9 : Int)) fun x29 => Option.bind (idx s2 (k9 : Int)) fun x47 => Option.bind (eq x29 x47) fun x71 => if (!x71) = true then some (.rt false) else some (.nx ())) s1.length 0 ()) fun o6 => o6.andThen (fun y => some y) fun s7 =>
  some true
def slices_Equal_Lroute_Skill_route_Skill (s1 : (List route_Skill)) (s2 : (List route_Skill)) : Option Bool :=
 if ((s1.length : Int) != (s2.length : Int)) = true then
  some false
 else
  Option.bind (rangeB (fun k9 _ => Option.bind (idx s1 (k9 : Int)) fun x29 => Option.bind (idx s2 (k9 : Int)) fun x34 => if (!(strEq x29.name x34.name && (x29.rank == x34.rank))) = true then some (.rt false) else some (.nx ())) s1.length 0 ()) fun o6 => o6.andThen (fun y => some y) fun s7 =>
  some true
def portref2_Alike_7 (a_ : route_Work) (b : route_Work) : Option Bool :=
 Option.bind (if (a_.ticket == b.ticket) = true then (if (a_.weight == b.weight) = true then (if (a_.urgency == b.urgency) = true then (if (a_.since == b.since) = true then (if (a_.former == b.former) = true then (Option.bind (slices_Equal_Lroute_Skill_route_Skill a_.needs b.needs) fun x48 => some x48) else (some false)) else (if false = true then (Option.bind (slices_Equal_Lroute_Skill_route_Skill a_.needs b.needs) fun x63 => some x63) else (some false))) else (if false = true then (if (a_.former == b.former) = true then (Option.bind (slices_Equal_Lroute_Skill_route_Skill a_.needs b.needs) fun x82 => some x82) else (some false)) else (if false = true then (Option.bind (slices_Equal_Lroute_Skill_route_Skill a_.needs b.needs) fun x97 => some x97) else (some false)))) else (if false = true then (if (a_.since == b.since) = true then (if (a_.former == b.former) = true then (Option.bind (slices_Equal_Lroute_Skill_route_Skill a_.needs b.needs) fun x118 => some x118) else (some false)) else (if false = true then (Option.bind (slices_Equal_Lroute_Skill_route_Skill a_.needs b.needs) fun x133 => some x133) else (some false))) else (if false = true then (if (a_.former == b.former) = true then (Option.bind (slices_Equal_Lroute_Skill_route_Skill a_.needs b.needs) fun x151 => some x151) else (some false)) else (if false = true then (Option.bind (slices_Equal_Lroute_Skill_route_Skill a_.needs b.needs) fun x166 => some x166) else (some false))))) else (if false = true then (if (a_.urgency == b.urgency) = true then (if (a_.since == b.since) = true then (if (a_.former == b.former) = true then (Option.bind (slices_Equal_Lroute_Skill_route_Skill a_.needs b.needs) fun x190 => some x190) else (some false)) else (if false = true then (Option.bind (slices_Equal_Lroute_Skill_route_Skill a_.needs b.needs) fun x205 => some x205) else (some false))) else (if false = true then (if (a_.former == b.former) = true then (Option.bind (slices_Equal_Lroute_Skill_route_Skill a_.needs b.needs) fun x223 => some x223) else (some false)) else (if false = true then (Option.bind (slices_Equal_Lroute_Skill_route_Skill a_.needs b.needs) fun x238 => some x238) else (some false)))) else (if false = true then (if (a_.since == b.since) = true then (if (a_.former == b.former) = true then (Option.bind (slices_Equal_Lroute_Skill_route_Skill a_.needs b.needs) fun x259 => some x259) else (some false)) else (if false = true then (Option.bind (slices_Equal_Lroute_Skill_route_Skill a_.needs b.needs) fun x274 => some x274) else (some false))) else (if false = true then (if (a_.former == b.former) = true then (Option.bind (slices_Equal_Lroute_Skill_route_Skill a_.needs b.needs) fun x292 => some x292) else (some false)) else (if false = true then (Option.bind (slices_Equal_Lroute_Skill_route_Skill a_.needs b.needs) fun x307 => some x307) else (some false)))))) fun s18 =>
 some s18
def portref2_Alike (a_ : (List route_Work)) (b : (List route_Work)) : Option Bool :=
 Option.bind (if true = true then (Option.bind (slices_EqualFunc_Lroute_Work_Lroute_Work_route_Work_route_Work a_ b (fun y15 y16 => portref2_Alike_7 y15 y16)) fun x17 => some x17) else (some false)) fun s6 =>
 some s6
noncomputable def portlaw2_RouteAssigns (people : (List route_Person)) (cals : (List cal_Calendar)) (held : (List route_Held)) (waiting : (List route_Work)) (steps : (List route_Step)) (m : Int) : Option Bool :=
 Option.bind (route_Assign people cals held waiting steps m) fun x11 =>
 Option.bind (portref2_AssignOf people cals held waiting steps m) fun x20 =>
 Option.bind (if (x11.2.2 == x20.2.2) = true then (Option.bind (slices_Equal_Lroute_Held_route_Held x11.1 x20.1) fun x37 => if x37 = true then (Option.bind (portref2_Alike x11.2.1 x20.2.1) fun x42 => some x42) else (some false)) else (if false = true then (Option.bind (portref2_Alike x11.2.1 x20.2.1) fun x49 => some x49) else (some false))) fun s29 =>
 some s29
end Go.Proofs.YtfbnaobiondblaaGreatDoor.M
