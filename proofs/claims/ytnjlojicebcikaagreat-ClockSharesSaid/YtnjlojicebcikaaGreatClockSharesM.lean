/-
  Written by program (gen.py) from the IR of the dump: plain models of the functions.
-/
import Derived.Test.YtnjlojicebcikaaGreatPu
import Derived.Test.YtnjlojicebcikaaGreatPr
namespace Go.Proofs.YtnjlojicebcikaaGreat.M
open Go Go.Pu
set_option linter.unusedVariables false
set_option linter.unusedSimpArgs false

structure cal_Change where
  at_ : Int
  offset : Int

structure cal_Zone where
  offset : Int
  changes : (List cal_Change)

structure cal_Shift where
  day : Int
  from_ : Int
  to_ : Int

structure cal_Special where
  day : Int
  shifts : (List cal_Shift)

structure cal_Calendar where
  zone : cal_Zone
  week : (List cal_Shift)
  specials : (List cal_Special)

structure portref2_meter where
  clocks : (List cal_Calendar)

structure level_Piece where
  from_ : Int
  to_ : Int
  calendar : Int

structure level_Clock where
  kind : Int
  level : Int
  minutes : Int
  start : Int
  stop : Int
  end_ : Int
  pieces : (List level_Piece)

structure level_Share where
  level : Int
  kind : Int
  running : Int
  kept : Int
  broken : Int
  gone : Int

structure cal_Span where
  from_ : Int
  to_ : Int

structure cal_part where
  from_ : Int
  to_ : Int
  offset : Int

def sortIntsL (l : List Int) : Option (List Int) := if l.length < 4611686018427387904 then some (l.mergeSort fun x y => decide (x ≤ y)) else none

/-- porterslodge level within -/
def level_within (n : Int) (low : Int) (high : Int) : Bool :=
  ((decide (low ≤ n)) && (decide (n ≤ high)))

/-- porterslodge level CheckClock -/
def level_CheckClock (c : level_Clock) : Option Int :=
  if ((((((!(level_within c.kind 1 3)) || (!(level_within c.level 0 19))) || (!(level_within c.minutes 0 100000))) || (!(level_within c.start 0 3000000))) || ((c.stop != (-1)) && (!(level_within c.stop c.start 3000000)))) || (!(level_within c.end_ 0 2))) = true then
    some 2
  else
    if (!((c.stop == (-1)) == (c.end_ == 0))) = true then
      some 1
    else
      if (decide ((6000 : Int) < (c.pieces.length : Int))) = true then
        some 4
      else
        Option.bind (rangeB (fun k45 _ => Option.bind (idx c.pieces (k45 : Int)) fun x64 => if (((!(level_within x64.from_ c.start 3000000)) || (!(level_within x64.calendar 0 19))) || ((x64.to_ != (-1)) && (!(level_within x64.to_ (w64 (x64.from_ + 1)) 3000000)))) = true then some (.rt 2) else Option.bind (if ((x64.to_ == (-1)) && ((decide ((k45 : Int) < (w64 ((c.pieces.length : Int) - 1)))) || (c.stop != (-1)))) = true then some ((x64.to_ == (-1)) && ((decide ((k45 : Int) < (w64 ((c.pieces.length : Int) - 1)))) || (c.stop != (-1)))) else some ((c.stop != (-1)) && (decide (c.stop < x64.to_)))) fun s101 => if s101 = true then some (.rt 1) else Option.bind (if (decide ((0 : Int) < (k45 : Int))) = true then (Option.bind (idx c.pieces (w64 ((k45 : Int) - 1))) fun x122 => some (decide (x64.from_ < x122.to_))) else (some false)) fun s116 => if s116 = true then some (.rt 5) else some (.nx ())) c.pieces.length 0 ()) fun o42 => o42.andThen (fun y => some y) fun s43 =>
        some 0

/-- porterslodge cal within -/
def cal_within (n : Int) (low : Int) (high : Int) : Bool :=
  ((decide (low ≤ n)) && (decide (n ≤ high)))

/-- porterslodge cal CheckZone -/
def cal_CheckZone (z : cal_Zone) : Option Int :=
  if (!(cal_within z.offset (-1440) 1440)) = true then
    some 2
  else
    if (decide ((60 : Int) < (z.changes.length : Int))) = true then
      some 4
    else
      Option.bind (rangeB (fun k27 s33 => Option.bind (idx z.changes (k27 : Int)) fun x46 => if ((!(cal_within x46.at_ 1 3000000)) || (!(cal_within x46.offset (-1440) 1440))) = true then some (.rt 2) else if (decide (x46.at_ ≤ s33.1)) = true then some (.rt 5) else if (x46.offset == s33.2) = true then some (.rt 1) else some (.nx (x46.at_, x46.offset))) z.changes.length 0 (0, z.offset)) fun o24 => o24.andThen (fun y => some y) fun s25 =>
      some 0

/-- cmp isNaN int -/
def cmp_isNaN_int (x : Int) : Bool :=
  x != x

/-- cmp Compare int -/
def cmp_Compare_int (x : Int) (y : Int) : Int :=
  if (cmp_isNaN_int x) = true then
    if (cmp_isNaN_int y) = true then
      0
    else
      (-1)
  else
    if (cmp_isNaN_int y) = true then
      1
    else
      if (decide (x < y)) = true then
        (-1)
      else
        if (decide (y < x)) = true then
          1
        else
          0

/-- cmp Or int -/
def cmp_Or_int (vals : (List Int)) : Option Int :=
  Option.bind (rangeB (fun k6 _ => Option.bind (idx vals (k6 : Int)) fun x21 => if (x21 != 0) = true then some (.rt x21) else some (.nx ())) vals.length 0 ()) fun o3 => o3.andThen (fun y => some y) fun s4 =>
  some 0

/-- porterslodge cal after -/
def cal_after (a_ : cal_Shift) (b : cal_Shift) : Option Bool :=
  Option.bind (cmp_Or_int ([(cmp_Compare_int a_.day b.day), (cmp_Compare_int a_.from_ b.from_), (cmp_Compare_int a_.to_ b.to_)] : List Int)) fun x31 =>
  some (decide ((0 : Int) < x31))

/-- porterslodge cal checkShifts -/
def cal_checkShifts (l : (List cal_Shift)) (dated : Bool) : Option Int :=
  Option.bind (rangeB (fun k6 _ => Option.bind (idx l (k6 : Int)) fun x25 => if (dated && (x25.day != 0)) = true then some (.rt 1) else if ((((!(cal_within x25.day 0 6)) || (!(cal_within x25.from_ 0 1439))) || (decide (x25.to_ ≤ x25.from_))) || (decide ((w64 (x25.from_ + 1440)) < x25.to_))) = true then some (.rt 2) else Option.bind (if (decide ((0 : Int) < (k6 : Int))) = true then (Option.bind (idx l (w64 ((k6 : Int) - 1))) fun x58 => Option.bind (cal_after x25 x58) fun x63 => some (!x63)) else (some false)) fun s56 => if s56 = true then some (.rt 5) else some (.nx ())) l.length 0 ()) fun o3 => o3.andThen (fun y => some y) fun s4 =>
  some 0

/-- porterslodge cal CheckCalendar -/
def cal_CheckCalendar (c : cal_Calendar) : Option Int :=
  Option.bind (cal_CheckZone c.zone) fun x18 =>
  if (x18 != 0) = true then
    some x18
  else
    if ((decide ((60 : Int) < (c.week.length : Int))) || (decide ((200 : Int) < (c.specials.length : Int)))) = true then
      some 4
    else
      Option.bind (cal_checkShifts c.week false) fun x38 =>
      if (x38 != 0) = true then
        some x38
      else
        Option.bind (rangeB (fun k50 _ => Option.bind (idx c.specials (k50 : Int)) fun x69 => if (!(cal_within x69.day (-1) 2084)) = true then some (.rt 2) else Option.bind (if (decide ((0 : Int) < (k50 : Int))) = true then (Option.bind (idx c.specials (w64 ((k50 : Int) - 1))) fun x96 => some (decide (x69.day ≤ x96.day))) else (some false)) fun s90 => if s90 = true then some (.rt 5) else if (decide ((12 : Int) < (x69.shifts.length : Int))) = true then some (.rt 4) else Option.bind (cal_checkShifts x69.shifts true) fun x114 => if (x114 != 0) = true then some (.rt x114) else some (.nx ())) c.specials.length 0 ()) fun o47 => o47.andThen (fun y => some y) fun s48 =>
        some 0

/-- slices IndexFunc porterslodge level Piece porterslodge level Piece -/
def slices_IndexFunc_Llevel_Piece_level_Piece (s : (List level_Piece)) (f : level_Piece → Option Bool) : Option Int :=
  Option.bind (rangeB (fun k6 _ => Option.bind (idx s (k6 : Int)) fun x25 => Option.bind (f x25) fun x30 => if x30 = true then some (.rt (k6 : Int)) else some (.nx ())) s.length 0 ()) fun o3 => o3.andThen (fun y => some y) fun s4 =>
  some (-1)

/-- slices ContainsFunc porterslodge level Piece porterslodge level Piece -/
def slices_ContainsFunc_Llevel_Piece_level_Piece (s : (List level_Piece)) (f : level_Piece → Option Bool) : Option Bool :=
  Option.bind (slices_IndexFunc_Llevel_Piece_level_Piece s f) fun x3 =>
  some (decide ((0 : Int) ≤ x3))

/-- porterslodge level check 1 -/
def level_check_1 (p : level_Piece) (p1 : (List cal_Calendar)) : Option Bool :=
  some (decide ((p1.length : Int) ≤ p.calendar))

/-- porterslodge level check -/
def level_check (l : (List level_Clock)) (cals : (List cal_Calendar)) : Option Int :=
  if (decide ((8000 : Int) < (l.length : Int))) = true then
    some 4
  else
    Option.bind (rangeB (fun k18 _ => Option.bind (idx l (k18 : Int)) fun x37 => Option.bind (level_CheckClock x37) fun x58 => if (x58 != 0) = true then some (.rt x58) else some (.nx ())) l.length 0 ()) fun o15 => o15.andThen (fun y => some y) fun s16 =>
    if (decide ((20 : Int) < (cals.length : Int))) = true then
      some 4
    else
      Option.bind (rangeB (fun k76 _ => Option.bind (idx cals (k76 : Int)) fun x95 => Option.bind (cal_CheckCalendar x95) fun x130 => if (x130 != 0) = true then some (.rt x130) else some (.nx ())) cals.length 0 ()) fun o73 => o73.andThen (fun y => some y) fun s74 =>
      Option.bind (rangeB (fun k141 _ => Option.bind (idx l (k141 : Int)) fun x160 => Option.bind (slices_ContainsFunc_Llevel_Piece_level_Piece x160.pieces (fun y182 => level_check_1 y182 cals)) fun x183 => if x183 = true then some (.rt 7) else some (.nx ())) l.length 0 ()) fun o138 => o138.andThen (fun y => some y) fun s139 =>
      some 0

/-- porterslodge level moment -/
def level_moment (m : Int) (from_ : Int) : Int :=
  if (!(level_within m from_ 3000000)) = true then
    2
  else
    0

/-- cmp Or porterslodge api Errno -/
def cmp_Or_api_Errno (vals : (List Int)) : Option Int :=
  Option.bind (rangeB (fun k6 _ => Option.bind (idx vals (k6 : Int)) fun x21 => if (x21 != 0) = true then some (.rt x21) else some (.nx ())) vals.length 0 ()) fun o3 => o3.andThen (fun y => some y) fun s4 =>
  some 0

/-- slices BinarySearchFunc porterslodge level Share porterslodge level Share porterslodge level Clock -/
noncomputable def slices_BinarySearchFunc_Llevel_Share_level_Share_level_Clock (x : (List level_Share)) (target : level_Clock) (cmp : level_Share → level_Clock → Option Int) : Option (Int × Bool) :=
  Option.bind (whileB (fun s20 => if (decide (s20.1 < s20.2)) = true then Option.bind (Option.bind (shr .u64 (IntKind.wrap .u64 (w64 (s20.1 + s20.2))) 1) fun x40 => Option.bind (idx x (IntKind.wrap .i64 x40)) fun x41 => Option.bind (cmp x41 target) fun x49 => Option.bind (if (decide (x49 < 0)) = true then some (w64 ((IntKind.wrap .i64 x40) + 1), s20.2) else some (s20.1, IntKind.wrap .i64 x40)) fun s54 => some (s54.1, s54.2)) fun s33 => some (.nx (s33.1, s33.2)) else some (.bk (s20.1, s20.2))) (0, (x.length : Int))) fun o11 => o11.andThen (fun y => some y) fun s12 =>
  Option.bind (if (decide (s12.1 < (x.length : Int))) = true then (Option.bind (idx x s12.1) fun x68 => Option.bind (cmp x68 target) fun x76 => some (x76 == 0)) else (some false)) fun s67 =>
  some (s12.1, s67)

/-- porterslodge level Shares 1 -/
def level_Shares_1 (s : level_Share) (c : level_Clock) : Option Int :=
  Option.bind (cmp_Or_int ([(cmp_Compare_int s.level c.level), (cmp_Compare_int s.kind c.kind)] : List Int)) fun x29 =>
  some x29

/-- slices.Insert, where there is something to insert -/
def slices_Insert_Llevel_Share_level_Share (l : List level_Share) (k : Int) (vs : List level_Share) : Option (List level_Share) :=
  if 0 ≤ k ∧ k ≤ (l.length : Int) ∧ vs ≠ [] ∧ l.length + vs.length ≤ 2932031007402 then some (l.take k.toNat ++ vs ++ l.drop k.toNat) else none

/-- porterslodge cal stretch -/
def cal_stretch (from_ : Int) (to_ : Int) : Int :=
  if ((!(cal_within from_ 0 3000000)) || (!(cal_within to_ 0 3000001))) = true then
    2
  else
    if (decide (to_ < from_)) = true then
      5
    else
      0

/-- porterslodge cal Calendar open -/
def cal_Calendar_open (c : cal_Calendar) (from_ : Int) (to_ : Int) : Option (cal_Calendar × Int × Int) :=
  some (c, from_, to_)

/-- porterslodge cal Calendar shifts -/
def cal_Calendar_shifts (c : cal_Calendar) (from_ : Int) (to_ : Int) : Option (cal_Calendar × Int × Int) :=
  some (c, from_, to_)

/-- porterslodge cal Zone parts -/
def cal_Zone_parts (z : cal_Zone) : Option (List cal_part) :=
  Option.bind (rangeB (fun k24 s32 => Option.bind (idx z.changes (k24 : Int)) fun x47 => Option.bind (idx s32 (w64 ((s32.length : Int) - 1))) fun x61 => Option.bind (setI s32 (w64 ((s32.length : Int) - 1)) ({ (x61 : cal_part) with to_ := x47.at_ })) fun x67 => Option.bind (appendL 5864062014805 x67 ([(⟨x47.at_, 3000001, x47.offset⟩ : cal_part)] : List cal_part)) fun x78 => some (.nx x78)) z.changes.length 0 ([(⟨0, 3000001, z.offset⟩ : cal_part)] : List cal_part)) fun o21 => o21.andThen (fun y => some y) fun s22 =>
  some s22

/-- porterslodge cal floor -/
def cal_floor (a_ : Int) (b : Int) : Option Int :=
  Option.bind (quo a_ b) fun x1 =>
  Option.bind (rem a_ b) fun x2 =>
  Option.bind (if (decide (x2 < 0)) = true then some (w64 (x1 - 1)) else some x1) fun s4 =>
  some s4

/-- slices BinarySearchFunc porterslodge cal Special porterslodge cal Special int -/
noncomputable def slices_BinarySearchFunc_Lcal_Special_cal_Special_int (x : (List cal_Special)) (target : Int) (cmp : cal_Special → Int → Option Int) : Option (Int × Bool) :=
  Option.bind (whileB (fun s12 => if (decide (s12.1 < s12.2)) = true then Option.bind (Option.bind (shr .u64 (IntKind.wrap .u64 (w64 (s12.1 + s12.2))) 1) fun x32 => Option.bind (idx x (IntKind.wrap .i64 x32)) fun x33 => Option.bind (cmp x33 target) fun x40 => Option.bind (if (decide (x40 < 0)) = true then some (w64 ((IntKind.wrap .i64 x32) + 1), s12.2) else some (s12.1, IntKind.wrap .i64 x32)) fun s45 => some (s45.1, s45.2)) fun s25 => some (.nx (s25.1, s25.2)) else some (.bk (s12.1, s12.2))) (0, (x.length : Int))) fun o3 => o3.andThen (fun y => some y) fun s4 =>
  Option.bind (if (decide (s4.1 < (x.length : Int))) = true then (Option.bind (idx x s4.1) fun x66 => Option.bind (cmp x66 target) fun x73 => some (s4.1, x73 == 0)) else (some (s4.1, false))) fun s58 =>
  some (s58.1, s58.2)

/-- porterslodge cal Calendar shiftsOf 1 -/
def cal_Calendar_shiftsOf_1 (s : cal_Special) (d : Int) : Option Int :=
  some (cmp_Compare_int s.day d)

/-- slices Clone porterslodge cal Shift porterslodge cal Shift -/
def slices_Clone_Lcal_Shift_cal_Shift (s : (List cal_Shift)) : Option (List cal_Shift) :=
  Option.bind (appendL 5864062014805 ([] : List cal_Shift) s) fun x8 =>
  some x8

/-- porterslodge cal Calendar shiftsOf -/
noncomputable def cal_Calendar_shiftsOf (c : cal_Calendar) (day : Int) : Option (List cal_Shift) :=
  Option.bind (slices_BinarySearchFunc_Lcal_Special_cal_Special_int c.specials day (fun y18 y19 => cal_Calendar_shiftsOf_1 y18 y19)) fun x20 =>
  if x20.2 = true then
    Option.bind (idx c.specials x20.1) fun x41 =>
    Option.bind (slices_Clone_Lcal_Shift_cal_Shift x41.shifts) fun x49 =>
    some x49
  else
    Option.bind (rangeB (fun k64 s72 => Option.bind (Option.bind (idx c.week (k64 : Int)) fun x97 => Option.bind (cal_floor day 7) fun x111 => Option.bind (if (x97.day == (w64 (day - (w64 (7 * x111))))) = true then Option.bind (appendL 5864062014805 s72 ([(⟨0, x97.from_, x97.to_⟩ : cal_Shift)] : List cal_Shift)) fun x133 => some x133 else some s72) fun s116 => some s116) fun s88 => some (.nx s88)) c.week.length 0 ([] : (List cal_Shift))) fun o61 => o61.andThen (fun y => some y) fun s62 =>
    some s62

/-- porterslodge cal Calendar shifts 1 1 -/
noncomputable def cal_Calendar_shifts_1_1 (day : Int) (p1 : cal_Calendar) (p2 : cal_part) (p3 : Int) (p4 : Int) {p5_S : Type} (p5 : cal_Span → p5_S → Option (Bool × p5_S)) (p5_s : p5_S) : Option (Bool × p5_S) :=
  Option.bind (cal_Calendar_shiftsOf p1 day) fun x8 =>
  Option.bind (rangeB (fun k19 s25 => Option.bind (idx x8 (k19 : Int)) fun x38 => Option.bind (if (decide (((⟨(if p3 < w64 ((w64 ((w64 (day * 1440)) - p2.offset)) + x38.from_) then w64 ((w64 ((w64 (day * 1440)) - p2.offset)) + x38.from_) else p3), (if w64 ((w64 ((w64 (day * 1440)) - p2.offset)) + x38.to_) < p4 then w64 ((w64 ((w64 (day * 1440)) - p2.offset)) + x38.to_) else p4)⟩ : cal_Span).from_) < ((⟨(if p3 < w64 ((w64 ((w64 (day * 1440)) - p2.offset)) + x38.from_) then w64 ((w64 ((w64 (day * 1440)) - p2.offset)) + x38.from_) else p3), (if w64 ((w64 ((w64 (day * 1440)) - p2.offset)) + x38.to_) < p4 then w64 ((w64 ((w64 (day * 1440)) - p2.offset)) + x38.to_) else p4)⟩ : cal_Span).to_))) = true then (Option.bind (p5 (⟨(if p3 < w64 ((w64 ((w64 (day * 1440)) - p2.offset)) + x38.from_) then w64 ((w64 ((w64 (day * 1440)) - p2.offset)) + x38.from_) else p3), (if w64 ((w64 ((w64 (day * 1440)) - p2.offset)) + x38.to_) < p4 then w64 ((w64 ((w64 (day * 1440)) - p2.offset)) + x38.to_) else p4)⟩ : cal_Span) s25) fun x75 => some (!x75.1, x75.2)) else (some (false, s25))) fun s64 => if s64.1 = true then some (.rt (false, s64.2)) else some (.nx s64.2)) x8.length 0 p5_s) fun o16 => o16.andThen (fun y => some y) fun s17 =>
  some (true, s17)

/-- porterslodge cal Calendar shifts 1 -/
noncomputable def cal_Calendar_shifts_1 {yield_S : Type} (yield : cal_Span → yield_S → Option (Bool × yield_S)) (yield_s : yield_S) (p1 : cal_Calendar) (p2 : Int) (p3 : Int) : Option yield_S :=
  Option.bind (cal_Zone_parts p1.zone) fun x11 =>
  Option.bind (rangeB (fun k22 s28 => Option.bind (α := Lp _ _) (Option.bind (idx x11 (k22 : Int)) fun x49 => if (decide ((if x49.to_ < p3 then x49.to_ else p3) ≤ (if p2 < x49.from_ then x49.from_ else p2))) = true then some (.fin s28) else Option.bind (cal_floor (w64 ((if p2 < x49.from_ then x49.from_ else p2) + x49.offset)) 1440) fun x83 => Option.bind (whileB (fun s93 => Option.bind (cal_floor (w64 ((w64 ((if x49.to_ < p3 then x49.to_ else p3) - 1)) + x49.offset)) 1440) fun x105 => if (decide (s93.1 ≤ x105)) = true then Option.bind (cal_Calendar_shifts_1_1 s93.1 p1 x49 (if p2 < x49.from_ then x49.from_ else p2) (if x49.to_ < p3 then x49.to_ else p3) yield s93.2) fun x107 => if (!x107.1) = true then some (.rt x107.2) else some (.nx (w64 (s93.1 + 1), x107.2)) else some (.bk (s93.1, s93.2))) (w64 (x83 - 1), s28)) fun o84 => o84.andThen (fun y => some (.rt y)) fun s85 => some (.fin s85.2)) fun o41 => o41.andThen (fun y => some (.rt y)) fun s42 => some (.nx s42)) x11.length 0 yield_s) fun o19 => o19.andThen (fun y => some y) fun s20 =>
  some s20

/-- porterslodge cal Calendar open 1 -/
noncomputable def cal_Calendar_open_1 {yield_S : Type} (yield : cal_Span → yield_S → Option (Bool × yield_S)) (yield_s : yield_S) (p1 : cal_Calendar) (p2 : Int) (p3 : Int) : Option yield_S :=
  Option.bind (cal_Calendar_shifts p1 p2 p3) fun x23 =>
  Option.bind (cal_Calendar_shifts_1 (yieldB (fun (x43 : cal_Span) (s35 : (cal_Span × yield_S)) => Option.bind (α := Lp _ _) (Option.bind (α := Lp _ _) (Option.bind (α := Lp _ _) (if (decide (s35.1.from_ < 0)) = true then some (.fin (x43, s35.2)) else Option.bind (α := Lp _ _) (if (decide (x43.from_ ≤ s35.1.to_)) = true then some (.fin ((⟨s35.1.from_, (if s35.1.to_ < x43.to_ then x43.to_ else s35.1.to_)⟩ : cal_Span), s35.2)) else Option.bind (yield s35.1 s35.2) fun x110 => if (!x110.1) = true then some (.rt ((s35.1, x110.2), some 0)) else some (.fin (x43, x110.2))) fun o96 => o96.andThen (fun y => some (.rt y)) fun s97 => some (.fin (s97.1, s97.2))) fun o81 => o81.andThen (fun y => some (.rt y)) fun s82 => some (.fin (s82.1, s82.2))) fun o73 => o73.andThen (fun y => some (.rt y)) fun s74 => some (.fin (s74.1, s74.2))) fun o65 => o65.andThen (fun y => some y) fun s66 => some ((s66.1, s66.2), none))) (((⟨(-1), (-1)⟩ : cal_Span), yield_s), none) x23.1 x23.2.1 x23.2.2) fun z33 =>
  if z33.2 = some 0 then (some z33.1.2) else
  Option.bind (if (decide ((0 : Int) ≤ z33.1.1.from_)) = true then Option.bind (yield z33.1.1 z33.1.2) fun x148 => some x148.2 else some z33.1.2) fun s140 =>
  some s140

/-- porterslodge cal Worked -/
noncomputable def cal_Worked (c : cal_Calendar) (from_ : Int) (to_ : Int) : Option (Int × Int) :=
  Option.bind (cal_CheckCalendar c) fun x21 =>
  Option.bind (cmp_Or_api_Errno ([x21, (cal_stretch from_ to_)] : List Int)) fun x31 =>
  if (x31 != 0) = true then
    some (0, x31)
  else
    Option.bind (cal_Calendar_open c from_ to_) fun x48 =>
    Option.bind (cal_Calendar_open_1 (yieldB (fun (x68 : cal_Span) (s60 : Int) => some (w64 (s60 + (w64 (x68.to_ - x68.from_))), none))) (0, none) x48.1 x48.2.1 x48.2.2) fun z58 =>
    some (z58.1, 0)

/-- porterslodge level elapsed -/
noncomputable def level_elapsed (c : level_Clock) (cals : (List cal_Calendar)) (m : Int) : Option Int :=
  Option.bind (rangeB (fun k18 s24 => Option.bind (Option.bind (idx c.pieces (k18 : Int)) fun x45 => Option.bind (if (x45.to_ != (-1)) = true then some (if x45.to_ < m then x45.to_ else m) else some m) fun s60 => Option.bind (if (decide (x45.from_ < s60)) = true then Option.bind (idx cals x45.calendar) fun x80 => Option.bind (cal_Worked x80 x45.from_ s60) fun x92 => some (w64 (s24 + x92.1)) else some s24) fun s71 => some s71) fun s38 => some (.nx s38)) c.pieces.length 0 0) fun o15 => o15.andThen (fun y => some y) fun s16 =>
  some s16

/-- porterslodge level inPiece 1 -/
def level_inPiece_1 (p : level_Piece) (p1 : Int) : Option Bool :=
  some ((decide (p.from_ ≤ p1)) && ((p.to_ == (-1)) || (decide (p1 < p.to_))))

/-- porterslodge level inPiece -/
def level_inPiece (c : level_Clock) (m : Int) : Option Bool :=
  Option.bind (slices_ContainsFunc_Llevel_Piece_level_Piece c.pieces (fun y19 => level_inPiece_1 y19 m)) fun x20 =>
  some x20

/-- porterslodge level stateAt -/
noncomputable def level_stateAt (c : level_Clock) (cals : (List cal_Calendar)) (m : Int) : Option Int :=
  if (((c.end_ != 0) && (decide (c.stop ≤ m))) && (c.end_ == 2)) = true then
    some 6
  else
    Option.bind (if ((c.end_ != 0) && (decide (c.stop ≤ m))) = true then (Option.bind (level_elapsed c cals c.stop) fun x25 => some (decide (x25 ≤ c.minutes))) else (some false)) fun s20 =>
    if s20 = true then
      some 4
    else
      if ((c.end_ != 0) && (decide (c.stop ≤ m))) = true then
        some 5
      else
        Option.bind (level_elapsed c cals m) fun x35 =>
        if (decide (c.minutes < x35)) = true then
          some 3
        else
          Option.bind (level_inPiece c m) fun x44 =>
          if (!x44) = true then
            some 2
          else
            some 1

/-- porterslodge level Shares -/
noncomputable def level_Shares (l : (List level_Clock)) (cals : (List cal_Calendar)) (m : Int) : Option ((List level_Share) × Int) :=
  Option.bind (level_check l cals) fun x5 =>
  Option.bind (cmp_Or_api_Errno ([x5, (level_moment m 0)] : List Int)) fun x15 =>
  if (x15 != 0) = true then
    some (([] : (List level_Share)), x15)
  else
    Option.bind (rangeB (fun k20 s28 => Option.bind (Option.bind (idx l (k20 : Int)) fun x53 => if (decide (m < x53.start)) = true then some s28 else Option.bind (slices_BinarySearchFunc_Llevel_Share_level_Share_level_Clock s28 x53 (fun y77 y78 => level_Shares_1 y77 y78)) fun x79 => Option.bind (if (!x79.2) = true then Option.bind (slices_Insert_Llevel_Share_level_Share s28 x79.1 ([(⟨x53.level, x53.kind, 0, 0, 0, 0⟩ : level_Share)] : List level_Share)) fun x115 => some x115 else some s28) fun s96 => Option.bind (level_stateAt x53 cals m) fun x126 => Option.bind (Option.bind (if (x126 == 4) = true then Option.bind (idx s96 x79.1) fun x151 => Option.bind (setI s96 x79.1 ({ (x151 : level_Share) with kept := w64 (x151.kept + 1) })) fun x162 => some x162 else Option.bind (if (x126 == 5) = true then Option.bind (idx s96 x79.1) fun x178 => Option.bind (setI s96 x79.1 ({ (x178 : level_Share) with broken := w64 (x178.broken + 1) })) fun x189 => some x189 else Option.bind (if (x126 == 6) = true then Option.bind (idx s96 x79.1) fun x205 => Option.bind (setI s96 x79.1 ({ (x205 : level_Share) with gone := w64 (x205.gone + 1) })) fun x216 => some x216 else Option.bind (idx s96 x79.1) fun x221 => Option.bind (setI s96 x79.1 ({ (x221 : level_Share) with running := w64 (x221.running + 1) })) fun x232 => some x232) fun s195 => some s195) fun s168 => some s168) fun s141 => some s141) fun s131 => some s131) fun s44 => some (.nx s44)) l.length 0 ([] : (List level_Share))) fun o17 => o17.andThen (fun y => some y) fun s18 =>
    some (s18, 0)

/-- porterslodge level Percentile -/
noncomputable def level_Percentile (l : (List level_Clock)) (cals : (List cal_Calendar)) (percent : Int) : Option (Int × Int) :=
  Option.bind (level_check l cals) fun x5 =>
  if (x5 != 0) = true then
    some (0, x5)
  else
    if (!(level_within percent 0 100)) = true then
      some (0, 2)
    else
      Option.bind (rangeB (fun k14 s22 => Option.bind (Option.bind (idx l (k14 : Int)) fun x47 => Option.bind (if (x47.end_ == 1) = true then Option.bind (level_elapsed x47 cals x47.stop) fun x81 => Option.bind (appendL 17592186044416 s22 ([x81] : List Int)) fun x90 => some x90 else some s22) fun s67 => some s67) fun s38 => some (.nx s38)) l.length 0 ([] : (List Int))) fun o11 => o11.andThen (fun y => some y) fun s12 =>
      if ((s12.length : Int) == 0) = true then
        some (0, 7)
      else
        Option.bind (sortIntsL s12) fun x103 =>
        Option.bind (idx x103 (w64 ((if 1 < w64 (Int.tdiv (w64 ((w64 (percent * (x103.length : Int))) + 99)) 100) then w64 (Int.tdiv (w64 ((w64 (percent * (x103.length : Int))) + 99)) 100) else 1) - 1))) fun x107 =>
        some (x107, 0)

/-- porterslodge portref2 IsMoment -/
def portref2_IsMoment (m : Int) : Bool :=
  ((decide ((0 : Int) ≤ m)) && (decide (m ≤ 3000000)))

/-- porterslodge portref2 ClockFault -/
def portref2_ClockFault (c : level_Clock) : Option Int :=
  if ((((((((((decide (c.kind < 1)) || (decide ((3 : Int) < c.kind))) || (decide (c.level < 0))) || (decide ((20 : Int) ≤ c.level))) || (decide (c.minutes < 0))) || (decide ((100000 : Int) < c.minutes))) || (!(portref2_IsMoment c.start))) || ((c.stop != (-1)) && ((!(portref2_IsMoment c.stop)) || (decide (c.stop < c.start))))) || (decide (c.end_ < 0))) || (decide ((2 : Int) < c.end_))) = true then
    some 2
  else
    if (!((c.stop == (-1)) == (c.end_ == 0))) = true then
      some 1
    else
      if (decide ((6000 : Int) < (c.pieces.length : Int))) = true then
        some 4
      else
        Option.bind (rangeB (fun k60 _ => Option.bind (idx c.pieces (k60 : Int)) fun x79 => if (((((decide (x79.from_ < c.start)) || (!(portref2_IsMoment x79.from_))) || (decide (x79.calendar < 0))) || (decide ((20 : Int) ≤ x79.calendar))) || ((x79.to_ != (-1)) && ((!(portref2_IsMoment x79.to_)) || (decide (x79.to_ ≤ x79.from_))))) = true then some (.rt 2) else Option.bind (if ((x79.to_ == (-1)) && ((decide ((k60 : Int) < (w64 ((c.pieces.length : Int) - 1)))) || (c.stop != (-1)))) = true then some ((x79.to_ == (-1)) && ((decide ((k60 : Int) < (w64 ((c.pieces.length : Int) - 1)))) || (c.stop != (-1)))) else some ((c.stop != (-1)) && (decide (c.stop < x79.to_)))) fun s125 => if s125 = true then some (.rt 1) else Option.bind (if (decide ((0 : Int) < (k60 : Int))) = true then (Option.bind (idx c.pieces (w64 ((k60 : Int) - 1))) fun x146 => some (decide (x79.from_ < x146.to_))) else (some false)) fun s140 => if s140 = true then some (.rt 5) else some (.nx ())) c.pieces.length 0 ()) fun o57 => o57.andThen (fun y => some y) fun s58 =>
        some 0

/-- porterslodge portref2 ZoneFault 1 -/
def portref2_ZoneFault_1 (n : Int) : Bool :=
  ((decide (n < (-1440))) || (decide ((1440 : Int) < n)))

/-- porterslodge portref2 ZoneFault -/
def portref2_ZoneFault (z : cal_Zone) : Option Int :=
  if (portref2_ZoneFault_1 z.offset) = true then
    some 2
  else
    if (decide ((60 : Int) < (z.changes.length : Int))) = true then
      some 4
    else
      Option.bind (rangeB (fun k24 s30 => Option.bind (idx z.changes (k24 : Int)) fun x43 => Option.bind (if (decide (x43.at_ < 1)) = true then (if true = true then (some true) else (some (portref2_ZoneFault_1 x43.offset))) else (if (decide ((3000000 : Int) < x43.at_)) = true then (some true) else (some (portref2_ZoneFault_1 x43.offset)))) fun s57 => if s57 = true then some (.rt 2) else Option.bind (if (decide ((0 : Int) < (k24 : Int))) = true then (Option.bind (idx z.changes (w64 ((k24 : Int) - 1))) fun x83 => some (decide (x43.at_ ≤ x83.at_))) else (some false)) fun s77 => if s77 = true then some (.rt 5) else if (x43.offset == s30) = true then some (.rt 1) else some (.nx x43.offset)) z.changes.length 0 z.offset) fun o21 => o21.andThen (fun y => some y) fun s22 =>
      some 0

/-- porterslodge portref2 shiftFault -/
def portref2_shiftFault (l : (List cal_Shift)) (week : Bool) : Option Int :=
  Option.bind (rangeB (fun k6 _ => Option.bind (α := Lp _ _) (Option.bind (idx l (k6 : Int)) fun x33 => if ((!week) && (x33.day != 0)) = true then some (.rt 1) else if ((((((decide (x33.day < 0)) || (decide ((6 : Int) < x33.day))) || (decide (x33.from_ < 0))) || (decide ((1440 : Int) ≤ x33.from_))) || (decide (x33.to_ ≤ x33.from_))) || (decide ((w64 (x33.from_ + 1440)) < x33.to_))) = true then some (.rt 2) else Option.bind (α := Lp _ _) (if (decide ((0 : Int) < (k6 : Int))) = true then Option.bind (idx l (w64 ((k6 : Int) - 1))) fun x78 => Option.bind (cmp_Or_int ([(cmp_Compare_int x78.day x33.day), (cmp_Compare_int x78.from_ x33.from_), (cmp_Compare_int x78.to_ x33.to_)] : List Int)) fun x108 => if (decide ((0 : Int) ≤ x108)) = true then some (.rt 5) else some (.fin ()) else some (.fin ())) fun o69 => o69.andThen (fun y => some (.rt y)) fun s70 => some (.fin ())) fun o25 => o25.andThen (fun y => some (.rt y)) fun s26 => some (.nx ())) l.length 0 ()) fun o3 => o3.andThen (fun y => some y) fun s4 =>
  some 0

/-- porterslodge portref2 CalendarFault -/
def portref2_CalendarFault (c : cal_Calendar) : Option Int :=
  Option.bind (portref2_ZoneFault c.zone) fun x18 =>
  if (x18 != 0) = true then
    some x18
  else
    if ((decide ((60 : Int) < (c.week.length : Int))) || (decide ((200 : Int) < (c.specials.length : Int)))) = true then
      some 4
    else
      Option.bind (portref2_shiftFault c.week true) fun x38 =>
      if (x38 != 0) = true then
        some x38
      else
        Option.bind (rangeB (fun k50 _ => Option.bind (idx c.specials (k50 : Int)) fun x69 => if ((decide (x69.day < (-1))) || (decide ((2084 : Int) < x69.day))) = true then some (.rt 2) else Option.bind (if (decide ((0 : Int) < (k50 : Int))) = true then (Option.bind (idx c.specials (w64 ((k50 : Int) - 1))) fun x99 => some (decide (x69.day ≤ x99.day))) else (some false)) fun s93 => if s93 = true then some (.rt 5) else if (decide ((12 : Int) < (x69.shifts.length : Int))) = true then some (.rt 4) else Option.bind (portref2_shiftFault x69.shifts false) fun x117 => if (x117 != 0) = true then some (.rt x117) else some (.nx ())) c.specials.length 0 ()) fun o47 => o47.andThen (fun y => some y) fun s48 =>
        some 0

/-- porterslodge portref2 CalsFault -/
def portref2_CalsFault (cals : (List cal_Calendar)) (most : Int) : Option Int :=
  if (decide (most < (cals.length : Int))) = true then
    some 4
  else
    Option.bind (rangeB (fun k7 _ => Option.bind (idx cals (k7 : Int)) fun x27 => Option.bind (portref2_CalendarFault x27) fun x62 => if (x62 != 0) = true then some (.rt x62) else some (.nx ())) cals.length 0 ()) fun o4 => o4.andThen (fun y => some y) fun s5 =>
    some 0

/-- porterslodge portref2 clocksFault 1 -/
def portref2_clocksFault_1 (p : level_Piece) (p1 : (List cal_Calendar)) : Option Bool :=
  some (decide ((p1.length : Int) ≤ p.calendar))

/-- porterslodge portref2 clocksFault -/
def portref2_clocksFault (l : (List level_Clock)) (cals : (List cal_Calendar)) : Option Int :=
  if (decide ((8000 : Int) < (l.length : Int))) = true then
    some 4
  else
    Option.bind (rangeB (fun k18 _ => Option.bind (idx l (k18 : Int)) fun x37 => Option.bind (portref2_ClockFault x37) fun x58 => if (x58 != 0) = true then some (.rt x58) else some (.nx ())) l.length 0 ()) fun o15 => o15.andThen (fun y => some y) fun s16 =>
    Option.bind (portref2_CalsFault cals 20) fun x69 =>
    if (x69 != 0) = true then
      some x69
    else
      Option.bind (rangeB (fun k77 _ => Option.bind (idx l (k77 : Int)) fun x96 => Option.bind (slices_ContainsFunc_Llevel_Piece_level_Piece x96.pieces (fun y118 => portref2_clocksFault_1 y118 cals)) fun x119 => if x119 = true then some (.rt 7) else some (.nx ())) l.length 0 ()) fun o74 => o74.andThen (fun y => some y) fun s75 =>
      some 0

/-- porterslodge portref2 floorDiv -/
def portref2_floorDiv (a_ : Int) (b : Int) : Option (Int × Int) :=
  Option.bind (quo a_ b) fun x1 =>
  Option.bind (rem a_ b) fun x2 =>
  Option.bind (if (decide (x2 < 0)) = true then some (w64 (x1 - 1), w64 (x2 + b)) else some (x1, x2)) fun s7 =>
  some (s7.1, s7.2)

/-- porterslodge portref2 ShiftsIn -/
def portref2_ShiftsIn (c : cal_Calendar) (day : Int) : Option (List cal_Shift) :=
  Option.bind (rangeB (fun k21 _ => Option.bind (idx c.specials (k21 : Int)) fun x40 => if (x40.day == day) = true then some (.rt x40.shifts) else some (.nx ())) c.specials.length 0 ()) fun o18 => o18.andThen (fun y => some y) fun s19 =>
  Option.bind (portref2_floorDiv day 7) fun x67 =>
  Option.bind (rangeB (fun k78 s86 => Option.bind (Option.bind (idx c.week (k78 : Int)) fun x111 => Option.bind (if (x111.day == x67.2) = true then Option.bind (appendL 5864062014805 s86 ([(⟨0, x111.from_, x111.to_⟩ : cal_Shift)] : List cal_Shift)) fun x143 => some x143 else some s86) fun s126 => some s126) fun s102 => some (.nx s102)) c.week.length 0 ([] : (List cal_Shift))) fun o75 => o75.andThen (fun y => some y) fun s76 =>
  some s76

def portref2_NewClock (c : cal_Calendar) : Option cal_Calendar := some c

/-- porterslodge portref2 newMeter -/
def portref2_newMeter (cals : (List cal_Calendar)) : Option portref2_meter :=
  Option.bind (rangeB (fun k11 s19 => Option.bind (idx cals (k11 : Int)) fun x34 => Option.bind (portref2_NewClock x34) fun x72 => Option.bind (appendL 17592186044416 s19.clocks [x72]) fun x86 => some (.nx (⟨x86⟩ : portref2_meter))) cals.length 0 (⟨([] : (List cal_Calendar))⟩ : portref2_meter)) fun o8 => o8.andThen (fun y => some y) fun s9 =>
  some s9

/-- slices IndexFunc porterslodge level Share porterslodge level Share -/
def slices_IndexFunc_Llevel_Share_level_Share (s : (List level_Share)) (f : level_Share → Option Bool) : Option Int :=
  Option.bind (rangeB (fun k6 _ => Option.bind (idx s (k6 : Int)) fun x25 => Option.bind (f x25) fun x30 => if x30 = true then some (.rt (k6 : Int)) else some (.nx ())) s.length 0 ()) fun o3 => o3.andThen (fun y => some y) fun s4 =>
  some (-1)

/-- porterslodge portref2 SharesOf 1 -/
def portref2_SharesOf_1 (s : level_Share) (p1 : level_Clock) : Option Bool :=
  some ((s.level == p1.level) && (s.kind == p1.kind))

/-- porterslodge portref2 OffsetIn -/
def portref2_OffsetIn (z : cal_Zone) (m : Int) : Option Int :=
  Option.bind (rangeB (fun k17 s23 => Option.bind (Option.bind (idx z.changes (k17 : Int)) fun x44 => Option.bind (if (decide (x44.at_ ≤ m)) = true then some x44.offset else some s23) fun s59 => some s59) fun s37 => some (.nx s37)) z.changes.length 0 z.offset) fun o14 => o14.andThen (fun y => some y) fun s15 =>
  some s15

/-- porterslodge portref2 LocalIn -/
def portref2_LocalIn (z : cal_Zone) (m : Int) : Option (Int × Int) :=
  Option.bind (portref2_OffsetIn z m) fun x12 =>
  Option.bind (portref2_floorDiv (w64 (m + x12)) 1440) fun x16 =>
  some (x16.1, x16.2)

def portref2_Clock_shifts (k : cal_Calendar) (day : Int) : Option (List cal_Shift) := portref2_ShiftsIn k day

/-- porterslodge portref2 Clock Open -/
def portref2_Clock_Open (k_ : cal_Calendar) (m : Int) : Option Bool :=
  Option.bind (portref2_LocalIn k_.zone m) fun x6 =>
  Option.bind (portref2_Clock_shifts k_ x6.1) fun x10 =>
  Option.bind (rangeB (fun k20 _ => Option.bind (idx x10 (k20 : Int)) fun x39 => if ((decide (x39.from_ ≤ x6.2)) && (decide (x6.2 < x39.to_))) = true then some (.rt true) else some (.nx ())) x10.length 0 ()) fun o17 => o17.andThen (fun y => some y) fun s18 =>
  Option.bind (portref2_Clock_shifts k_ (w64 (x6.1 - 1))) fun x60 =>
  Option.bind (rangeB (fun k70 _ => Option.bind (idx x60 (k70 : Int)) fun x89 => if ((decide (x89.from_ ≤ (w64 (x6.2 + 1440)))) && (decide ((w64 (x6.2 + 1440)) < x89.to_))) = true then some (.rt true) else some (.nx ())) x60.length 0 ()) fun o67 => o67.andThen (fun y => some y) fun s68 =>
  some false

/-- porterslodge portref2 Clock Worked -/
noncomputable def portref2_Clock_Worked (k_ : cal_Calendar) (from_ : Int) (to_ : Int) : Option Int :=
  Option.bind (whileB (fun s10 => if (decide (s10.2 < to_)) = true then Option.bind (Option.bind (portref2_Clock_Open k_ s10.2) fun x30 => Option.bind (if x30 = true then some (w64 (s10.1 + 1)) else some s10.1) fun s36 => some s36) fun s23 => some (.nx (s23, w64 (s10.2 + 1))) else some (.bk (s10.1, s10.2))) (0, from_)) fun o1 => o1.andThen (fun y => some y) fun s2 =>
  some s2.1

/-- porterslodge portref2 meter elapsed -/
noncomputable def portref2_meter_elapsed (x : portref2_meter) (c : level_Clock) (m : Int) : Option Int :=
  Option.bind (rangeB (fun k18 s24 => Option.bind (idx c.pieces (k18 : Int)) fun x37 => Option.bind (if (decide ((0 : Int) ≤ x37.to_)) = true then some (if x37.to_ < m then x37.to_ else m) else some m) fun s52 => Option.bind (idx x.clocks x37.calendar) fun x65 => Option.bind (portref2_Clock_Worked x65 x37.from_ s52) fun x72 => some (.nx (w64 (s24 + x72)))) c.pieces.length 0 0) fun o15 => o15.andThen (fun y => some y) fun s16 =>
  some s16

/-- porterslodge portref2 meter state 1 -/
def portref2_meter_state_1 (p : level_Piece) (p1 : Int) : Option Bool :=
  some ((decide (p.from_ ≤ p1)) && ((decide (p.to_ < 0)) || (decide (p1 < p.to_))))

/-- porterslodge portref2 meter state -/
noncomputable def portref2_meter_state (x : portref2_meter) (c : level_Clock) (m : Int) : Option Int :=
  if ((decide ((0 : Int) ≤ c.stop)) && (decide (c.stop ≤ m))) = true then
    if (c.end_ == 2) = true then
      some 6
    else
      Option.bind (portref2_meter_elapsed x c c.stop) fun x32 =>
      if (decide (x32 ≤ c.minutes)) = true then
        some 4
      else
        some 5
  else
    Option.bind (portref2_meter_elapsed x c m) fun x45 =>
    if (decide (c.minutes < x45)) = true then
      some 3
    else
      Option.bind (slices_ContainsFunc_Llevel_Piece_level_Piece c.pieces (fun y55 => portref2_meter_state_1 y55 m)) fun x56 =>
      if x56 = true then
        some 1
      else
        some 2

/-- porterslodge portref2 SharesOf 2 -/
def portref2_SharesOf_2 (a_ : level_Share) (b : level_Share) : Option Int :=
  Option.bind (cmp_Or_int ([(cmp_Compare_int a_.level b.level), (cmp_Compare_int a_.kind b.kind)] : List Int)) fun x28 =>
  some x28

/-- porterslodge portref2 SharesOf -/
noncomputable def portref2_SharesOf (l : (List level_Clock)) (cals : (List cal_Calendar)) (m : Int) : Option ((List level_Share) × Int) :=
  Option.bind (portref2_clocksFault l cals) fun x5 =>
  if (x5 != 0) = true then
    some (([] : (List level_Share)), x5)
  else
    if (!(portref2_IsMoment m)) = true then
      some (([] : (List level_Share)), 2)
    else
      Option.bind (portref2_newMeter cals) fun x11 =>
      Option.bind (rangeB (fun k22 s30 => Option.bind (Option.bind (idx l (k22 : Int)) fun x55 => if (decide (m < x55.start)) = true then some s30 else Option.bind (slices_IndexFunc_Llevel_Share_level_Share s30 (fun y76 => portref2_SharesOf_1 y76 x55)) fun x77 => Option.bind (if (decide (x77 < 0)) = true then Option.bind (appendL 2932031007402 s30 ([(⟨x55.level, x55.kind, 0, 0, 0, 0⟩ : level_Share)] : List level_Share)) fun x107 => some (x107, (s30.length : Int)) else some (s30, x77)) fun s90 => Option.bind (portref2_meter_state x11 x55 m) fun x118 => Option.bind (Option.bind (if (x118 == 4) = true then Option.bind (idx s90.1 s90.2) fun x144 => Option.bind (setI s90.1 s90.2 ({ (x144 : level_Share) with kept := w64 (x144.kept + 1) })) fun x155 => some x155 else Option.bind (if (x118 == 5) = true then Option.bind (idx s90.1 s90.2) fun x171 => Option.bind (setI s90.1 s90.2 ({ (x171 : level_Share) with broken := w64 (x171.broken + 1) })) fun x182 => some x182 else Option.bind (if (x118 == 6) = true then Option.bind (idx s90.1 s90.2) fun x198 => Option.bind (setI s90.1 s90.2 ({ (x198 : level_Share) with gone := w64 (x198.gone + 1) })) fun x209 => some x209 else Option.bind (idx s90.1 s90.2) fun x214 => Option.bind (setI s90.1 s90.2 ({ (x214 : level_Share) with running := w64 (x214.running + 1) })) fun x225 => some x225) fun s188 => some s188) fun s161 => some s161) fun s134 => some s134) fun s124 => some s124) fun s46 => some (.nx s46)) l.length 0 ([] : (List level_Share))) fun o19 => o19.andThen (fun y => some y) fun s20 =>
      Option.bind (sortFuncL (fun y241 y242 => portref2_SharesOf_2 y241 y242) s20) fun x237 =>
      some (x237, 0)

/-- porterslodge portref2 PercentileOf -/
noncomputable def portref2_PercentileOf (l : (List level_Clock)) (cals : (List cal_Calendar)) (percent : Int) : Option (Int × Int) :=
  Option.bind (portref2_clocksFault l cals) fun x5 =>
  if (x5 != 0) = true then
    some (0, x5)
  else
    if ((decide (percent < 0)) || (decide ((100 : Int) < percent))) = true then
      some (0, 2)
    else
      Option.bind (portref2_newMeter cals) fun x13 =>
      Option.bind (rangeB (fun k24 s32 => Option.bind (Option.bind (idx l (k24 : Int)) fun x57 => Option.bind (if (x57.end_ == 1) = true then Option.bind (portref2_meter_elapsed x13 x57 x57.stop) fun x91 => Option.bind (appendL 17592186044416 s32 ([x91] : List Int)) fun x101 => some x101 else some s32) fun s77 => some s77) fun s48 => some (.nx s48)) l.length 0 ([] : (List Int))) fun o21 => o21.andThen (fun y => some y) fun s22 =>
      if ((s22.length : Int) == 0) = true then
        some (0, 7)
      else
        Option.bind (sortIntsL s22) fun x114 =>
        Option.bind (idx x114 (w64 ((if 1 < w64 (Int.tdiv (w64 ((w64 (percent * (x114.length : Int))) + 99)) 100) then w64 (Int.tdiv (w64 ((w64 (percent * (x114.length : Int))) + 99)) 100) else 1) - 1))) fun x118 =>
        some (x118, 0)

/-- slices Equal porterslodge level Share porterslodge level Share -/
def slices_Equal_Llevel_Share_level_Share (s1 : (List level_Share)) (s2 : (List level_Share)) : Option Bool :=
  if ((s1.length : Int) != (s2.length : Int)) = true then
    some false
  else
    Option.bind (rangeB (fun k9 _ => Option.bind (idx s1 (k9 : Int)) fun x29 => Option.bind (idx s2 (k9 : Int)) fun x34 => if (!(x29.level == x34.level && (x29.kind == x34.kind && (x29.running == x34.running && (x29.kept == x34.kept && (x29.broken == x34.broken && (x29.gone == x34.gone))))))) = true then some (.rt false) else some (.nx ())) s1.length 0 ()) fun o6 => o6.andThen (fun y => some y) fun s7 =>
    some true

/-- porterslodge portlaw2 ClockShares -/
noncomputable def portlaw2_ClockShares (l : (List level_Clock)) (cals : (List cal_Calendar)) (m : Int) (percent : Int) : Option Bool :=
  Option.bind (level_Shares l cals m) fun x5 =>
  Option.bind (level_Percentile l cals percent) fun x14 =>
  Option.bind (portref2_SharesOf l cals m) fun x18 =>
  Option.bind (portref2_PercentileOf l cals percent) fun x26 =>
  Option.bind (if (x14.1 == x26.1) = true then (if (x5.2 == x18.2) = true then (if (x14.2 == x26.2) = true then (Option.bind (slices_Equal_Llevel_Share_level_Share x5.1 x18.1) fun x41 => some x41) else (some false)) else (if false = true then (Option.bind (slices_Equal_Llevel_Share_level_Share x5.1 x18.1) fun x48 => some x48) else (some false))) else (if false = true then (if (x14.2 == x26.2) = true then (Option.bind (slices_Equal_Llevel_Share_level_Share x5.1 x18.1) fun x56 => some x56) else (some false)) else (if false = true then (Option.bind (slices_Equal_Llevel_Share_level_Share x5.1 x18.1) fun x63 => some x63) else (some false)))) fun s31 =>
  some s31

end Go.Proofs.YtnjlojicebcikaaGreat.M
