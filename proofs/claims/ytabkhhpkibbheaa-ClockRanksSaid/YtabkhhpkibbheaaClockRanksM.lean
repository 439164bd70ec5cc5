import Derived.Test.YtabkhhpkibbheaaPu
import Derived.Test.YtabkhhpkibbheaaPr
namespace Go.Proofs.Ytabkhhpkibbheaa.M
open Go Go.Pu
set_option linter.unusedVariables false
set_option linter.unusedSimpArgs false
structure cal_Change where
 at_ : Int
 offset : Int
structure cal_Zone where
 offset : Int
 changes : (List cal_Change)
structure cal_Shift where
 day : Int
 from_ : Int
 to_ : Int
structure cal_Special where
 day : Int
 shifts : (List cal_Shift)
structure cal_Calendar where
 zone : cal_Zone
 week : (List cal_Shift)
 specials : (List cal_Special)
structure portref2_meter where
 clocks : (List cal_Calendar)
structure level_Piece where
 from_ : Int
 to_ : Int
 calendar : Int
structure level_Clock where
 kind : Int
 level : Int
 minutes : Int
 start : Int
 stop : Int
 end_ : Int
 pieces : (List level_Piece)
structure cal_Span where
 from_ : Int
 to_ : Int
structure cal_part where
 from_ : Int
 to_ : Int
 offset : Int
def level_within (n : Int) (low : Int) (high : Int) : Bool :=
 ((decide (low ≤ n)) && (decide (n ≤ high)))
def level_CheckClock (c : level_Clock) : Option Int :=
 if ((((((!(level_within c.kind 1 3)) || (!(level_within c.level 0 19))) || (!(level_within c.minutes 0 100000))) || (!(level_within c.start 0 3000000))) || ((c.stop != (-1)) && (!(level_within c.stop c.start 3000000)))) || (!(level_within c.end_ 0 2))) = true then
  some 2
 else
  if (!((c.stop == (-1)) == (c.end_ == 0))) = true then
   some 1
  else
   if (decide ((6000 : Int) < (c.pieces.length : Int))) = true then
    some 4
   else
    Option.bind (rangeB (fun k45 _ => Option.bind (idx c.pieces (k45 : Int)) fun x64 => if (((!(level_within x64.from_ c.start 3000000)) || (!(level_within x64.calendar 0 19))) || ((x64.to_ != (-1)) && (!(level_within x64.to_ (w64 (x64.from_ + 1)) 3000000)))) = true then some (.rt 2) else Option.bind (if ((x64.to_ == (-1)) && ((decide ((k45 : Int) < (w64 ((c.pieces.length : Int) - 1)))) || (c.stop != (-1)))) = true then some ((x64.to_ == (-1)) && ((decide ((k45 : Int) < (w64 ((c.pieces.length : Int) - 1)))) || (c.stop != (-1)))) else some ((c.stop != (-1)) && (decide (c.stop < x64.to_)))) fun s101 => if s101 = true then some (.rt 1) else Option.bind (if (decide ((0 : Int) < (k45 : Int))) = true then (Option.bind (idx c.pieces (w64 ((k45 : Int) - 1))) fun x122 => some (decide (x64.from_ < x122.to_))) else (some false)) fun s116 => if s116 = true then some (.rt 5) else some (.nx ())) c.pieces.length 0 ()) fun o42 => o42.andThen (fun y => some y) fun s43 =>
    some 0
def cal_within (n : Int) (low : Int) (high : Int) : Bool :=
 ((decide (low ≤ n)) && (decide (n ≤ high)))
def cal_CheckZone (z : cal_Zone) : Option Int :=
 if (!(cal_within z.offset (-1440) 1440)) = true then
  some 2
 else
  if (decide ((60 : Int) < (z.changes.length : Int))) = true then
   some 4
  else
   Option.bind (rangeB (fun k27 s33 => Option.bind (idx z.changes (k27 : Int)) fun x46 => if ((!(cal_within x46.at_ 1 3000000)) || (!(cal_within x46.offset (-1440) 1440))) = true then some (.rt 2) else if (decide (x46.at_ ≤ s33.1)) = true then some (.rt 5) else if (x46.offset == s33.2) = true then some (.rt 1) else some (.nx (x46.at_, x46.offset))) z.changes.length 0 (0, z.offset)) fun o24 => o24.andThen (fun y => some y) fun s25 =>
   some 0
def cmp_isNaN_int (x : Int) : Bool :=
 x != x
def cmp_Compare_int (x : Int) (y : Int) : Int :=
 if (cmp_isNaN_int x) = true then
  if (cmp_isNaN_int y) = true then
   0
  else
   (-1)
 else
  if (cmp_isNaN_int y) = true then
   1
  else
   if (decide (x < y)) = true then
    (-1)
   else
    if (decide (y < x)) = true then
     1
    else
     0
def cmp_Or_int (vals : (List Int)) : Option Int :=
 Option.bind (rangeB (fun k6 _ => Option.bind (idx vals (k6 : Int)) fun x21 => if (x21 != 0) = true then some (.rt x21) else some (.nx ())) vals.length 0 ()) fun o3 => o3.andThen (fun y => some y) fun s4 =>
 some 0
def cal_after (a_ : cal_Shift) (b : cal_Shift) : Option Bool :=
 Option.bind (cmp_Or_int ([(cmp_Compare_int a_.day b.day), (cmp_Compare_int a_.from_ b.from_), (cmp_Compare_int a_.to_ b.to_)] : List Int)) fun x31 =>
 some (decide ((0 : Int) < x31))
def cal_checkShifts (l : (List cal_Shift)) (dated : Bool) : Option Int :=
 Option.bind (rangeB (fun k6 _ => Option.bind (idx l (k6 : Int)) fun x25 => if (dated && (x25.day != 0)) = true then some (.rt 1) else if ((((!(cal_within x25.day 0 6)) || (!(cal_within x25.from_ 0 1439))) || (decide (x25.to_ ≤ x25.from_))) || (decide ((w64 (x25.from_ + 1440)) < x25.to_))) = true then some (.rt 2) else Option.bind (if (decide ((0 : Int) < (k6 : Int))) = true then (Option.bind (idx l (w64 ((k6 : Int) - 1))) fun x58 => Option.bind (cal_after x25 x58) fun x63 => some (!x63)) else (some false)) fun s56 => if s56 = true then some (.rt 5) else some (.nx ())) l.length 0 ()) fun o3 => o3.andThen (fun y => some y) fun s4 =>
 some 0
def cal_CheckCalendar (c : cal_Calendar) : Option Int :=
 Option.bind (cal_CheckZone c.zone) fun x18 =>
 if (x18 != 0) = true then
  some x18
 else
  if ((decide ((60 : Int) < (c.week.length : Int))) || (decide ((200 : Int) < (c.specials.length : Int)))) = true then
   some 4
  else
   Option.bind (cal_checkShifts c.week false) fun x38 =>
   if (x38 != 0) = true then
    some x38
   else
    Option.bind (rangeB (fun k50 _ => Option.bind (idx c.specials (k50 : Int)) fun x69 => if (!(cal_within x69.day (-1) 2084)) = true then some (.rt 2) else Option.bind (if (decide ((0 : Int) < (k50 : Int))) = true then (Option.bind (idx c.specials (w64 ((k50 : Int) - 1))) fun x96 => some (decide (x69.day ≤ x96.day))) else (some false)) fun s90 => if s90 = true then some (.rt 5) else if (decide ((12 : Int) < (x69.shifts.length : Int))) = true then some (.rt 4) else Option.bind (cal_checkShifts x69.shifts true) fun x114 => if (x114 != 0) = true then some (.rt x114) else some (.nx ())) c.specials.length 0 ()) fun o47 => o47.andThen (fun y => some y) fun s48 =>
    some 0
def slices_IndexFunc_Llevel_Piece_level_Piece (s : (List level_Piece)) (f : level_Piece → Option Bool) : Option Int :=
 Option.bind (rangeB (fun k6 _ => Option.bind (idx s (k6 : Int)) fun x25 => Option.bind (f x25) fun x30 => if x30 = true then some (.rt (k6 : Int)) else some (.nx ())) s.length 0 ()) fun o3 => o3.andThen (fun y => some y) fun s4 =>
 some (-1)
def slices_ContainsFunc_Llevel_Piece_level_Piece (s : (List level_Piece)) (f : level_Piece → Option Bool) : Option Bool :=
 Option.bind (slices_IndexFunc_Llevel_Piece_level_Piece s f) fun x3 =>
 some (decide ((0 : Int) ≤ x3))
def level_check_1 (p : level_Piece) (p1 : (List cal_Calendar)) : Option Bool :=
 some (decide ((p1.length : Int) ≤ p.calendar))
def level_check (l : (List level_Clock)) (cals : (List cal_Calendar)) : Option Int :=
 if (decide ((8000 : Int) < (l.length : Int))) = true then
  some 4
 else
  Option.bind (rangeB (fun k18 _ => Option.bind (idx l (k18 : Int)) fun x37 => Option.bind (level_CheckClock x37) fun x58 => if (x58 != 0) = true then some (.rt x58) else some (.nx ())) l.length 0 ()) fun o15 => o15.andThen (fun y => some y) fun s16 =>
  if (decide ((20 : Int) < (cals.length : Int))) = true then
   some 4
  else
   Option.bind (rangeB (fun k76 _ => Option.bind (idx cals (k76 : Int)) fun x95 => Option.bind (cal_CheckCalendar x95) fun x130 => if (x130 != 0) = true then some (.rt x130) else some (.nx ())) cals.length 0 ()) fun o73 => o73.andThen (fun y => some y) fun s74 =>
   Option.bind (rangeB (fun k141 _ => Option.bind (idx l (k141 : Int)) fun x160 => Option.bind (slices_ContainsFunc_Llevel_Piece_level_Piece x160.pieces (fun y182 => level_check_1 y182 cals)) fun x183 => if x183 = true then some (.rt 7) else some (.nx ())) l.length 0 ()) fun o138 => o138.andThen (fun y => some y) fun s139 =>
   some 0
def level_moment (m : Int) (from_ : Int) : Int :=
 if (!(level_within m from_ 3000000)) = true then
  2
 else
  0
def cmp_Or_api_Errno (vals : (List Int)) : Option Int :=
 Option.bind (rangeB (fun k6 _ => Option.bind (idx vals (k6 : Int)) fun x21 => if (x21 != 0) = true then some (.rt x21) else some (.nx ())) vals.length 0 ()) fun o3 => o3.andThen (fun y => some y) fun s4 =>
 some 0
def level_runs (c : level_Clock) : Option Bool :=
 Option.bind (if (decide ((0 : Int) < (c.pieces.length : Int))) = true then (Option.bind (idx c.pieces (w64 ((c.pieces.length : Int) - 1))) fun x23 => some (x23.to_ == (-1))) else (some false)) fun s14 =>
 some s14
def cal_stretch (from_ : Int) (to_ : Int) : Int :=
 if ((!(cal_within from_ 0 3000000)) || (!(cal_within to_ 0 3000001))) = true then
  2
 else
  if (decide (to_ < from_)) = true then
   5
  else
   0
def cal_Calendar_open (c : cal_Calendar) (from_ : Int) (to_ : Int) : Option (cal_Calendar × Int × Int) :=
 some (c, from_, to_)
def cal_Calendar_shifts (c : cal_Calendar) (from_ : Int) (to_ : Int) : Option (cal_Calendar × Int × Int) :=
 some (c, from_, to_)
def cal_Zone_parts (z : cal_Zone) : Option (List cal_part) :=
 Option.bind (rangeB (fun k24 s32 => Option.bind (idx z.changes (k24 : Int)) fun x47 => Option.bind (idx s32 (w64 ((s32.length : Int) - 1))) fun x61 => Option.bind (setI s32 (w64 ((s32.length : Int) - 1)) ({ (x61 : cal_part) with to_ := x47.at_ })) fun x67 => Option.bind (appendL 5864062014805 x67 ([(⟨x47.at_, 3000001, x47.offset⟩ : cal_part)] : List cal_part)) fun x78 => some (.nx x78)) z.changes.length 0 ([(⟨0, 3000001, z.offset⟩ : cal_part)] : List cal_part)) fun o21 => o21.andThen (fun y => some y) fun s22 =>
 some s22
def cal_floor (a_ : Int) (b : Int) : Option Int :=
 Option.bind (quo a_ b) fun x1 =>
 Option.bind (rem a_ b) fun x2 =>
 Option.bind (if (decide (x2 < 0)) = true then some (w64 (x1 - 1)) else some x1) fun s4 =>
 some s4
noncomputable def slices_BinarySearchFunc_Lcal_Special_cal_Special_int (x : (List cal_Special)) (target : Int) (cmp : cal_Special → Int → Option Int) : Option (Int × Bool) :=
 Option.bind (whileB (fun s12 => if (decide (s12.1 < s12.2)) = true then Option.bind (Option.bind (shr .u64 (IntKind.wrap .u64 (w64 (s12.1 + s12.2))) 1) fun x32 => Option.bind (idx x (IntKind.wrap .i64 x32)) fun x33 => Option.bind (cmp x33 target) fun x40 => Option.bind (if (decide (x40 < 0)) = true then some (w64 ((IntKind.wrap .i64 x32) + 1), s12.2) else some (s12.1, IntKind.wrap .i64 x32)) fun s45 => some (s45.1, s45.2)) fun s25 => some (.nx (s25.1, s25.2)) else some (.bk (s12.1, s12.2))) (0, (x.length : Int))) fun o3 => o3.andThen (fun y => some y) fun s4 =>
 Option.bind (if (decide (s4.1 < (x.length : Int))) = true then (Option.bind (idx x s4.1) fun x66 => Option.bind (cmp x66 target) fun x73 => some (s4.1, x73 == 0)) else (some (s4.1, false))) fun s58 =>
 some (s58.1, s58.2)
def cal_Calendar_shiftsOf_1 (s : cal_Special) (d : Int) : Option Int :=
 some (cmp_Compare_int s.day d)
def slices_Clone_Lcal_Shift_cal_Shift (s : (List cal_Shift)) : Option (List cal_Shift) :=
 Option.bind (appendL 5864062014805 ([] : List cal_Shift) s) fun x8 =>
 some x8
noncomputable def cal_Calendar_shiftsOf (c : cal_Calendar) (day : Int) : Option (List cal_Shift) :=
 Option.bind (slices_BinarySearchFunc_Lcal_Special_cal_Special_int c.specials day (fun y18 y19 => cal_Calendar_shiftsOf_1 y18 y19)) fun x20 =>
 if x20.2 = true then
  Option.bind (idx c.specials x20.1) fun x41 =>
  Option.bind (slices_Clone_Lcal_Shift_cal_Shift x41.shifts) fun x49 =>
  some x49
 else
  Option.bind (rangeB (fun k64 s72 => Option.bind (Option.bind (idx c.week (k64 : Int)) fun x97 => Option.bind (cal_floor day 7) fun x111 => Option.bind (if (x97.day == (w64 (day - (w64 (7 * x111))))) = true then Option.bind (appendL 5864062014805 s72 ([(⟨0, x97.from_, x97.to_⟩ : cal_Shift)] : List cal_Shift)) fun x133 => some x133 else some s72) fun s116 => some s116) fun s88 => some (.nx s88)) c.week.length 0 ([] : (List cal_Shift))) fun o61 => o61.andThen (fun y => some y) fun s62 =>
  some s62
noncomputable def cal_Calendar_shifts_1_1 (day : Int) (p1 : cal_Calendar) (p2 : cal_part) (p3 : Int) (p4 : Int) {p5_S : Type} (p5 : cal_Span → p5_S → Option (Bool × p5_S)) (p5_s : p5_S) : Option (Bool × p5_S) :=
 Option.bind (cal_Calendar_shiftsOf p1 day) fun x8 =>
 Option.bind (rangeB (fun k19 s25 => Option.bind (idx x8 (k19 : Int)) fun x38 => Option.bind (if (decide (((⟨(if p3 < w64 ((w64 ((w64 (day * 1440)) - p2.offset)) + x38.from_) then w64 ((w64 ((w64 (day * 1440)) - p2.offset)) + x38.from_) else p3), (if w64 ((w64 ((w64 (day * 1440)) - p2.offset)) + x38.to_) < p4 then w64 ((w64 ((w64 (day * 1440)) - p2.offset)) + x38.to_) else p4)⟩ : cal_Span).from_) < ((⟨(if p3 < w64 ((w64 ((w64 (day * 1440)) - p2.offset)) + x38.from_) then w64 ((w64 ((w64 (day * 1440)) - p2.offset)) + x38.from_) else p3), (if w64 ((w64 ((w64 (day * 1440)) - p2.offset)) + x38.to_) < p4 then w64 ((w64 ((w64 (day * 1440)) - p2.offset)) + x38.to_) else p4)⟩ : cal_Span).to_))) = true then (Option.bind (p5 (⟨(if p3 < w64 ((w64 ((w64 (day * 1440)) - p2.offset)) + x38.from_) then w64 ((w64 ((w64 (day * 1440)) - p2.offset)) + x38.from_) else p3), (if w64 ((w64 ((w64 (day * 1440)) - p2.offset)) + x38.to_) < p4 then w64 ((w64 ((w64 (day * 1440)) - p2.offset)) + x38.to_) else p4)⟩ : cal_Span) s25) fun x75 => some (!x75.1, x75.2)) else (some (false, s25))) fun s64 => if s64.1 = true then some (.rt (false, s64.2)) else some (.nx s64.2)) x8.length 0 p5_s) fun o16 => o16.andThen (fun y => some y) fun s17 =>
 some (true, s17)
noncomputable def cal_Calendar_shifts_1 {yield_S : Type} (yield : cal_Span → yield_S → Option (Bool × yield_S)) (yield_s : yield_S) (p1 : cal_Calendar) (p2 : Int) (p3 : Int) : Option yield_S :=
 Option.bind (cal_Zone_parts p1.zone) fun x11 =>
 Option.bind (rangeB (fun k22 s28 => Option.bind (α := Lp _ _) (Option.bind (idx x11 (k22 : Int)) fun x49 => if (decide ((if x49.to_ < p3 then x49.to_ else p3) ≤ (if p2 < x49.from_ then x49.from_ else p2))) = true then some (.fin s28) else Option.bind (cal_floor (w64 ((if p2 < x49.from_ then x49.from_ else p2) + x49.offset)) 1440) fun x83 => Option.bind (whileB (fun s93 => Option.bind (cal_floor (w64 ((w64 ((if x49.to_ < p3 then x49.to_ else p3) - 1)) + x49.offset)) 1440) fun x105 => if (decide (s93.1 ≤ x105)) = true then Option.bind (cal_Calendar_shifts_1_1 s93.1 p1 x49 (if p2 < x49.from_ then x49.from_ else p2) (if x49.to_ < p3 then x49.to_ else p3) yield s93.2) fun x107 => if (!x107.1) = true then some (.rt x107.2) else some (.nx (w64 (s93.1 + 1), x107.2)) else some (.bk (s93.1, s93.2))) (w64 (x83 - 1), s28)) fun o84 => o84.andThen (fun y => some (.rt y)) fun s85 => some (.fin s85.2)) fun o41 => o41.andThen (fun y => some (.rt y)) fun s42 => some (.nx s42)) x11.length 0 yield_s) fun o19 => o19.andThen (fun y => some y) fun s20 =>
 some s20
noncomputable def cal_Calendar_open_1 {yield_S : Type} (yield : cal_Span → yield_S → Option (Bool × yield_S)) (yield_s : yield_S) (p1 : cal_Calendar) (p2 : Int) (p3 : Int) : Option yield_S :=
 Option.bind (cal_Calendar_shifts p1 p2 p3) fun x23 =>
 Option.bind (cal_Calendar_shifts_1 (yieldB (fun (x43 : cal_Span) (s35 : (cal_Span × yield_S)) => Option.bind (α := Lp _ _) (Option.bind (α := Lp _ _) (Option.bind (α := Lp _ _) (if (decide (s35.1.from_ < 0)) = true then some (.fin (x43, s35.2)) else Option.bind (α := Lp _ _) (if (decide (x43.from_ ≤ s35.1.to_)) = true then some (.fin ((⟨s35.1.from_, (if s35.1.to_ < x43.to_ then x43.to_ else s35.1.to_)⟩ : cal_Span), s35.2)) else Option.bind (yield s35.1 s35.2) fun x110 => if (!x110.1) = true then some (.rt ((s35.1, x110.2), some 0)) else some (.fin (x43, x110.2))) fun o96 => o96.andThen (fun y => some (.rt y)) fun s97 => some (.fin (s97.1, s97.2))) fun o81 => o81.andThen (fun y => some (.rt y)) fun s82 => some (.fin (s82.1, s82.2))) fun o73 => o73.andThen (fun y => some (.rt y)) fun s74 => some (.fin (s74.1, s74.2))) fun o65 => o65.andThen (fun y => some y) fun s66 => some ((s66.1, s66.2), none))) (((⟨(-1), (-1)⟩ : cal_Span), yield_s), none) x23.1 x23.2.1 x23.2.2) fun z33 =>
 if z33.2 = some 0 then (some z33.1.2) else
 Option.bind (if (decide ((0 : Int) ≤ z33.1.1.from_)) = true then Option.bind (yield z33.1.1 z33.1.2) fun x148 => some x148.2 else some z33.1.2) fun s140 =>
 some s140
noncomputable def cal_Worked (c : cal_Calendar) (from_ : Int) (to_ : Int) : Option (Int × Int) :=
 Option.bind (cal_CheckCalendar c) fun x21 =>
 Option.bind (cmp_Or_api_Errno ([x21, (cal_stretch from_ to_)] : List Int)) fun x31 =>
 if (x31 != 0) = true then
  some (0, x31)
 else
  Option.bind (cal_Calendar_open c from_ to_) fun x48 =>
  Option.bind (cal_Calendar_open_1 (yieldB (fun (x68 : cal_Span) (s60 : Int) => some (w64 (s60 + (w64 (x68.to_ - x68.from_))), none))) (0, none) x48.1 x48.2.1 x48.2.2) fun z58 =>
  some (z58.1, 0)
def cal_moment (m : Int) : Int :=
 if (!(cal_within m 0 3000000)) = true then
  2
 else
  0
def cal_workOf (work : Int) : Int :=
 if (!(cal_within work 0 3000001)) = true then
  2
 else
  0
noncomputable def cal_Add (c : cal_Calendar) (from_ : Int) (work : Int) : Option (Int × Int) :=
 Option.bind (cal_CheckCalendar c) fun x36 =>
 Option.bind (cmp_Or_api_Errno ([x36, (cal_moment from_), (cal_workOf work)] : List Int)) fun x47 =>
 if (x47 != 0) = true then
  some (0, x47)
 else
  Option.bind (cal_Calendar_open c from_ 3000001) fun x62 =>
  Option.bind (cal_Calendar_open_1 (yieldB (fun (x82 : cal_Span) (s74 : (Int × Int × Int)) => if (decide ((w64 (x82.to_ - x82.from_)) ≤ s74.2.2)) = true then some ((s74.1, s74.2.1, w64 (s74.2.2 - (w64 (x82.to_ - x82.from_)))), none) else some ((0, w64 (x82.from_ + s74.2.2), s74.2.2), some 0))) ((0, 0, work), none) x62.1 x62.2.1 x62.2.2) fun z72 =>
  if z72.2 = some 0 then (some (z72.1.2.1, z72.1.1)) else
  some (0, 7)
noncomputable def level_counted (c : level_Clock) (cals : (List cal_Calendar)) (k_ : Int) : Option (Int × Bool) :=
 Option.bind (rangeB (fun k18 s24 => Option.bind (idx c.pieces (k18 : Int)) fun x37 => Option.bind (if (x37.to_ == (-1)) = true then some 3000001 else some x37.to_) fun s52 => Option.bind (idx cals x37.calendar) fun x61 => Option.bind (cal_Worked x61 x37.from_ s52) fun x73 => if (decide (s24 < x73.1)) = true then Option.bind (cal_Add x61 x37.from_ s24) fun x90 => some (.rt (x90.1, x90.2 == 0)) else some (.nx (w64 (s24 - x73.1)))) c.pieces.length 0 k_) fun o15 => o15.andThen (fun y => some y) fun s16 =>
 some (0, false)
noncomputable def level_due (c : level_Clock) (cals : (List cal_Calendar)) : Option Int :=
 Option.bind (level_counted c cals c.minutes) fun x15 =>
 if x15.2 = true then
  some x15.1
 else
  some 3000000
noncomputable def level_Next (l : (List level_Clock)) (cals : (List cal_Calendar)) (m : Int) : Option (Int × Int × Int) :=
 Option.bind (level_check l cals) fun x5 =>
 Option.bind (cmp_Or_api_Errno ([x5, (level_moment m 0)] : List Int)) fun x15 =>
 if (x15 != 0) = true then
  some (0, 0, x15)
 else
  Option.bind (rangeB (fun k20 s26 => Option.bind (Option.bind (idx l (k20 : Int)) fun x47 => Option.bind (level_runs x47) fun x68 => if (!x68) = true then some (s26.1, s26.2) else Option.bind (level_due x47 cals) fun x77 => Option.bind (if (((decide (m < (w64 (x77 + 1)))) && (decide ((w64 (x77 + 1)) ≤ 3000000))) && ((decide (s26.1 < 0)) || (decide ((w64 (x77 + 1)) < s26.1)))) = true then some (w64 (x77 + 1), (k20 : Int)) else some (s26.1, s26.2)) fun s88 => some (s88.1, s88.2)) fun s40 => some (.nx (s40.1, s40.2))) l.length 0 ((-1), (-1))) fun o17 => o17.andThen (fun y => some y) fun s18 =>
  some (s18.1, s18.2, 0)
noncomputable def level_elapsed (c : level_Clock) (cals : (List cal_Calendar)) (m : Int) : Option Int :=
 Option.bind (rangeB (fun k18 s24 => Option.bind (Option.bind (idx c.pieces (k18 : Int)) fun x45 => Option.bind (if (x45.to_ != (-1)) = true then some (if x45.to_ < m then x45.to_ else m) else some m) fun s60 => Option.bind (if (decide (x45.from_ < s60)) = true then Option.bind (idx cals x45.calendar) fun x80 => Option.bind (cal_Worked x80 x45.from_ s60) fun x92 => some (w64 (s24 + x92.1)) else some s24) fun s71 => some s71) fun s38 => some (.nx s38)) c.pieces.length 0 0) fun o15 => o15.andThen (fun y => some y) fun s16 =>
 some s16
def level_Rank_1 (a_ : Int) (b : Int) (p2 : (List Int)) (p3 : (List level_Clock)) : Option Int :=
 Option.bind (idx p2 a_) fun x4 =>
 Option.bind (idx p2 b) fun x11 =>
 Option.bind (idx p3 a_) fun x18 =>
 Option.bind (idx p3 b) fun x26 =>
 Option.bind (cmp_Or_int ([(cmp_Compare_int x4 x11), (cmp_Compare_int x18.start x26.start), (cmp_Compare_int a_ b)] : List Int)) fun x42 =>
 some x42
noncomputable def level_Rank (l : (List level_Clock)) (cals : (List cal_Calendar)) (m : Int) : Option ((List Int) × Int) :=
 Option.bind (level_check l cals) fun x17 =>
 Option.bind (cmp_Or_api_Errno ([x17, (level_moment m 0)] : List Int)) fun x27 =>
 if (x27 != 0) = true then
  some (([] : (List Int)), x27)
 else
  Option.bind (makeL 35184372088832 (l.length : Int) (0 : Int)) fun x32 =>
  Option.bind (rangeB (fun k55 s65 => Option.bind (Option.bind (idx l (k55 : Int)) fun x94 => Option.bind (if (x94.end_ == 0) = true then Option.bind (appendL 17592186044416 s65.1 ([(k55 : Int)] : List Int)) fun x132 => Option.bind (level_elapsed x94 cals m) fun x142 => Option.bind (idx s65.2 (k55 : Int)) fun x143 => Option.bind (setI s65.2 (k55 : Int) (w64 (x94.minutes - x142))) fun x151 => some (x132, x151) else some (s65.1, s65.2)) fun s114 => some (s114.1, s114.2)) fun s83 => some (.nx (s83.1, s83.2))) l.length 0 (([] : (List Int)), x32)) fun o52 => o52.andThen (fun y => some y) fun s53 =>
  Option.bind (sortFuncL (fun y177 y178 => level_Rank_1 y177 y178 s53.2 l) s53.1) fun x173 =>
  some (x173, 0)
def portref2_IsMoment (m : Int) : Bool :=
 ((decide ((0 : Int) ≤ m)) && (decide (m ≤ 3000000)))
def portref2_ClockFault (c : level_Clock) : Option Int :=
 if ((((((((((decide (c.kind < 1)) || (decide ((3 : Int) < c.kind))) || (decide (c.level < 0))) || (decide ((20 : Int) ≤ c.level))) || (decide (c.minutes < 0))) || (decide ((100000 : Int) < c.minutes))) || (!(portref2_IsMoment c.start))) || ((c.stop != (-1)) && ((!(portref2_IsMoment c.stop)) || (decide (c.stop < c.start))))) || (decide (c.end_ < 0))) || (decide ((2 : Int) < c.end_))) = true then
  some 2
 else
  if (!((c.stop == (-1)) == (c.end_ == 0))) = true then
   some 1
  else
   if (decide ((6000 : Int) < (c.pieces.length : Int))) = true then
    some 4
   else
    Option.bind (rangeB (fun k60 _ => Option.bind (idx c.pieces (k60 : Int)) fun x79 => if (((((decide (x79.from_ < c.start)) || (!(portref2_IsMoment x79.from_))) || (decide (x79.calendar < 0))) || (decide ((20 : Int) ≤ x79.calendar))) || ((x79.to_ != (-1)) && ((!(portref2_IsMoment x79.to_)) || (decide (x79.to_ ≤ x79.from_))))) = true then some (.rt 2) else Option.bind (if ((x79.to_ == (-1)) && ((decide ((k60 : Int) < (w64 ((c.pieces.length : Int) - 1)))) || (c.stop != (-1)))) = true then some ((x79.to_ == (-1)) && ((decide ((k60 : Int) < (w64 ((c.pieces.length : Int) - 1)))) || (c.stop != (-1)))) else some ((c.stop != (-1)) && (decide (c.stop < x79.to_)))) fun s125 => if s125 = true then some (.rt 1) else Option.bind (if (decide ((0 : Int) < (k60 : Int))) = true then (Option.bind (idx c.pieces (w64 ((k60 : Int) - 1))) fun x146 => some (decide (x79.from_ < x146.to_))) else (some false)) fun s140 => if s140 = true then some (.rt 5) else some (.nx ())) c.pieces.length 0 ()) fun o57 => o57.andThen (fun y => some y) fun s58 =>
    some 0
def portref2_ZoneFault_1 (n : Int) : Bool :=
 ((decide (n < (-1440))) || (decide ((1440 : Int) < n)))
def portref2_ZoneFault (z : cal_Zone) : Option Int :=
 if (portref2_ZoneFault_1 z.offset) = true then
  some 2
 else
  if (decide ((60 : Int) < (z.changes.length : Int))) = true then
   some 4
  else
   Option.bind (rangeB (fun k24 s30 => Option.bind (idx z.changes (k24 : Int)) fun x43 => Option.bind (if (decide (x43.at_ < 1)) = true then (if true = true then (some true) else (some (portref2_ZoneFault_1 x43.offset))) else (if (decide ((3000000 : Int) < x43.at_)) = true then (some true) else (some (portref2_ZoneFault_1 x43.offset)))) fun s57 => if s57 = true then some (.rt 2) else Option.bind (if (decide ((0 : Int) < (k24 : Int))) = true then (Option.bind (idx z.changes (w64 ((k24 : Int) - 1))) fun x83 => some (decide (x43.at_ ≤ x83.at_))) else (some false)) fun s77 => if s77 = true then some (.rt 5) else if (x43.offset == s30) = true then some (.rt 1) else some (.nx x43.offset)) z.changes.length 0 z.offset) fun o21 => o21.andThen (fun y => some y) fun s22 =>
   some 0
def portref2_shiftFault (l : (List cal_Shift)) (week : Bool) : Option Int :=
 Option.bind (rangeB (fun k6 _ => Option.bind (α := Lp _ _) (Option.bind (idx l (k6 : Int)) fun x33 => if ((!week) && (x33.day != 0)) = true then some (.rt 1) else if ((((((decide (x33.day < 0)) || (decide ((6 : Int) < x33.day))) || (decide (x33.from_ < 0))) || (decide ((1440 : Int) ≤ x33.from_))) || (decide (x33.to_ ≤ x33.from_))) || (decide ((w64 (x33.from_ + 1440)) < x33.to_))) = true then some (.rt 2) else Option.bind (α := Lp _ _) (if (decide ((0 : Int) < (k6 : Int))) = true then Option.bind (idx l (w64 ((k6 : Int) - 1))) fun x78 => Option.bind (cmp_Or_int ([(cmp_Compare_int x78.day x33.day), (cmp_Compare_int x78.from_ x33.from_), (cmp_Compare_int x78.to_ x33.to_)] : List Int)) fun x108 => if (decide ((0 : Int) ≤ x108)) = true then some (.rt 5) else some (.fin ()) else some (.fin ())) fun o69 => o69.andThen (fun y => some (.rt y)) fun s70 => some (.fin ())) fun o25 => o25.andThen (fun y => some (.rt y)) fun s26 => some (.nx ())) l.length 0 ()) fun o3 => o3.andThen (fun y => some y) fun s4 =>
 some 0
def portref2_CalendarFault (c : cal_Calendar) : Option Int :=
 Option.bind (portref2_ZoneFault c.zone) fun x18 =>
 if (x18 != 0) = true then
  some x18
 else
  if ((decide ((60 : Int) < (c.week.length : Int))) || (decide ((200 : Int) < (c.specials.length : Int)))) = true then
   some 4
  else
   Option.bind (portref2_shiftFault c.week true) fun x38 =>
   if (x38 != 0) = true then
    some x38
   else
    Option.bind (rangeB (fun k50 _ => Option.bind (idx c.specials (k50 : Int)) fun x69 => if ((decide (x69.day < (-1))) || (decide ((2084 : Int) < x69.day))) = true then some (.rt 2) else Option.bind (if (decide ((0 : Int) < (k50 : Int))) = true then (Option.bind (idx c.specials (w64 ((k50 : Int) - 1))) fun x99 => some (decide (x69.day ≤ x99.day))) else (some false)) fun s93 => if s93 = true then some (.rt 5) else if (decide ((12 : Int) < (x69.shifts.length : Int))) = true then some (.rt 4) else Option.bind (portref2_shiftFault x69.shifts false) fun x117 => if (x117 != 0) = true then some (.rt x117) else some (.nx ())) c.specials.length 0 ()) fun o47 => o47.andThen (fun y => some y) fun s48 =>
    some 0
def portref2_CalsFault (cals : (List cal_Calendar)) (most : Int) : Option Int :=
 if (decide (most < (cals.length : Int))) = true then
  some 4
 else
  Option.bind (rangeB (fun k7 _ => Option.bind (idx cals (k7 : Int)) fun x27 => Option.bind (portref2_CalendarFault x27) fun x62 => if (x62 != 0) = true then some (.rt x62) else some (.nx ())) cals.length 0 ()) fun o4 => o4.andThen (fun y => some y) fun s5 =>
  some 0
def portref2_clocksFault_1 (p : level_Piece) (p1 : (List cal_Calendar)) : Option Bool :=
 some (decide ((p1.length : Int) ≤ p.calendar))
def portref2_clocksFault (l : (List level_Clock)) (cals : (List cal_Calendar)) : Option Int :=
 if (decide ((8000 : Int) < (l.length : Int))) = true then
  some 4
 else
  Option.bind (rangeB (fun k18 _ => Option.bind (idx l (k18 : Int)) fun x37 => Option.bind (portref2_ClockFault x37) fun x58 => if (x58 != 0) = true then some (.rt x58) else some (.nx ())) l.length 0 ()) fun o15 => o15.andThen (fun y => some y) fun s16 =>
  Option.bind (portref2_CalsFault cals 20) fun x69 =>
  if (x69 != 0) = true then
   some x69
  else
   Option.bind (rangeB (fun k77 _ => Option.bind (idx l (k77 : Int)) fun x96 => Option.bind (slices_ContainsFunc_Llevel_Piece_level_Piece x96.pieces (fun y118 => portref2_clocksFault_1 y118 cals)) fun x119 => if x119 = true then some (.rt 7) else some (.nx ())) l.length 0 ()) fun o74 => o74.andThen (fun y => some y) fun s75 =>
   some 0
def portref2_floorDiv (a_ : Int) (b : Int) : Option (Int × Int) :=
 Option.bind (quo a_ b) fun x1 =>
 Option.bind (rem a_ b) fun x2 =>
 Option.bind (if (decide (x2 < 0)) = true then some (w64 (x1 - 1), w64 (x2 + b)) else some (x1, x2)) fun s7 =>
 some (s7.1, s7.2)
def portref2_ShiftsIn (c : cal_Calendar) (day : Int) : Option (List cal_Shift) :=
 Option.bind (rangeB (fun k21 _ => Option.bind (idx c.specials (k21 : Int)) fun x40 => if (x40.day == day) = true then some (.rt x40.shifts) else some (.nx ())) c.specials.length 0 ()) fun o18 => o18.andThen (fun y => some y) fun s19 =>
 Option.bind (portref2_floorDiv day 7) fun x67 =>
 Option.bind (rangeB (fun k78 s86 => Option.bind (Option.bind (idx c.week (k78 : Int)) fun x111 => Option.bind (if (x111.day == x67.2) = true then Option.bind (appendL 5864062014805 s86 ([(⟨0, x111.from_, x111.to_⟩ : cal_Shift)] : List cal_Shift)) fun x143 => some x143 else some s86) fun s126 => some s126) fun s102 => some (.nx s102)) c.week.length 0 ([] : (List cal_Shift))) fun o75 => o75.andThen (fun y => some y) fun s76 =>
 some s76
def portref2_NewClock (c : cal_Calendar) : Option cal_Calendar := some c
def portref2_newMeter (cals : (List cal_Calendar)) : Option portref2_meter :=
 Option.bind (rangeB (fun k11 s19 => Option.bind (idx cals (k11 : Int)) fun x34 => Option.bind (portref2_NewClock x34) fun x72 => Option.bind (appendL 17592186044416 s19.clocks [x72]) fun x86 => some (.nx (⟨x86⟩ : portref2_meter))) cals.length 0 (⟨([] : (List cal_Calendar))⟩ : portref2_meter)) fun o8 => o8.andThen (fun y => some y) fun s9 =>
 some s9
def portref2_goesOn (c : level_Clock) : Option Bool :=
 Option.bind (if ((decide (c.stop < 0)) && (decide ((0 : Int) < (c.pieces.length : Int)))) = true then (Option.bind (idx c.pieces (w64 ((c.pieces.length : Int) - 1))) fun x26 => some (decide (x26.to_ < 0))) else (some false)) fun s17 =>
 some s17
def portref2_OffsetIn (z : cal_Zone) (m : Int) : Option Int :=
 Option.bind (rangeB (fun k17 s23 => Option.bind (Option.bind (idx z.changes (k17 : Int)) fun x44 => Option.bind (if (decide (x44.at_ ≤ m)) = true then some x44.offset else some s23) fun s59 => some s59) fun s37 => some (.nx s37)) z.changes.length 0 z.offset) fun o14 => o14.andThen (fun y => some y) fun s15 =>
 some s15
def portref2_LocalIn (z : cal_Zone) (m : Int) : Option (Int × Int) :=
 Option.bind (portref2_OffsetIn z m) fun x12 =>
 Option.bind (portref2_floorDiv (w64 (m + x12)) 1440) fun x16 =>
 some (x16.1, x16.2)
def portref2_Clock_shifts (k : cal_Calendar) (day : Int) : Option (List cal_Shift) := portref2_ShiftsIn k day
def portref2_Clock_Open (k_ : cal_Calendar) (m : Int) : Option Bool :=
 Option.bind (portref2_LocalIn k_.zone m) fun x6 =>
 Option.bind (portref2_Clock_shifts k_ x6.1) fun x10 =>
 Option.bind (rangeB (fun k20 _ => Option.bind (idx x10 (k20 : Int)) fun x39 => if ((decide (x39.from_ ≤ x6.2)) && (decide (x6.2 < x39.to_))) = true then some (.rt true) else some (.nx ())) x10.length 0 ()) fun o17 => o17.andThen (fun y => some y) fun s18 =>
 Option.bind (portref2_Clock_shifts k_ (w64 (x6.1 - 1))) fun x60 =>
 Option.bind (rangeB (fun k70 _ => Option.bind (idx x60 (k70 : Int)) fun x89 => if ((decide (x89.from_ ≤ (w64 (x6.2 + 1440)))) && (decide ((w64 (x6.2 + 1440)) < x89.to_))) = true then some (.rt true) else some (.nx ())) x60.length 0 ()) fun o67 => o67.andThen (fun y => some y) fun s68 =>
 some false
noncomputable def portref2_meter_first (x : portref2_meter) (c : level_Clock) (amount : Int) : Option Int :=
 Option.bind (whileB (fun s24 => if (decide (s24.2 ≤ 3000000)) = true then Option.bind (α := Lp _ _) (if (decide (amount ≤ s24.1)) = true then some (.rt s24.2) else Option.bind (rangeB (fun k52 s58 => Option.bind (Option.bind (idx c.pieces (k52 : Int)) fun x79 => Option.bind (if (decide (x79.from_ ≤ s24.2)) = true then (if (decide (x79.to_ < 0)) = true then (if true = true then (Option.bind (idx x.clocks x79.calendar) fun x106 => Option.bind (portref2_Clock_Open x106 s24.2) fun x115 => some x115) else (some false)) else (if (decide (s24.2 < x79.to_)) = true then (Option.bind (idx x.clocks x79.calendar) fun x128 => Option.bind (portref2_Clock_Open x128 s24.2) fun x137 => some x137) else (some false))) else (if false = true then (Option.bind (idx x.clocks x79.calendar) fun x149 => Option.bind (portref2_Clock_Open x149 s24.2) fun x158 => some x158) else (some false))) fun s93 => Option.bind (if s93 = true then some (w64 (s58 + 1)) else some s58) fun s169 => some s169) fun s72 => some (.nx s72)) c.pieces.length 0 s24.1) fun o49 => o49.andThen (fun y => some (.rt y)) fun s50 => some (.fin s50)) fun o36 => o36.andThen (fun y => some (.rt y)) fun s37 => some (.nx (s37, w64 (s24.2 + 1))) else some (.bk (s24.1, s24.2))) (0, c.start)) fun o15 => o15.andThen (fun y => some y) fun s16 =>
 some s16.2
noncomputable def portref2_meter_due (x : portref2_meter) (c : level_Clock) : Option Int :=
 Option.bind (portref2_meter_first x c (w64 (c.minutes + 1))) fun x15 =>
 some (w64 (x15 - 1))
noncomputable def portref2_NextOf (l : (List level_Clock)) (cals : (List cal_Calendar)) (m : Int) : Option (Int × Int × Int) :=
 Option.bind (portref2_clocksFault l cals) fun x5 =>
 if (x5 != 0) = true then
  some (0, 0, x5)
 else
  if (!(portref2_IsMoment m)) = true then
   some (0, 0, 2)
  else
   Option.bind (portref2_newMeter cals) fun x11 =>
   Option.bind (rangeB (fun k22 s28 => Option.bind (Option.bind (idx l (k22 : Int)) fun x49 => Option.bind (portref2_goesOn x49) fun x70 => if (!x70) = true then some (s28.1, s28.2) else Option.bind (portref2_meter_due x11 x49) fun x79 => Option.bind (if (((decide (m < (w64 (x79 + 1)))) && (decide ((w64 (x79 + 1)) ≤ 3000000))) && ((decide (s28.1 < 0)) || (decide ((w64 (x79 + 1)) < s28.1)))) = true then some (w64 (x79 + 1), (k22 : Int)) else some (s28.1, s28.2)) fun s91 => some (s91.1, s91.2)) fun s42 => some (.nx (s42.1, s42.2))) l.length 0 ((-1), (-1))) fun o19 => o19.andThen (fun y => some y) fun s20 =>
   some (s20.1, s20.2, 0)
noncomputable def slices_insertionSortCmpFunc_int (data : (List Int)) (a_ : Int) (b : Int) (cmp : (Int × Int) → Option Int) : Option (List Int) :=
 Option.bind (whileB (fun s10 => if (decide (s10.1 < b)) = true then Option.bind (Option.bind (whileB (R := Empty) (fun s39 => Option.bind (if (decide (a_ < s39.1)) = true then (Option.bind (idx s39.2 s39.1) fun x59 => Option.bind (idx s39.2 (w64 (s39.1 - 1))) fun x64 => Option.bind (cmp (x59, x64)) fun x72 => some (decide (x72 < 0))) else (some false)) fun s51 => if s51 = true then Option.bind (idx s39.2 (w64 (s39.1 - 1))) fun x86 => Option.bind (idx s39.2 s39.1) fun x91 => Option.bind (setI s39.2 s39.1 x86) fun x100 => Option.bind (idx x100 (w64 (s39.1 - 1))) fun x104 => Option.bind (setI x100 (w64 (s39.1 - 1)) x91) fun x109 => some (.nx (w64 (s39.1 - 1), x109)) else some (.bk (s39.1, s39.2))) (s10.1, s10.2)) fun o30 => o30.andThen (fun y => y.elim) fun s31 => some s31.2) fun s23 => some (.nx (w64 (s10.1 + 1), s23)) else some (.bk (s10.1, s10.2))) (w64 (a_ + 1), data)) fun o1 => o1.andThen (fun y => some y) fun s2 =>
 some s2.2
noncomputable def slices_swapRangeCmpFunc_int (data : (List Int)) (a_ : Int) (b : Int) (n : Int) (cmp : (Int × Int) → Option Int) : Option (List Int) :=
 Option.bind (whileB (fun s10 => if (decide (s10.1 < n)) = true then Option.bind (idx s10.2 (w64 (b + s10.1))) fun x25 => Option.bind (idx s10.2 (w64 (a_ + s10.1))) fun x30 => Option.bind (setI s10.2 (w64 (a_ + s10.1)) x25) fun x39 => Option.bind (idx x39 (w64 (b + s10.1))) fun x43 => Option.bind (setI x39 (w64 (b + s10.1)) x30) fun x48 => some (.nx (w64 (s10.1 + 1), x48)) else some (.bk (s10.1, s10.2))) (0, data)) fun o1 => o1.andThen (fun y => some y) fun s2 =>
 some s2.2
noncomputable def slices_rotateCmpFunc_int (data : (List Int)) (a_ : Int) (m : Int) (b : Int) (cmp : (Int × Int) → Option Int) : Option (List Int) :=
 Option.bind (whileB (fun s10 => if (s10.1 != s10.2.1) = true then Option.bind (Option.bind (if (decide (s10.2.1 < s10.1)) = true then Option.bind (slices_swapRangeCmpFunc_int s10.2.2 (w64 (m - s10.1)) m s10.2.1 cmp) fun x39 => some (w64 (s10.1 - s10.2.1), s10.2.1, x39) else Option.bind (slices_swapRangeCmpFunc_int s10.2.2 (w64 (m - s10.1)) (w64 ((w64 (m + s10.2.1)) - s10.1)) s10.1 cmp) fun x45 => some (s10.1, w64 (s10.2.1 - s10.1), x45)) fun s31 => some (s31.1, s31.2.1, s31.2.2)) fun s23 => some (.nx (s23.1, s23.2.1, s23.2.2)) else some (.bk (s10.1, s10.2.1, s10.2.2))) (w64 (m - a_), w64 (b - m), data)) fun o1 => o1.andThen (fun y => some y) fun s2 =>
 Option.bind (slices_swapRangeCmpFunc_int s2.2.2 (w64 (m - s2.1)) m s2.1 cmp) fun x55 =>
 some x55
noncomputable def slices_symMergeCmpFunc_intF (REC : ((List Int)) → (Int) → (Int) → (Int) → ((Int × Int) → Option Int) → Option (List Int)) (data : (List Int)) (a_ : Int) (m : Int) (b : Int) (cmp : (Int × Int) → Option Int) : Option (List Int) :=
 if ((w64 (m - a_)) == 1) = true then
  Option.bind (whileB (fun s11 => if (decide (s11.1 < s11.2)) = true then Option.bind (Option.bind (shr .u64 (IntKind.wrap .u64 (w64 (s11.1 + s11.2))) 1) fun x31 => Option.bind (idx data (IntKind.wrap .i64 x31)) fun x32 => Option.bind (idx data a_) fun x37 => Option.bind (cmp (x32, x37)) fun x45 => Option.bind (if (decide (x45 < 0)) = true then some (w64 ((IntKind.wrap .i64 x31) + 1), s11.2) else some (s11.1, IntKind.wrap .i64 x31)) fun s51 => some (s51.1, s51.2)) fun s24 => some (.nx (s24.1, s24.2)) else some (.bk (s11.1, s11.2))) (m, b)) fun o2 => o2.andThen (fun y => some y) fun s3 =>
  Option.bind (whileB (fun s72 => if (decide (s72.1 < (w64 (s3.1 - 1)))) = true then Option.bind (idx s72.2 (w64 (s72.1 + 1))) fun x87 => Option.bind (idx s72.2 s72.1) fun x92 => Option.bind (setI s72.2 s72.1 x87) fun x101 => Option.bind (idx x101 (w64 (s72.1 + 1))) fun x105 => Option.bind (setI x101 (w64 (s72.1 + 1)) x92) fun x110 => some (.nx (w64 (s72.1 + 1), x110)) else some (.bk (s72.1, s72.2))) (a_, data)) fun o63 => o63.andThen (fun y => some y) fun s64 =>
  some s64.2
 else
  if ((w64 (b - m)) == 1) = true then
   Option.bind (whileB (fun s127 => if (decide (s127.1 < s127.2)) = true then Option.bind (Option.bind (shr .u64 (IntKind.wrap .u64 (w64 (s127.1 + s127.2))) 1) fun x147 => Option.bind (idx data m) fun x148 => Option.bind (idx data (IntKind.wrap .i64 x147)) fun x153 => Option.bind (cmp (x148, x153)) fun x161 => Option.bind (if (!(decide (x161 < 0))) = true then some (w64 ((IntKind.wrap .i64 x147) + 1), s127.2) else some (s127.1, IntKind.wrap .i64 x147)) fun s167 => some (s167.1, s167.2)) fun s140 => some (.nx (s140.1, s140.2)) else some (.bk (s127.1, s127.2))) (a_, m)) fun o118 => o118.andThen (fun y => some y) fun s119 =>
   Option.bind (whileB (fun s188 => if (decide (s119.1 < s188.1)) = true then Option.bind (idx s188.2 (w64 (s188.1 - 1))) fun x203 => Option.bind (idx s188.2 s188.1) fun x208 => Option.bind (setI s188.2 s188.1 x203) fun x217 => Option.bind (idx x217 (w64 (s188.1 - 1))) fun x221 => Option.bind (setI x217 (w64 (s188.1 - 1)) x208) fun x226 => some (.nx (w64 (s188.1 - 1), x226)) else some (.bk (s188.1, s188.2))) (m, data)) fun o179 => o179.andThen (fun y => some y) fun s180 =>
   some s180.2
  else
   Option.bind (shr .u64 (IntKind.wrap .u64 (w64 (a_ + b))) 1) fun x233 =>
   Option.bind (if (decide ((IntKind.wrap .i64 x233) < m)) = true then some (w64 ((w64 ((IntKind.wrap .i64 x233) + m)) - b), IntKind.wrap .i64 x233) else some (a_, m)) fun s235 =>
   Option.bind (whileB (fun s252 => if (decide (s252.1 < s252.2)) = true then Option.bind (Option.bind (shr .u64 (IntKind.wrap .u64 (w64 (s252.1 + s252.2))) 1) fun x272 => Option.bind (idx data (w64 ((w64 ((w64 ((IntKind.wrap .i64 x233) + m)) - 1)) - (IntKind.wrap .i64 x272)))) fun x273 => Option.bind (idx data (IntKind.wrap .i64 x272)) fun x278 => Option.bind (cmp (x273, x278)) fun x286 => Option.bind (if (!(decide (x286 < 0))) = true then some (w64 ((IntKind.wrap .i64 x272) + 1), s252.2) else some (s252.1, IntKind.wrap .i64 x272)) fun s292 => some (s292.1, s292.2)) fun s265 => some (.nx (s265.1, s265.2)) else some (.bk (s252.1, s252.2))) (s235.1, s235.2)) fun o243 => o243.andThen (fun y => some y) fun s244 =>
   Option.bind (if ((decide (s244.1 < m)) && (decide (m < (w64 ((w64 ((IntKind.wrap .i64 x233) + m)) - s244.1))))) = true then Option.bind (slices_rotateCmpFunc_int data s244.1 m (w64 ((w64 ((IntKind.wrap .i64 x233) + m)) - s244.1)) cmp) fun x315 => some x315 else some data) fun s307 =>
   Option.bind (if ((decide (a_ < s244.1)) && (decide (s244.1 < (IntKind.wrap .i64 x233)))) = true then Option.bind (REC s307 a_ s244.1 (IntKind.wrap .i64 x233) cmp) fun x333 => some x333 else some s307) fun s325 =>
   Option.bind (if ((decide ((IntKind.wrap .i64 x233) < (w64 ((w64 ((IntKind.wrap .i64 x233) + m)) - s244.1)))) && (decide ((w64 ((w64 ((IntKind.wrap .i64 x233) + m)) - s244.1)) < b))) = true then Option.bind (REC s325 (IntKind.wrap .i64 x233) (w64 ((w64 ((IntKind.wrap .i64 x233) + m)) - s244.1)) b cmp) fun x351 => some x351 else some s325) fun s343 =>
   some s343
noncomputable def slices_symMergeCmpFunc_intN : Nat → ((List Int)) → (Int) → (Int) → (Int) → ((Int × Int) → Option Int) → Option (List Int)
 | 0 => fun _ _ _ _ _ => none
 | n + 1 => slices_symMergeCmpFunc_intF (slices_symMergeCmpFunc_intN n)
noncomputable def slices_symMergeCmpFunc_int (data : (List Int)) (a_ : Int) (m : Int) (b : Int) (cmp : (Int × Int) → Option Int) : Option (List Int) := slices_symMergeCmpFunc_intN (data.length + 1) data a_ m b cmp
noncomputable def slices_stableCmpFunc_int (data : (List Int)) (n : Int) (cmp : (Int × Int) → Option Int) : Option (List Int) :=
 Option.bind (whileB (fun s10 => if (decide (s10.2.1 ≤ n)) = true then Option.bind (slices_insertionSortCmpFunc_int s10.2.2 s10.1 s10.2.1 cmp) fun x22 => some (.nx (s10.2.1, w64 (s10.2.1 + 20), x22)) else some (.bk (s10.1, s10.2.1, s10.2.2))) (0, 20, data)) fun o1 => o1.andThen (fun y => some y) fun s2 =>
 Option.bind (slices_insertionSortCmpFunc_int s2.2.2 s2.1 n cmp) fun x30 =>
 Option.bind (whileB (fun s44 => if (decide (s44.1 < n)) = true then Option.bind (whileB (fun s65 => if (decide (s65.2.1 ≤ n)) = true then Option.bind (slices_symMergeCmpFunc_int s65.2.2 s65.1 (w64 (s65.1 + s44.1)) s65.2.1 cmp) fun x77 => some (.nx (s65.2.1, w64 (s65.2.1 + (w64 (2 * s44.1))), x77)) else some (.bk (s65.1, s65.2.1, s65.2.2))) (0, w64 (2 * s44.1), s44.2)) fun o56 => o56.andThen (fun y => some (.rt y)) fun s57 => Option.bind (if (decide ((w64 (s57.1 + s44.1)) < n)) = true then Option.bind (slices_symMergeCmpFunc_int s57.2.2 s57.1 (w64 (s57.1 + s44.1)) n cmp) fun x94 => some x94 else some s57.2.2) fun s86 => some (.nx (w64 (s44.1 * 2), s86)) else some (.bk (s44.1, s44.2))) (20, x30)) fun o35 => o35.andThen (fun y => some y) fun s36 =>
 some s36.2
noncomputable def slices_SortStableFunc_Lint_int (x : (List Int)) (cmp : (Int × Int) → Option Int) : Option (List Int) :=
 Option.bind (slices_stableCmpFunc_int x (x.length : Int) cmp) fun x1 =>
 some x1
noncomputable def portref2_Clock_Worked (k_ : cal_Calendar) (from_ : Int) (to_ : Int) : Option Int :=
 Option.bind (whileB (fun s10 => if (decide (s10.2 < to_)) = true then Option.bind (Option.bind (portref2_Clock_Open k_ s10.2) fun x30 => Option.bind (if x30 = true then some (w64 (s10.1 + 1)) else some s10.1) fun s36 => some s36) fun s23 => some (.nx (s23, w64 (s10.2 + 1))) else some (.bk (s10.1, s10.2))) (0, from_)) fun o1 => o1.andThen (fun y => some y) fun s2 =>
 some s2.1
noncomputable def portref2_meter_elapsed (x : portref2_meter) (c : level_Clock) (m : Int) : Option Int :=
 Option.bind (rangeB (fun k18 s24 => Option.bind (idx c.pieces (k18 : Int)) fun x37 => Option.bind (if (decide ((0 : Int) ≤ x37.to_)) = true then some (if x37.to_ < m then x37.to_ else m) else some m) fun s52 => Option.bind (idx x.clocks x37.calendar) fun x65 => Option.bind (portref2_Clock_Worked x65 x37.from_ s52) fun x72 => some (.nx (w64 (s24 + x72)))) c.pieces.length 0 0) fun o15 => o15.andThen (fun y => some y) fun s16 =>
 some s16
noncomputable def portref2_RankOf_1 (i_ : Int) (p1 : (List level_Clock)) (p2 : portref2_meter) (p3 : Int) : Option Int :=
 Option.bind (idx p1 i_) fun x9 =>
 Option.bind (portref2_meter_elapsed p2 x9 p3) fun x23 =>
 some (w64 (x9.minutes - x23))
def portref2_RankOf_2 (a_ : Int) (b : Int) (p2 : Int → Option Int) (p3 : (List level_Clock)) : Option Int :=
 Option.bind (p2 a_) fun x4 =>
 Option.bind (p2 b) fun x9 =>
 Option.bind (idx p3 a_) fun x17 =>
 Option.bind (idx p3 b) fun x25 =>
 Option.bind (cmp_Or_int ([(cmp_Compare_int x4 x9), (cmp_Compare_int x17.start x25.start)] : List Int)) fun x37 =>
 some x37
noncomputable def portref2_RankOf (l : (List level_Clock)) (cals : (List cal_Calendar)) (m : Int) : Option ((List Int) × Int) :=
 Option.bind (portref2_clocksFault l cals) fun x23 =>
 if (x23 != 0) = true then
  some (([] : (List Int)), x23)
 else
  if (!(portref2_IsMoment m)) = true then
   some (([] : (List Int)), 2)
  else
   Option.bind (portref2_newMeter cals) fun x29 =>
   Option.bind (rangeB (fun k51 s59 => Option.bind (Option.bind (idx l (k51 : Int)) fun x84 => Option.bind (if (decide (x84.stop < 0)) = true then Option.bind (appendL 17592186044416 s59 ([(k51 : Int)] : List Int)) fun x120 => some x120 else some s59) fun s104 => some s104) fun s75 => some (.nx s75)) l.length 0 ([] : (List Int))) fun o48 => o48.andThen (fun y => some y) fun s49 =>
   Option.bind (slices_SortStableFunc_Lint_int s49 (fun y140 => portref2_RankOf_2 y140.1 y140.2 (fun y142 => portref2_RankOf_1 y142 l x29 m) l)) fun x143 =>
   some (x143, 0)
def slices_Equal_Lint_int (s1 : (List Int)) (s2 : (List Int)) : Option Bool :=
 if ((s1.length : Int) != (s2.length : Int)) = true then
  some false
 else
  Option.bind (rangeB (fun k9 _ => Option.bind (idx s1 (k9 : Int)) fun x29 => Option.bind (idx s2 (k9 : Int)) fun x33 => if (x29 != x33) = true then some (.rt false) else some (.nx ())) s1.length 0 ()) fun o6 => o6.andThen (fun y => some y) fun s7 =>
  some true
noncomputable def portlaw2_ClockRanks (l : (List level_Clock)) (cals : (List cal_Calendar)) (m : Int) : Option Bool :=
 Option.bind (level_Next l cals m) fun x5 =>
 Option.bind (level_Rank l cals m) fun x9 =>
 Option.bind (portref2_NextOf l cals m) fun x17 =>
 Option.bind (portref2_RankOf l cals m) fun x21 =>
 Option.bind (if (x5.1 == x17.1) = true then (if (x5.2.1 == x17.2.1) = true then (if (x5.2.2 == x17.2.2) = true then (if (x9.2 == x21.2) = true then (Option.bind (slices_Equal_Lint_int x9.1 x21.1) fun x42 => some x42) else (some false)) else (if false = true then (Option.bind (slices_Equal_Lint_int x9.1 x21.1) fun x49 => some x49) else (some false))) else (if false = true then (if (x9.2 == x21.2) = true then (Option.bind (slices_Equal_Lint_int x9.1 x21.1) fun x57 => some x57) else (some false)) else (if false = true then (Option.bind (slices_Equal_Lint_int x9.1 x21.1) fun x64 => some x64) else (some false)))) else (if false = true then (if (x5.2.2 == x17.2.2) = true then (if (x9.2 == x21.2) = true then (Option.bind (slices_Equal_Lint_int x9.1 x21.1) fun x73 => some x73) else (some false)) else (if false = true then (Option.bind (slices_Equal_Lint_int x9.1 x21.1) fun x80 => some x80) else (some false))) else (if false = true then (if (x9.2 == x21.2) = true then (Option.bind (slices_Equal_Lint_int x9.1 x21.1) fun x88 => some x88) else (some false)) else (if false = true then (Option.bind (slices_Equal_Lint_int x9.1 x21.1) fun x95 => some x95) else (some false))))) fun s30 =>
 some s30
end Go.Proofs.Ytabkhhpkibbheaa.M
