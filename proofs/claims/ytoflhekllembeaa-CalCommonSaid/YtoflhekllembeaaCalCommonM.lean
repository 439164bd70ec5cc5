/-
  Written by program (gen.py) from the IR of the dump: plain models of the functions.
-/
import Derived.Test.YtoflhekllembeaaPu
import Derived.Test.YtoflhekllembeaaPq
import Derived.Test.YtoflhekllembeaaPr
namespace Go.Proofs.Ytoflhekllembeaa.M
open Go Go.Pu
set_option linter.unusedVariables false
set_option linter.unusedSimpArgs false

structure cal_Change where
  at_ : Int
  offset : Int

structure cal_Zone where
  offset : Int
  changes : (List cal_Change)

structure cal_Shift where
  day : Int
  from_ : Int
  to_ : Int

structure cal_Special where
  day : Int
  shifts : (List cal_Shift)

structure cal_Calendar where
  zone : cal_Zone
  week : (List cal_Shift)
  specials : (List cal_Special)

structure cal_Span where
  from_ : Int
  to_ : Int

structure cal_part where
  from_ : Int
  to_ : Int
  offset : Int

structure cal_edge where
  at_ : Int
  list_ : Int
  by_ : Int

/-- porterslodge cal within -/
def cal_within (n : Int) (low : Int) (high : Int) : Bool :=
  ((decide (low ≤ n)) && (decide (n ≤ high)))

/-- porterslodge cal CheckZone -/
def cal_CheckZone (z : cal_Zone) : Option Int :=
  if (!(cal_within z.offset (-1440) 1440)) = true then
    some 2
  else
    if (decide ((60 : Int) < (z.changes.length : Int))) = true then
      some 4
    else
      Option.bind (rangeB (fun k27 s33 => Option.bind (idx z.changes (k27 : Int)) fun x46 => if ((!(cal_within x46.at_ 1 3000000)) || (!(cal_within x46.offset (-1440) 1440))) = true then some (.rt 2) else if (decide (x46.at_ ≤ s33.1)) = true then some (.rt 5) else if (x46.offset == s33.2) = true then some (.rt 1) else some (.nx (x46.at_, x46.offset))) z.changes.length 0 (0, z.offset)) fun o24 => o24.andThen (fun y => some y) fun s25 =>
      some 0

/-- cmp isNaN int -/
def cmp_isNaN_int (x : Int) : Bool :=
  x != x

/-- cmp Compare int -/
def cmp_Compare_int (x : Int) (y : Int) : Int :=
  if (cmp_isNaN_int x) = true then
    if (cmp_isNaN_int y) = true then
      0
    else
      (-1)
  else
    if (cmp_isNaN_int y) = true then
      1
    else
      if (decide (x < y)) = true then
        (-1)
      else
        if (decide (y < x)) = true then
          1
        else
          0

/-- cmp Or int -/
def cmp_Or_int (vals : (List Int)) : Option Int :=
  Option.bind (rangeB (fun k6 _ => Option.bind (idx vals (k6 : Int)) fun x21 => if (x21 != 0) = true then some (.rt x21) else some (.nx ())) vals.length 0 ()) fun o3 => o3.andThen (fun y => some y) fun s4 =>
  some 0

/-- porterslodge cal after -/
def cal_after (a_ : cal_Shift) (b : cal_Shift) : Option Bool :=
  Option.bind (cmp_Or_int ([(cmp_Compare_int a_.day b.day), (cmp_Compare_int a_.from_ b.from_), (cmp_Compare_int a_.to_ b.to_)] : List Int)) fun x31 =>
  some (decide ((0 : Int) < x31))

/-- porterslodge cal checkShifts -/
def cal_checkShifts (l : (List cal_Shift)) (dated : Bool) : Option Int :=
  Option.bind (rangeB (fun k6 _ => Option.bind (idx l (k6 : Int)) fun x25 => if (dated && (x25.day != 0)) = true then some (.rt 1) else if ((((!(cal_within x25.day 0 6)) || (!(cal_within x25.from_ 0 1439))) || (decide (x25.to_ ≤ x25.from_))) || (decide ((w64 (x25.from_ + 1440)) < x25.to_))) = true then some (.rt 2) else Option.bind (if (decide ((0 : Int) < (k6 : Int))) = true then (Option.bind (idx l (w64 ((k6 : Int) - 1))) fun x58 => Option.bind (cal_after x25 x58) fun x63 => some (!x63)) else (some false)) fun s56 => if s56 = true then some (.rt 5) else some (.nx ())) l.length 0 ()) fun o3 => o3.andThen (fun y => some y) fun s4 =>
  some 0

/-- porterslodge cal CheckCalendar -/
def cal_CheckCalendar (c : cal_Calendar) : Option Int :=
  Option.bind (cal_CheckZone c.zone) fun x18 =>
  if (x18 != 0) = true then
    some x18
  else
    if ((decide ((60 : Int) < (c.week.length : Int))) || (decide ((200 : Int) < (c.specials.length : Int)))) = true then
      some 4
    else
      Option.bind (cal_checkShifts c.week false) fun x38 =>
      if (x38 != 0) = true then
        some x38
      else
        Option.bind (rangeB (fun k50 _ => Option.bind (idx c.specials (k50 : Int)) fun x69 => if (!(cal_within x69.day (-1) 2084)) = true then some (.rt 2) else Option.bind (if (decide ((0 : Int) < (k50 : Int))) = true then (Option.bind (idx c.specials (w64 ((k50 : Int) - 1))) fun x96 => some (decide (x69.day ≤ x96.day))) else (some false)) fun s90 => if s90 = true then some (.rt 5) else if (decide ((12 : Int) < (x69.shifts.length : Int))) = true then some (.rt 4) else Option.bind (cal_checkShifts x69.shifts true) fun x114 => if (x114 != 0) = true then some (.rt x114) else some (.nx ())) c.specials.length 0 ()) fun o47 => o47.andThen (fun y => some y) fun s48 =>
        some 0

/-- porterslodge cal stretch -/
def cal_stretch (from_ : Int) (to_ : Int) : Int :=
  if ((!(cal_within from_ 0 3000000)) || (!(cal_within to_ 0 3000001))) = true then
    2
  else
    if (decide (to_ < from_)) = true then
      5
    else
      0

/-- porterslodge cal Calendar open -/
def cal_Calendar_open (c : cal_Calendar) (from_ : Int) (to_ : Int) : Option (cal_Calendar × Int × Int) :=
  some (c, from_, to_)

/-- slices AppendSeq porterslodge cal Span porterslodge cal Span -/
def slices_AppendSeq_Lcal_Span_cal_Span (s : (List cal_Span)) (seq : ∀ S : Type, (cal_Span → S → Option (Bool × S)) → S → Option S) : Option (List cal_Span) :=
  Option.bind (seq _ (yieldB (fun (x21 : cal_Span) (s11 : (List cal_Span)) => Option.bind (appendL 8796093022208 s11 ([x21] : List cal_Span)) fun x50 => some (x50, none))) (s, none)) fun z9 =>
  some z9.1

/-- porterslodge cal Calendar shifts -/
def cal_Calendar_shifts (c : cal_Calendar) (from_ : Int) (to_ : Int) : Option (cal_Calendar × Int × Int) :=
  some (c, from_, to_)

/-- porterslodge cal Zone parts -/
def cal_Zone_parts (z : cal_Zone) : Option (List cal_part) :=
  Option.bind (rangeB (fun k24 s32 => Option.bind (idx z.changes (k24 : Int)) fun x47 => Option.bind (idx s32 (w64 ((s32.length : Int) - 1))) fun x61 => Option.bind (setI s32 (w64 ((s32.length : Int) - 1)) ({ (x61 : cal_part) with to_ := x47.at_ })) fun x67 => Option.bind (appendL 5864062014805 x67 ([(⟨x47.at_, 3000001, x47.offset⟩ : cal_part)] : List cal_part)) fun x78 => some (.nx x78)) z.changes.length 0 ([(⟨0, 3000001, z.offset⟩ : cal_part)] : List cal_part)) fun o21 => o21.andThen (fun y => some y) fun s22 =>
  some s22

/-- porterslodge cal floor -/
def cal_floor (a_ : Int) (b : Int) : Option Int :=
  Option.bind (quo a_ b) fun x1 =>
  Option.bind (rem a_ b) fun x2 =>
  Option.bind (if (decide (x2 < 0)) = true then some (w64 (x1 - 1)) else some x1) fun s4 =>
  some s4

/-- slices BinarySearchFunc porterslodge cal Special porterslodge cal Special int -/
noncomputable def slices_BinarySearchFunc_Lcal_Special_cal_Special_int (x : (List cal_Special)) (target : Int) (cmp : cal_Special → Int → Option Int) : Option (Int × Bool) :=
  Option.bind (whileB (fun s12 => if (decide (s12.1 < s12.2)) = true then Option.bind (Option.bind (shr .u64 (IntKind.wrap .u64 (w64 (s12.1 + s12.2))) 1) fun x32 => Option.bind (idx x (IntKind.wrap .i64 x32)) fun x33 => Option.bind (cmp x33 target) fun x40 => Option.bind (if (decide (x40 < 0)) = true then some (w64 ((IntKind.wrap .i64 x32) + 1), s12.2) else some (s12.1, IntKind.wrap .i64 x32)) fun s45 => some (s45.1, s45.2)) fun s25 => some (.nx (s25.1, s25.2)) else some (.bk (s12.1, s12.2))) (0, (x.length : Int))) fun o3 => o3.andThen (fun y => some y) fun s4 =>
  Option.bind (if (decide (s4.1 < (x.length : Int))) = true then (Option.bind (idx x s4.1) fun x66 => Option.bind (cmp x66 target) fun x73 => some (s4.1, x73 == 0)) else (some (s4.1, false))) fun s58 =>
  some (s58.1, s58.2)

/-- porterslodge cal Calendar shiftsOf 1 -/
def cal_Calendar_shiftsOf_1 (s : cal_Special) (d : Int) : Option Int :=
  some (cmp_Compare_int s.day d)

/-- slices Clone porterslodge cal Shift porterslodge cal Shift -/
def slices_Clone_Lcal_Shift_cal_Shift (s : (List cal_Shift)) : Option (List cal_Shift) :=
  Option.bind (appendL 5864062014805 ([] : List cal_Shift) s) fun x8 =>
  some x8

/-- porterslodge cal Calendar shiftsOf -/
noncomputable def cal_Calendar_shiftsOf (c : cal_Calendar) (day : Int) : Option (List cal_Shift) :=
  Option.bind (slices_BinarySearchFunc_Lcal_Special_cal_Special_int c.specials day (fun y18 y19 => cal_Calendar_shiftsOf_1 y18 y19)) fun x20 =>
  if x20.2 = true then
    Option.bind (idx c.specials x20.1) fun x42 =>
    Option.bind (slices_Clone_Lcal_Shift_cal_Shift x42.shifts) fun x50 =>
    some x50
  else
    Option.bind (rangeB (fun k65 s73 => Option.bind (Option.bind (idx c.week (k65 : Int)) fun x98 => Option.bind (cal_floor day 7) fun x112 => Option.bind (if (x98.day == (w64 (day - (w64 (7 * x112))))) = true then Option.bind (appendL 5864062014805 s73 ([(⟨0, x98.from_, x98.to_⟩ : cal_Shift)] : List cal_Shift)) fun x134 => some x134 else some s73) fun s117 => some s117) fun s89 => some (.nx s89)) c.week.length 0 ([] : (List cal_Shift))) fun o62 => o62.andThen (fun y => some y) fun s63 =>
    some s63

/-- porterslodge cal Calendar shifts 1 1 -/
noncomputable def cal_Calendar_shifts_1_1 (day : Int) (p1 : cal_Calendar) (p2 : cal_part) (p3 : Int) (p4 : Int) {p5_S : Type} (p5 : cal_Span → p5_S → Option (Bool × p5_S)) (p5_s : p5_S) : Option (Bool × p5_S) :=
  Option.bind (cal_Calendar_shiftsOf p1 day) fun x8 =>
  Option.bind (rangeB (fun k19 s25 => Option.bind (idx x8 (k19 : Int)) fun x38 => Option.bind (if (decide (((⟨(if p3 < w64 ((w64 ((w64 (day * 1440)) - p2.offset)) + x38.from_) then w64 ((w64 ((w64 (day * 1440)) - p2.offset)) + x38.from_) else p3), (if w64 ((w64 ((w64 (day * 1440)) - p2.offset)) + x38.to_) < p4 then w64 ((w64 ((w64 (day * 1440)) - p2.offset)) + x38.to_) else p4)⟩ : cal_Span).from_) < ((⟨(if p3 < w64 ((w64 ((w64 (day * 1440)) - p2.offset)) + x38.from_) then w64 ((w64 ((w64 (day * 1440)) - p2.offset)) + x38.from_) else p3), (if w64 ((w64 ((w64 (day * 1440)) - p2.offset)) + x38.to_) < p4 then w64 ((w64 ((w64 (day * 1440)) - p2.offset)) + x38.to_) else p4)⟩ : cal_Span).to_))) = true then (Option.bind (p5 (⟨(if p3 < w64 ((w64 ((w64 (day * 1440)) - p2.offset)) + x38.from_) then w64 ((w64 ((w64 (day * 1440)) - p2.offset)) + x38.from_) else p3), (if w64 ((w64 ((w64 (day * 1440)) - p2.offset)) + x38.to_) < p4 then w64 ((w64 ((w64 (day * 1440)) - p2.offset)) + x38.to_) else p4)⟩ : cal_Span) s25) fun x75 => some (!x75.1, x75.2)) else (some (false, s25))) fun s64 => if s64.1 = true then some (.rt (false, s64.2)) else some (.nx s64.2)) x8.length 0 p5_s) fun o16 => o16.andThen (fun y => some y) fun s17 =>
  some (true, s17)

/-- porterslodge cal Calendar shifts 1 -/
noncomputable def cal_Calendar_shifts_1 {yield_S : Type} (yield : cal_Span → yield_S → Option (Bool × yield_S)) (yield_s : yield_S) (p1 : cal_Calendar) (p2 : Int) (p3 : Int) : Option yield_S :=
  Option.bind (cal_Zone_parts p1.zone) fun x11 =>
  Option.bind (rangeB (fun k22 s28 => Option.bind (α := Lp _ _) (Option.bind (idx x11 (k22 : Int)) fun x49 => if (decide ((if x49.to_ < p3 then x49.to_ else p3) ≤ (if p2 < x49.from_ then x49.from_ else p2))) = true then some (.fin s28) else Option.bind (cal_floor (w64 ((if p2 < x49.from_ then x49.from_ else p2) + x49.offset)) 1440) fun x83 => Option.bind (whileB (fun s93 => Option.bind (cal_floor (w64 ((w64 ((if x49.to_ < p3 then x49.to_ else p3) - 1)) + x49.offset)) 1440) fun x105 => if (decide (s93.1 ≤ x105)) = true then Option.bind (cal_Calendar_shifts_1_1 s93.1 p1 x49 (if p2 < x49.from_ then x49.from_ else p2) (if x49.to_ < p3 then x49.to_ else p3) yield s93.2) fun x107 => if (!x107.1) = true then some (.rt x107.2) else some (.nx (w64 (s93.1 + 1), x107.2)) else some (.bk (s93.1, s93.2))) (w64 (x83 - 1), s28)) fun o84 => o84.andThen (fun y => some (.rt y)) fun s85 => some (.fin s85.2)) fun o41 => o41.andThen (fun y => some (.rt y)) fun s42 => some (.nx s42)) x11.length 0 yield_s) fun o19 => o19.andThen (fun y => some y) fun s20 =>
  some s20

/-- porterslodge cal Calendar open 1 -/
noncomputable def cal_Calendar_open_1 {yield_S : Type} (yield : cal_Span → yield_S → Option (Bool × yield_S)) (yield_s : yield_S) (p1 : cal_Calendar) (p2 : Int) (p3 : Int) : Option yield_S :=
  Option.bind (cal_Calendar_shifts p1 p2 p3) fun x23 =>
  Option.bind (cal_Calendar_shifts_1 (yieldB (fun (x43 : cal_Span) (s35 : (cal_Span × yield_S)) => Option.bind (α := Lp _ _) (Option.bind (α := Lp _ _) (Option.bind (α := Lp _ _) (if (decide (s35.1.from_ < 0)) = true then some (.fin (x43, s35.2)) else Option.bind (α := Lp _ _) (if (decide (x43.from_ ≤ s35.1.to_)) = true then some (.fin ((⟨s35.1.from_, (if s35.1.to_ < x43.to_ then x43.to_ else s35.1.to_)⟩ : cal_Span), s35.2)) else Option.bind (yield s35.1 s35.2) fun x110 => if (!x110.1) = true then some (.rt ((s35.1, x110.2), some 0)) else some (.fin (x43, x110.2))) fun o96 => o96.andThen (fun y => some (.rt y)) fun s97 => some (.fin (s97.1, s97.2))) fun o81 => o81.andThen (fun y => some (.rt y)) fun s82 => some (.fin (s82.1, s82.2))) fun o73 => o73.andThen (fun y => some (.rt y)) fun s74 => some (.fin (s74.1, s74.2))) fun o65 => o65.andThen (fun y => some y) fun s66 => some ((s66.1, s66.2), none))) (((⟨(-1), (-1)⟩ : cal_Span), yield_s), none) x23.1 x23.2.1 x23.2.2) fun z33 =>
  if z33.2 = some 0 then (some z33.1.2) else
  Option.bind (if (decide ((0 : Int) ≤ z33.1.1.from_)) = true then Option.bind (yield z33.1.1 z33.1.2) fun x148 => some x148.2 else some z33.1.2) fun s140 =>
  some s140

/-- porterslodge cal swept 1 -/
def cal_swept_1 (a_ : cal_edge) (b : cal_edge) : Option Int :=
  some (cmp_Compare_int a_.at_ b.at_)

instance : Inhabited cal_edge := ⟨⟨0, 0, 0⟩⟩

/-- porterslodge cal swept -/
noncomputable def cal_swept (lists : (List (List cal_Span))) (wanted : (List Int) → Option Bool) : Option (List cal_Span) :=
  Option.bind (rangeB (fun k6 s14 => Option.bind (Option.bind (idx lists (k6 : Int)) fun x39 => Option.bind (rangeB (R := Empty) (fun k49 s57 => Option.bind (idx x39 (k49 : Int)) fun x72 => Option.bind (appendL 5864062014805 s57 ([(⟨x72.from_, (k6 : Int), 1⟩ : cal_edge), (⟨x72.to_, (k6 : Int), (-1)⟩ : cal_edge)] : List cal_edge)) fun x94 => some (.nx x94)) x39.length 0 s14) fun o46 => o46.andThen (fun y => y.elim) fun s47 => some s47) fun s30 => some (.nx s30)) lists.length 0 ([] : (List cal_edge))) fun o3 => o3.andThen (fun y => some y) fun s4 =>
  Option.bind (sortFuncP (fun y1 y2 => (cal_swept_1 y1 y2).getD 0) s4) fun x107 =>
  Option.bind (makeL 35184372088832 (lists.length : Int) (0 : Int)) fun x111 =>
  Option.bind (whileB (fun s130 => if (decide (s130.2.2 < (x107.length : Int))) = true then Option.bind (Option.bind (idx x107 s130.2.2) fun x158 => Option.bind (whileB (R := Empty) (fun s175 => Option.bind (if (decide (s175.2 < (x107.length : Int))) = true then (Option.bind (idx x107 s175.2) fun x190 => some (x190.at_ == x158.at_)) else (some false)) fun s189 => if s189 = true then Option.bind (idx x107 s175.2) fun x197 => Option.bind (idx s175.1 x197.list_) fun x203 => Option.bind (setI s175.1 x197.list_ (w64 (x203 + x197.by_))) fun x220 => some (.nx (x220, w64 (s175.2 + 1))) else some (.bk (s175.1, s175.2))) (s130.1, s130.2.2)) fun o164 => o164.andThen (fun y => y.elim) fun s165 => Option.bind (if (s165.2 == (x107.length : Int)) = true then (some true) else (Option.bind (wanted s165.1) fun x237 => some (!x237))) fun s228 => if s228 = true then some (s165.1, s130.2.1, s165.2) else Option.bind (idx x107 s165.2) fun x244 => Option.bind (if (decide ((0 : Int) < (s130.2.1.length : Int))) = true then (Option.bind (idx s130.2.1 (w64 ((s130.2.1.length : Int) - 1))) fun x260 => some (x260.to_ == ((⟨x158.at_, x244.at_⟩ : cal_Span).from_))) else (some false)) fun s259 => Option.bind (if s259 = true then Option.bind (idx s130.2.1 (w64 ((s130.2.1.length : Int) - 1))) fun x282 => Option.bind (setI s130.2.1 (w64 ((s130.2.1.length : Int) - 1)) ({ (x282 : cal_Span) with to_ := (⟨x158.at_, x244.at_⟩ : cal_Span).to_ })) fun x288 => some x288 else Option.bind (appendL 8796093022208 s130.2.1 ([(⟨x158.at_, x244.at_⟩ : cal_Span)] : List cal_Span)) fun x301 => some x301) fun s271 => some (s165.1, s271, s165.2)) fun s147 => some (.nx (s147.1, s147.2.1, s147.2.2)) else some (.bk (s130.1, s130.2.1, s130.2.2))) (x111, ([] : (List cal_Span)), 0)) fun o117 => o117.andThen (fun y => some y) fun s118 =>
  some s118.2.1

/-- porterslodge cal Common 1 -/
def cal_Common_1 (counts : (List Int)) (p1 : Int) : Option Bool :=
  Option.bind (idx counts 0) fun x3 =>
  some (decide (p1 ≤ x3))

/-- porterslodge cal limited -/
def cal_limited (l : (List cal_Span)) : ((List cal_Span) × Int) :=
  if (decide ((50000 : Int) < (l.length : Int))) = true then
    (([] : (List cal_Span)), 4)
  else
    (l, 0)

/-- porterslodge cal Common -/
noncomputable def cal_Common (l : (List cal_Calendar)) (need : Int) (from_ : Int) (to_ : Int) : Option ((List cal_Span) × Int) :=
  if (decide ((50 : Int) < (l.length : Int))) = true then
    some (([] : (List cal_Span)), 4)
  else
    Option.bind (rangeB (fun k13 _ => Option.bind (idx l (k13 : Int)) fun x32 => Option.bind (cal_CheckCalendar x32) fun x67 => if (x67 != 0) = true then some (.rt (([] : (List cal_Span)), x67)) else some (.nx ())) l.length 0 ()) fun o10 => o10.andThen (fun y => some y) fun s11 =>
    if (!(cal_within need 1 50)) = true then
      some (([] : (List cal_Span)), 2)
    else
      if ((cal_stretch from_ to_) != 0) = true then
        some (([] : (List cal_Span)), (cal_stretch from_ to_))
      else
        Option.bind (rangeB (fun k80 s88 => Option.bind (idx l (k80 : Int)) fun x103 => Option.bind (cal_Calendar_open x103 from_ to_) fun x138 => Option.bind (slices_AppendSeq_Lcal_Span_cal_Span s88 (fun _ y s => cal_Calendar_open_1 y s x138.1 x138.2.1 x138.2.2)) fun x148 => some (.nx x148)) l.length 0 ([] : (List cal_Span))) fun o77 => o77.andThen (fun y => some y) fun s78 =>
        Option.bind (cal_swept ([s78] : List (List cal_Span)) (fun y171 => cal_Common_1 y171 need)) fun x172 =>
        some ((cal_limited x172).1, (cal_limited x172).2)

/-- porterslodge portref2 ZoneFault 1 -/
def portref2_ZoneFault_1 (n : Int) : Bool :=
  ((decide (n < (-1440))) || (decide ((1440 : Int) < n)))

/-- porterslodge portref2 ZoneFault -/
def portref2_ZoneFault (z : cal_Zone) : Option Int :=
  if (portref2_ZoneFault_1 z.offset) = true then
    some 2
  else
    if (decide ((60 : Int) < (z.changes.length : Int))) = true then
      some 4
    else
      Option.bind (rangeB (fun k24 s30 => Option.bind (idx z.changes (k24 : Int)) fun x43 => Option.bind (if (decide (x43.at_ < 1)) = true then (if true = true then (some true) else (some (portref2_ZoneFault_1 x43.offset))) else (if (decide ((3000000 : Int) < x43.at_)) = true then (some true) else (some (portref2_ZoneFault_1 x43.offset)))) fun s57 => if s57 = true then some (.rt 2) else Option.bind (if (decide ((0 : Int) < (k24 : Int))) = true then (Option.bind (idx z.changes (w64 ((k24 : Int) - 1))) fun x83 => some (decide (x43.at_ ≤ x83.at_))) else (some false)) fun s77 => if s77 = true then some (.rt 5) else if (x43.offset == s30) = true then some (.rt 1) else some (.nx x43.offset)) z.changes.length 0 z.offset) fun o21 => o21.andThen (fun y => some y) fun s22 =>
      some 0

/-- porterslodge portref2 shiftFault -/
def portref2_shiftFault (l : (List cal_Shift)) (week : Bool) : Option Int :=
  Option.bind (rangeB (fun k6 _ => Option.bind (α := Lp _ _) (Option.bind (idx l (k6 : Int)) fun x33 => if ((!week) && (x33.day != 0)) = true then some (.rt 1) else if ((((((decide (x33.day < 0)) || (decide ((6 : Int) < x33.day))) || (decide (x33.from_ < 0))) || (decide ((1440 : Int) ≤ x33.from_))) || (decide (x33.to_ ≤ x33.from_))) || (decide ((w64 (x33.from_ + 1440)) < x33.to_))) = true then some (.rt 2) else Option.bind (α := Lp _ _) (if (decide ((0 : Int) < (k6 : Int))) = true then Option.bind (idx l (w64 ((k6 : Int) - 1))) fun x78 => Option.bind (cmp_Or_int ([(cmp_Compare_int x78.day x33.day), (cmp_Compare_int x78.from_ x33.from_), (cmp_Compare_int x78.to_ x33.to_)] : List Int)) fun x108 => if (decide ((0 : Int) ≤ x108)) = true then some (.rt 5) else some (.fin ()) else some (.fin ())) fun o69 => o69.andThen (fun y => some (.rt y)) fun s70 => some (.fin ())) fun o25 => o25.andThen (fun y => some (.rt y)) fun s26 => some (.nx ())) l.length 0 ()) fun o3 => o3.andThen (fun y => some y) fun s4 =>
  some 0

/-- porterslodge portref2 CalendarFault -/
def portref2_CalendarFault (c : cal_Calendar) : Option Int :=
  Option.bind (portref2_ZoneFault c.zone) fun x18 =>
  if (x18 != 0) = true then
    some x18
  else
    if ((decide ((60 : Int) < (c.week.length : Int))) || (decide ((200 : Int) < (c.specials.length : Int)))) = true then
      some 4
    else
      Option.bind (portref2_shiftFault c.week true) fun x38 =>
      if (x38 != 0) = true then
        some x38
      else
        Option.bind (rangeB (fun k50 _ => Option.bind (idx c.specials (k50 : Int)) fun x69 => if ((decide (x69.day < (-1))) || (decide ((2084 : Int) < x69.day))) = true then some (.rt 2) else Option.bind (if (decide ((0 : Int) < (k50 : Int))) = true then (Option.bind (idx c.specials (w64 ((k50 : Int) - 1))) fun x99 => some (decide (x69.day ≤ x99.day))) else (some false)) fun s93 => if s93 = true then some (.rt 5) else if (decide ((12 : Int) < (x69.shifts.length : Int))) = true then some (.rt 4) else Option.bind (portref2_shiftFault x69.shifts false) fun x117 => if (x117 != 0) = true then some (.rt x117) else some (.nx ())) c.specials.length 0 ()) fun o47 => o47.andThen (fun y => some y) fun s48 =>
        some 0

/-- porterslodge portref2 floorDiv -/
def portref2_floorDiv (a_ : Int) (b : Int) : Option (Int × Int) :=
  Option.bind (quo a_ b) fun x1 =>
  Option.bind (rem a_ b) fun x2 =>
  Option.bind (if (decide (x2 < 0)) = true then some (w64 (x1 - 1), w64 (x2 + b)) else some (x1, x2)) fun s7 =>
  some (s7.1, s7.2)

/-- porterslodge portref2 ShiftsIn -/
def portref2_ShiftsIn (c : cal_Calendar) (day : Int) : Option (List cal_Shift) :=
  Option.bind (rangeB (fun k21 _ => Option.bind (idx c.specials (k21 : Int)) fun x40 => if (x40.day == day) = true then some (.rt x40.shifts) else some (.nx ())) c.specials.length 0 ()) fun o18 => o18.andThen (fun y => some y) fun s19 =>
  Option.bind (portref2_floorDiv day 7) fun x67 =>
  Option.bind (rangeB (fun k78 s86 => Option.bind (Option.bind (idx c.week (k78 : Int)) fun x111 => Option.bind (if (x111.day == x67.2) = true then Option.bind (appendL 5864062014805 s86 ([(⟨0, x111.from_, x111.to_⟩ : cal_Shift)] : List cal_Shift)) fun x143 => some x143 else some s86) fun s126 => some s126) fun s102 => some (.nx s102)) c.week.length 0 ([] : (List cal_Shift))) fun o75 => o75.andThen (fun y => some y) fun s76 =>
  some s76

def portref2_NewClock (c : cal_Calendar) : Option cal_Calendar := some c

/-- porterslodge portref2 IsEnd -/
def portref2_IsEnd (m : Int) : Bool :=
  ((decide ((0 : Int) ≤ m)) && (decide (m ≤ 3000001)))

/-- porterslodge portref2 IsMoment -/
def portref2_IsMoment (m : Int) : Bool :=
  ((decide ((0 : Int) ≤ m)) && (decide (m ≤ 3000000)))

/-- porterslodge portref2 rangeFault -/
def portref2_rangeFault (from_ : Int) (to_ : Int) : Int :=
  if ((!(portref2_IsMoment from_)) || (!(portref2_IsEnd to_))) = true then
    2
  else
    if (decide (to_ < from_)) = true then
      5
    else
      0

/-- porterslodge portref2 spansOf -/
noncomputable def portref2_spansOf (from_ : Int) (to_ : Int) (holds : Int → Option Bool) : Option (List cal_Span) :=
  Option.bind (whileB (fun s12 => if (decide (s12.2 < to_)) = true then Option.bind (Option.bind (holds s12.2) fun x36 => if (!x36) = true then some s12.1 else Option.bind (if (decide ((0 : Int) < (s12.1.length : Int))) = true then (Option.bind (idx s12.1 (w64 ((s12.1.length : Int) - 1))) fun x45 => some (x45.to_ == s12.2)) else (some false)) fun s44 => Option.bind (if s44 = true then Option.bind (idx s12.1 (w64 ((s12.1.length : Int) - 1))) fun x62 => Option.bind (setI s12.1 (w64 ((s12.1.length : Int) - 1)) ({ (x62 : cal_Span) with to_ := w64 (x62.to_ + 1) })) fun x73 => some x73 else Option.bind (appendL 8796093022208 s12.1 ([(⟨s12.2, w64 (s12.2 + 1)⟩ : cal_Span)] : List cal_Span)) fun x84 => some x84) fun s52 => some s52) fun s27 => some (.nx (s27, w64 (s12.2 + 1))) else some (.bk (s12.1, s12.2))) (([] : (List cal_Span)), from_)) fun o1 => o1.andThen (fun y => some y) fun s2 =>
  some s2.1

/-- porterslodge portref2 OffsetIn -/
def portref2_OffsetIn (z : cal_Zone) (m : Int) : Option Int :=
  Option.bind (rangeB (fun k17 s23 => Option.bind (Option.bind (idx z.changes (k17 : Int)) fun x44 => Option.bind (if (decide (x44.at_ ≤ m)) = true then some x44.offset else some s23) fun s59 => some s59) fun s37 => some (.nx s37)) z.changes.length 0 z.offset) fun o14 => o14.andThen (fun y => some y) fun s15 =>
  some s15

/-- porterslodge portref2 LocalIn -/
def portref2_LocalIn (z : cal_Zone) (m : Int) : Option (Int × Int) :=
  Option.bind (portref2_OffsetIn z m) fun x12 =>
  Option.bind (portref2_floorDiv (w64 (m + x12)) 1440) fun x16 =>
  some (x16.1, x16.2)

def portref2_Clock_shifts (k : cal_Calendar) (day : Int) : Option (List cal_Shift) := portref2_ShiftsIn k day

/-- porterslodge portref2 Clock Open -/
def portref2_Clock_Open (k_ : cal_Calendar) (m : Int) : Option Bool :=
  Option.bind (portref2_LocalIn k_.zone m) fun x6 =>
  Option.bind (portref2_Clock_shifts k_ x6.1) fun x10 =>
  Option.bind (rangeB (fun k20 _ => Option.bind (idx x10 (k20 : Int)) fun x39 => if ((decide (x39.from_ ≤ x6.2)) && (decide (x6.2 < x39.to_))) = true then some (.rt true) else some (.nx ())) x10.length 0 ()) fun o17 => o17.andThen (fun y => some y) fun s18 =>
  Option.bind (portref2_Clock_shifts k_ (w64 (x6.1 - 1))) fun x60 =>
  Option.bind (rangeB (fun k70 _ => Option.bind (idx x60 (k70 : Int)) fun x89 => if ((decide (x89.from_ ≤ (w64 (x6.2 + 1440)))) && (decide ((w64 (x6.2 + 1440)) < x89.to_))) = true then some (.rt true) else some (.nx ())) x60.length 0 ()) fun o67 => o67.andThen (fun y => some y) fun s68 =>
  some false

/-- porterslodge portref2 CommonIn 1 -/
def portref2_CommonIn_1 (m : Int) (p1 : (List cal_Calendar)) (p2 : Int) : Option Bool :=
  Option.bind (rangeB (fun k6 s12 => Option.bind (Option.bind (idx p1 (k6 : Int)) fun x33 => Option.bind (portref2_Clock_Open x33 m) fun x39 => Option.bind (if x39 = true then some (w64 (s12 + 1)) else some s12) fun s45 => some s45) fun s26 => some (.nx s26)) p1.length 0 0) fun o3 => o3.andThen (fun y => some y) fun s4 =>
  some (decide (p2 ≤ s4))

/-- porterslodge portref2 CommonIn -/
noncomputable def portref2_CommonIn (l : (List cal_Calendar)) (need : Int) (from_ : Int) (to_ : Int) : Option ((List cal_Span) × Int) :=
  if (decide ((50 : Int) < (l.length : Int))) = true then
    some (([] : (List cal_Span)), 4)
  else
    Option.bind (rangeB (fun k18 s26 => Option.bind (idx l (k18 : Int)) fun x41 => Option.bind (portref2_CalendarFault x41) fun x76 => if (x76 != 0) = true then some (.rt (([] : (List cal_Span)), x76)) else Option.bind (portref2_NewClock x41) fun x91 => Option.bind (appendL 17592186044416 s26 [x91]) fun x105 => some (.nx x105)) l.length 0 ([] : (List cal_Calendar))) fun o15 => o15.andThen (fun y => some y) fun s16 =>
    if ((decide (need < 1)) || (decide ((50 : Int) < need))) = true then
      some (([] : (List cal_Span)), 2)
    else
      if ((portref2_rangeFault from_ to_) != 0) = true then
        some (([] : (List cal_Span)), (portref2_rangeFault from_ to_))
      else
        Option.bind (portref2_spansOf from_ to_ (fun y124 => portref2_CommonIn_1 y124 s16 need)) fun x125 =>
        if (decide ((50000 : Int) < (x125.length : Int))) = true then
          some (([] : (List cal_Span)), 4)
        else
          some (x125, 0)

/-- slices Equal porterslodge cal Span porterslodge cal Span -/
def slices_Equal_Lcal_Span_cal_Span (s1 : (List cal_Span)) (s2 : (List cal_Span)) : Option Bool :=
  if ((s1.length : Int) != (s2.length : Int)) = true then
    some false
  else
    Option.bind (rangeB (fun k9 _ => Option.bind (idx s1 (k9 : Int)) fun x29 => Option.bind (idx s2 (k9 : Int)) fun x34 => if (!(x29.from_ == x34.from_ && (x29.to_ == x34.to_))) = true then some (.rt false) else some (.nx ())) s1.length 0 ()) fun o6 => o6.andThen (fun y => some y) fun s7 =>
    some true

/-- porterslodge portlaw2 CalCommon -/
noncomputable def portlaw2_CalCommon (l : (List cal_Calendar)) (need : Int) (from_ : Int) (to_ : Int) : Option Bool :=
  Option.bind (cal_Common l need from_ to_) fun x3 =>
  Option.bind (portref2_CommonIn l need from_ to_) fun x9 =>
  Option.bind (if (x3.2 == x9.2) = true then (Option.bind (slices_Equal_Lcal_Span_cal_Span x3.1 x9.1) fun x26 => some x26) else (some false)) fun s18 =>
  some s18

end Go.Proofs.Ytoflhekllembeaa.M
