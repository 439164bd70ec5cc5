/-
  Written by program (gen.py) from the IR of the dump: plain models of the functions.
-/
import Derived.Test.YtkdkejikbcdadaaDoorPu
import Derived.Lib.ItoaNum
namespace Go.Proofs.YtkdkejikbcdadaaDoor.M
open Go Go.Pu
set_option linter.unusedVariables false
set_option linter.unusedSimpArgs false

structure cal_Change where
  at_ : Int
  offset : Int

structure cal_Zone where
  offset : Int
  changes : (List cal_Change)

structure cal_part where
  from_ : Int
  to_ : Int
  offset : Int

/-- porterslodge cal within -/
def cal_within (n : Int) (low : Int) (high : Int) : Bool :=
  ((decide (low ≤ n)) && (decide (n ≤ high)))

/-- porterslodge cal CheckZone -/
def cal_CheckZone (z : cal_Zone) : Option Int :=
  if (!(cal_within z.offset (-1440) 1440)) = true then
    some 2
  else
    if (decide ((60 : Int) < (z.changes.length : Int))) = true then
      some 4
    else
      Option.bind (rangeB (fun k27 s33 => Option.bind (idx z.changes (k27 : Int)) fun x46 => if ((!(cal_within x46.at_ 1 3000000)) || (!(cal_within x46.offset (-1440) 1440))) = true then some (.rt 2) else if (decide (x46.at_ ≤ s33.1)) = true then some (.rt 5) else if (x46.offset == s33.2) = true then some (.rt 1) else some (.nx (x46.at_, x46.offset))) z.changes.length 0 (0, z.offset)) fun o24 => o24.andThen (fun y => some y) fun s25 =>
      some 0

/-- porterslodge cal moment -/
def cal_moment (m : Int) : Int :=
  if (!(cal_within m 0 3000000)) = true then
    2
  else
    0

/-- cmp Or porterslodge api Errno -/
def cmp_Or_api_Errno (vals : (List Int)) : Option Int :=
  Option.bind (rangeB (fun k6 _ => Option.bind (idx vals (k6 : Int)) fun x21 => if (x21 != 0) = true then some (.rt x21) else some (.nx ())) vals.length 0 ()) fun o3 => o3.andThen (fun y => some y) fun s4 =>
  some 0

/-- porterslodge cal Zone offsetAt -/
def cal_Zone_offsetAt (z : cal_Zone) (m : Int) : Option Int :=
  Option.bind (rangeB (fun k17 s23 => Option.bind (Option.bind (idx z.changes (k17 : Int)) fun x44 => Option.bind (if (decide (x44.at_ ≤ m)) = true then some x44.offset else some s23) fun s59 => some s59) fun s37 => some (.nx s37)) z.changes.length 0 z.offset) fun o14 => o14.andThen (fun y => some y) fun s15 =>
  some s15

/-- porterslodge cal floor -/
def cal_floor (a_ : Int) (b : Int) : Option Int :=
  Option.bind (quo a_ b) fun x1 =>
  Option.bind (rem a_ b) fun x2 =>
  Option.bind (if (decide (x2 < 0)) = true then some (w64 (x1 - 1)) else some x1) fun s4 =>
  some s4

/-- porterslodge cal Local -/
def cal_Local (z : cal_Zone) (m : Int) : Option (Int × Int × Int) :=
  Option.bind (cal_CheckZone z) fun x12 =>
  Option.bind (cmp_Or_api_Errno ([x12, (cal_moment m)] : List Int)) fun x21 =>
  if (x21 != 0) = true then
    some (0, 0, x21)
  else
    Option.bind (cal_Zone_offsetAt z m) fun x26 =>
    Option.bind (cal_floor (w64 (m + x26)) 1440) fun x30 =>
    some (x30, w64 ((w64 (m + x26)) - (w64 (x30 * 1440))), 0)

/-- strconv.Itoa -/
def strconv_Itoa (n : Int) : Option ByteArray :=
  if -9223372036854775808 ≤ n ∧ n ≤ 9223372036854775807 then some ⟨(Go.Lib.itoa n).toArray⟩ else none

/-- porterslodge cal two -/
def cal_two (n : Int) : Option ByteArray :=
  Option.bind (strconv_Itoa (w64 (100 + n))) fun x1 =>
  Option.bind (sliceS x1 (some 1) none) fun x5 =>
  some x5

/-- porterslodge cal localTime -/
def cal_localTime (day : Int) (minute : Int) : Int :=
  if ((!(cal_within day (-1) 2084)) || (!(cal_within minute 0 1439))) = true then
    2
  else
    0

/-- porterslodge cal Zone parts -/
def cal_Zone_parts (z : cal_Zone) : Option (List cal_part) :=
  Option.bind (rangeB (fun k24 s32 => Option.bind (idx z.changes (k24 : Int)) fun x47 => Option.bind (idx s32 (w64 ((s32.length : Int) - 1))) fun x61 => Option.bind (setI s32 (w64 ((s32.length : Int) - 1)) ({ (x61 : cal_part) with to_ := x47.at_ })) fun x67 => Option.bind (appendL 5864062014805 x67 ([(⟨x47.at_, 3000001, x47.offset⟩ : cal_part)] : List cal_part)) fun x78 => some (.nx x78)) z.changes.length 0 ([(⟨0, 3000001, z.offset⟩ : cal_part)] : List cal_part)) fun o21 => o21.andThen (fun y => some y) fun s22 =>
  some s22

/-- porterslodge cal Shown -/
def cal_Shown (z : cal_Zone) (day : Int) (minute : Int) : Option ((List Int) × Int) :=
  Option.bind (cal_CheckZone z) fun x12 =>
  Option.bind (cmp_Or_api_Errno ([x12, (cal_localTime day minute)] : List Int)) fun x21 =>
  if (x21 != 0) = true then
    some (([] : (List Int)), x21)
  else
    Option.bind (cal_Zone_parts z) fun x26 =>
    Option.bind (rangeB (fun k37 s45 => Option.bind (Option.bind (idx x26 (k37 : Int)) fun x70 => Option.bind (if ((decide (x70.from_ ≤ (w64 ((w64 ((w64 (day * 1440)) + minute)) - x70.offset)))) && (decide ((w64 ((w64 ((w64 (day * 1440)) + minute)) - x70.offset)) < x70.to_))) = true then Option.bind (appendL 17592186044416 s45 ([w64 ((w64 ((w64 (day * 1440)) + minute)) - x70.offset)] : List Int)) fun x105 => some x105 else some s45) fun s90 => some s90) fun s61 => some (.nx s61)) x26.length 0 ([] : (List Int))) fun o34 => o34.andThen (fun y => some y) fun s35 =>
    some (s35, 0)

/-- porterslodge cal MomentText -/
def cal_MomentText (z : cal_Zone) (m : Int) : Option (ByteArray × Int) :=
  Option.bind (cal_Local z m) fun x12 =>
  if (x12.2.2 != 0) = true then
    some ((⟨#[]⟩ : ByteArray), x12.2.2)
  else
    Option.bind (strconv_Itoa x12.1) fun x17 =>
    Option.bind (catS x17 (⟨#[46]⟩ : ByteArray)) fun x21 =>
    Option.bind (cal_two (w64 (Int.tdiv x12.2.1 60))) fun x22 =>
    Option.bind (catS x21 x22) fun x26 =>
    Option.bind (catS x26 (⟨#[58]⟩ : ByteArray)) fun x27 =>
    Option.bind (cal_two (Int.tmod x12.2.1 60)) fun x28 =>
    Option.bind (catS x27 x28) fun x32 =>
    Option.bind (cal_Shown z x12.1 x12.2.1) fun x36 =>
    Option.bind (rangeB (fun k47 s53 => Option.bind (Option.bind (idx x36.1 (k47 : Int)) fun x74 => Option.bind (if ((x74 == m) && (decide ((0 : Int) < (k47 : Int)))) = true then Option.bind (strconv_Itoa (w64 ((k47 : Int) + 1))) fun x90 => Option.bind (catS (⟨#[47]⟩ : ByteArray) x90) fun x94 => Option.bind (catS s53 x94) fun x95 => some x95 else some s53) fun s82 => some s82) fun s67 => some (.nx s67)) x36.1.length 0 x32) fun o44 => o44.andThen (fun y => some y) fun s45 =>
    some (s45, 0)

/-- porterslodge portref2 ZoneFault 1 -/
def portref2_ZoneFault_1 (n : Int) : Bool :=
  ((decide (n < (-1440))) || (decide ((1440 : Int) < n)))

/-- porterslodge portref2 ZoneFault -/
def portref2_ZoneFault (z : cal_Zone) : Option Int :=
  if (portref2_ZoneFault_1 z.offset) = true then
    some 2
  else
    if (decide ((60 : Int) < (z.changes.length : Int))) = true then
      some 4
    else
      Option.bind (rangeB (fun k24 s30 => Option.bind (idx z.changes (k24 : Int)) fun x43 => Option.bind (if (decide (x43.at_ < 1)) = true then (if true = true then (some true) else (some (portref2_ZoneFault_1 x43.offset))) else (if (decide ((3000000 : Int) < x43.at_)) = true then (some true) else (some (portref2_ZoneFault_1 x43.offset)))) fun s57 => if s57 = true then some (.rt 2) else Option.bind (if (decide ((0 : Int) < (k24 : Int))) = true then (Option.bind (idx z.changes (w64 ((k24 : Int) - 1))) fun x83 => some (decide (x43.at_ ≤ x83.at_))) else (some false)) fun s77 => if s77 = true then some (.rt 5) else if (x43.offset == s30) = true then some (.rt 1) else some (.nx x43.offset)) z.changes.length 0 z.offset) fun o21 => o21.andThen (fun y => some y) fun s22 =>
      some 0

/-- porterslodge portref2 IsMoment -/
def portref2_IsMoment (m : Int) : Bool :=
  ((decide ((0 : Int) ≤ m)) && (decide (m ≤ 3000000)))

/-- porterslodge portref2 OffsetIn -/
def portref2_OffsetIn (z : cal_Zone) (m : Int) : Option Int :=
  Option.bind (rangeB (fun k17 s23 => Option.bind (Option.bind (idx z.changes (k17 : Int)) fun x44 => Option.bind (if (decide (x44.at_ ≤ m)) = true then some x44.offset else some s23) fun s59 => some s59) fun s37 => some (.nx s37)) z.changes.length 0 z.offset) fun o14 => o14.andThen (fun y => some y) fun s15 =>
  some s15

/-- porterslodge portref2 floorDiv -/
def portref2_floorDiv (a_ : Int) (b : Int) : Option (Int × Int) :=
  Option.bind (quo a_ b) fun x1 =>
  Option.bind (rem a_ b) fun x2 =>
  Option.bind (if (decide (x2 < 0)) = true then some (w64 (x1 - 1), w64 (x2 + b)) else some (x1, x2)) fun s7 =>
  some (s7.1, s7.2)

/-- porterslodge portref2 LocalIn -/
def portref2_LocalIn (z : cal_Zone) (m : Int) : Option (Int × Int) :=
  Option.bind (portref2_OffsetIn z m) fun x12 =>
  Option.bind (portref2_floorDiv (w64 (m + x12)) 1440) fun x16 =>
  some (x16.1, x16.2)

/-- porterslodge portref2 two -/
def portref2_two (n : Int) : Option ByteArray :=
  some (⟨([(toU8 (w64 (48 + (w64 (Int.tdiv n 10))))), (toU8 (w64 (48 + (Int.tmod n 10))))] : List UInt8).toArray⟩ : ByteArray)

/-- porterslodge portref2 ShownIn -/
noncomputable def portref2_ShownIn (z : cal_Zone) (day : Int) (minute : Int) : Option (List Int) :=
  Option.bind (whileB (fun s20 => if (decide (s20.2 ≤ (if w64 ((w64 ((w64 (day * 1440)) + minute)) + 1440) < 3000000 then w64 ((w64 ((w64 (day * 1440)) + minute)) + 1440) else 3000000))) = true then Option.bind (Option.bind (portref2_OffsetIn z s20.2) fun x47 => Option.bind (if ((w64 (s20.2 + x47)) == (w64 ((w64 (day * 1440)) + minute))) = true then Option.bind (appendL 17592186044416 s20.1 ([s20.2] : List Int)) fun x67 => some x67 else some s20.1) fun s52 => some s52) fun s35 => some (.nx (s35, w64 (s20.2 + 1))) else some (.bk (s20.1, s20.2))) (([] : (List Int)), (if 0 < w64 ((w64 ((w64 (day * 1440)) + minute)) - 1440) then w64 ((w64 ((w64 (day * 1440)) + minute)) - 1440) else 0))) fun o9 => o9.andThen (fun y => some y) fun s10 =>
  some s10.1

/-- slices Index int int -/
def slices_Index_Lint_int (s : (List Int)) (v : Int) : Option Int :=
  Option.bind (rangeB (fun k6 _ => Option.bind (idx s (k6 : Int)) fun x21 => if (v == x21) = true then some (.rt (k6 : Int)) else some (.nx ())) s.length 0 ()) fun o3 => o3.andThen (fun y => some y) fun s4 =>
  some (-1)

/-- porterslodge portref2 MomentString -/
noncomputable def portref2_MomentString (z : cal_Zone) (m : Int) : Option (ByteArray × Int) :=
  Option.bind (portref2_ZoneFault z) fun x12 =>
  if (x12 != 0) = true then
    some ((⟨#[]⟩ : ByteArray), x12)
  else
    if (!(portref2_IsMoment m)) = true then
      some ((⟨#[]⟩ : ByteArray), 2)
    else
      Option.bind (portref2_LocalIn z m) fun x21 =>
      Option.bind (strconv_Itoa x21.1) fun x25 =>
      Option.bind (catS x25 (⟨#[46]⟩ : ByteArray)) fun x29 =>
      Option.bind (portref2_two (w64 (Int.tdiv x21.2 60))) fun x30 =>
      Option.bind (catS x29 x30) fun x34 =>
      Option.bind (catS x34 (⟨#[58]⟩ : ByteArray)) fun x35 =>
      Option.bind (portref2_two (Int.tmod x21.2 60)) fun x36 =>
      Option.bind (catS x35 x36) fun x40 =>
      Option.bind (portref2_ShownIn z x21.1 x21.2) fun x44 =>
      Option.bind (slices_Index_Lint_int x44 m) fun x52 =>
      Option.bind (if (decide ((0 : Int) < x52)) = true then Option.bind (strconv_Itoa (w64 (x52 + 1))) fun x62 => Option.bind (catS (⟨#[47]⟩ : ByteArray) x62) fun x66 => Option.bind (catS x40 x66) fun x67 => some x67 else some x40) fun s54 =>
      some (s54, 0)

/-- porterslodge portlaw2 CalMoments -/
noncomputable def portlaw2_CalMoments (z : cal_Zone) (m : Int) : Option Bool :=
  Option.bind (cal_MomentText z m) fun x12 =>
  Option.bind (portref2_MomentString z m) fun x19 =>
  some ((strEq x12.1 x19.1) && (x12.2 == x19.2))

end Go.Proofs.YtkdkejikbcdadaaDoor.M
