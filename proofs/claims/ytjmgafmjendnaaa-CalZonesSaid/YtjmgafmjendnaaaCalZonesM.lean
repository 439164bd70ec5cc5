/-
  Written by program (gen.py) from the IR of the dump: plain models of the functions.
-/
import Derived.Test.YtjmgafmjendnaaaPu
namespace Go.Proofs.Ytjmgafmjendnaaa.M
open Go Go.Pu
set_option linter.unusedVariables false

structure cal_Change where
  at_ : Int
  offset : Int

structure cal_Zone where
  offset : Int
  changes : (List cal_Change)

/-- porterslodge portref2 ZoneFault 1 -/
def portref2_ZoneFault_1 (n : Int) : Bool :=
  ((decide (n < (-1440))) || (decide ((1440 : Int) < n)))

/-- porterslodge portref2 ZoneFault -/
def portref2_ZoneFault (z : cal_Zone) : Option Int :=
  if (portref2_ZoneFault_1 z.offset) = true then
    some 2
  else
    if (decide ((60 : Int) < (z.changes.length : Int))) = true then
      some 4
    else
      Option.bind (rangeB (fun k32 s33 => Option.bind (idx z.changes (k32 : Int)) fun x43 => Option.bind (if ((decide (x43.at_ < 1)) || (decide ((3000000 : Int) < x43.at_))) = true then (some true) else (some (portref2_ZoneFault_1 x43.offset))) fun s61 => if s61 = true then some (.rt 2) else Option.bind (if (decide ((0 : Int) < (k32 : Int))) = true then (Option.bind (idx z.changes (w64 ((k32 : Int) - 1))) fun x75 => some (decide (x43.at_ ≤ x75.at_))) else (some false)) fun s68 => if s68 = true then some (.rt 5) else if (x43.offset == s33) = true then some (.rt 1) else some (.nx x43.offset)) z.changes.length 0 z.offset) fun o28 => o28.andThen (fun y => some y) fun s29 =>
      some 0

/-- porterslodge cal within -/
def cal_within (n : Int) (low : Int) (high : Int) : Bool :=
  ((decide (low ≤ n)) && (decide (n ≤ high)))

/-- porterslodge cal CheckZone -/
def cal_CheckZone (z : cal_Zone) : Option Int :=
  if (!(cal_within z.offset (-1440) 1440)) = true then
    some 2
  else
    if (decide ((60 : Int) < (z.changes.length : Int))) = true then
      some 4
    else
      Option.bind (rangeB (fun k34 s35 => Option.bind (idx z.changes (k34 : Int)) fun x45 => if ((!(cal_within x45.at_ 1 3000000)) || (!(cal_within x45.offset (-1440) 1440))) = true then some (.rt 2) else if (decide (x45.at_ ≤ s35.1)) = true then some (.rt 5) else if (x45.offset == s35.2) = true then some (.rt 1) else some (.nx (x45.at_, x45.offset))) z.changes.length 0 (0, z.offset)) fun o30 => o30.andThen (fun y => some y) fun s31 =>
      some 0

/-- porterslodge cal moment -/
def cal_moment (m : Int) : Int :=
  if (!(cal_within m 0 3000000)) = true then
    2
  else
    0

/-- cmp Or porterslodge api Errno -/
def cmp_Or_api_Errno (vals : (List Int)) : Option Int :=
  Option.bind (rangeB (fun k11 _ => Option.bind (idx vals (k11 : Int)) fun x22 => if (x22 != 0) = true then some (.rt x22) else some (.nx ())) vals.length 0 ()) fun o7 => o7.andThen (fun y => some y) fun s8 =>
  some 0

/-- porterslodge cal Zone offsetAt -/
def cal_Zone_offsetAt (z : cal_Zone) (m : Int) : Option Int :=
  Option.bind (rangeB (fun k21 s22 => Option.bind (Option.bind (idx z.changes (k21 : Int)) fun x35 => Option.bind (if (decide (x35.at_ ≤ m)) = true then some x35.offset else some s22) fun s49 => some s49) fun s33 => some (.nx s33)) z.changes.length 0 z.offset) fun o17 => o17.andThen (fun y => some y) fun s18 =>
  some s18

/-- porterslodge cal OffsetAt -/
def cal_OffsetAt (z : cal_Zone) (m : Int) : Option (Int × Int) :=
  Option.bind (cal_CheckZone z) fun x11 =>
  Option.bind (cmp_Or_api_Errno ([x11, (cal_moment m)] : List Int)) fun x18 =>
  if (x18 != 0) = true then
    some (0, x18)
  else
    Option.bind (cal_Zone_offsetAt z m) fun x23 =>
    some (x23, 0)

/-- porterslodge cal floor -/
def cal_floor (a_ : Int) (b : Int) : Option Int :=
  Option.bind (quo a_ b) fun x1 =>
  Option.bind (rem a_ b) fun x2 =>
  Option.bind (if (decide (x2 < 0)) = true then some (w64 (x1 - 1)) else some x1) fun s4 =>
  some s4

/-- porterslodge cal Local -/
def cal_Local (z : cal_Zone) (m : Int) : Option (Int × Int × Int) :=
  Option.bind (cal_CheckZone z) fun x11 =>
  Option.bind (cmp_Or_api_Errno ([x11, (cal_moment m)] : List Int)) fun x18 =>
  if (x18 != 0) = true then
    some (0, 0, x18)
  else
    Option.bind (cal_Zone_offsetAt z m) fun x23 =>
    Option.bind (cal_floor (w64 (m + x23)) 1440) fun x26 =>
    some (x26, w64 ((w64 (m + x23)) - (w64 (x26 * 1440))), 0)

/-- porterslodge portref2 IsMoment -/
def portref2_IsMoment (m : Int) : Bool :=
  ((decide ((0 : Int) ≤ m)) && (decide (m ≤ 3000000)))

/-- porterslodge portref2 OffsetIn -/
def portref2_OffsetIn (z : cal_Zone) (m : Int) : Option Int :=
  Option.bind (rangeB (fun k21 s22 => Option.bind (Option.bind (idx z.changes (k21 : Int)) fun x35 => Option.bind (if (decide (x35.at_ ≤ m)) = true then some x35.offset else some s22) fun s49 => some s49) fun s33 => some (.nx s33)) z.changes.length 0 z.offset) fun o17 => o17.andThen (fun y => some y) fun s18 =>
  some s18

/-- porterslodge portref2 floorDiv -/
def portref2_floorDiv (a_ : Int) (b : Int) : Option (Int × Int) :=
  Option.bind (quo a_ b) fun x1 =>
  Option.bind (rem a_ b) fun x2 =>
  Option.bind (if (decide (x2 < 0)) = true then some (w64 (x1 - 1), w64 (x2 + b)) else some (x1, x2)) fun s6 =>
  some (s6.1, s6.2)

/-- porterslodge portref2 LocalIn -/
def portref2_LocalIn (z : cal_Zone) (m : Int) : Option (Int × Int) :=
  Option.bind (portref2_OffsetIn z m) fun x11 =>
  Option.bind (portref2_floorDiv (w64 (m + x11)) 1440) fun x14 =>
  some (x14.1, x14.2)

/-- porterslodge portlaw2 CalZones -/
def portlaw2_CalZones (z : cal_Zone) (m : Int) : Option Bool :=
  Option.bind (portref2_ZoneFault z) fun x11 =>
  Option.bind (cal_CheckZone z) fun x17 =>
  if (x17 != x11) = true then
    some false
  else
    Option.bind (cal_OffsetAt z m) fun x24 =>
    Option.bind (cal_Local z m) fun x30 =>
    Option.bind (if ((x11 == 0) && (!(portref2_IsMoment m))) = true then some 2 else some x11) fun s37 =>
    if (s37 != 0) = true then
      some (((((x24.1 == 0) && (x30.1 == 0)) && (x30.2.1 == 0)) && (x24.2 == s37)) && (x30.2.2 == s37))
    else
      Option.bind (portref2_LocalIn z m) fun x59 =>
      Option.bind (portref2_OffsetIn z m) fun x65 =>
      some (((((x24.1 == x65) && (x30.1 == x59.1)) && (x30.2.1 == x59.2)) && (x24.2 == 0)) && (x30.2.2 == 0))

end Go.Proofs.Ytjmgafmjendnaaa.M
