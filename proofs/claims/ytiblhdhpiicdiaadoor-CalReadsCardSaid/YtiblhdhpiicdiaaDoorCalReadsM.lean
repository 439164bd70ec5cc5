/-
  Written by program (gen.py) from the IR of the dump: plain models of the functions.
-/
import Derived.Test.YtiblhdhpiicdiaaDoorPu
import Derived.Lib.Index
import Derived.Lib.AtoiAll
import Derived.Lib.ItoaNum
import Derived.Lib.SlTrimSet
namespace Go.Proofs.YtiblhdhpiicdiaaDoor.M
open Go Go.Pu
set_option linter.unusedVariables false
set_option linter.unusedSimpArgs false

structure cal_Change where
  at_ : Int
  offset : Int

structure cal_Zone where
  offset : Int
  changes : (List cal_Change)

structure cal_part where
  from_ : Int
  to_ : Int
  offset : Int

/-- porterslodge cal within -/
def cal_within (n : Int) (low : Int) (high : Int) : Bool :=
  ((decide (low ≤ n)) && (decide (n ≤ high)))

/-- porterslodge cal CheckZone -/
def cal_CheckZone (z : cal_Zone) : Option Int :=
  if (!(cal_within z.offset (-1440) 1440)) = true then
    some 2
  else
    if (decide ((60 : Int) < (z.changes.length : Int))) = true then
      some 4
    else
      Option.bind (rangeB (fun k27 s33 => Option.bind (idx z.changes (k27 : Int)) fun x46 => if ((!(cal_within x46.at_ 1 3000000)) || (!(cal_within x46.offset (-1440) 1440))) = true then some (.rt 2) else if (decide (x46.at_ ≤ s33.1)) = true then some (.rt 5) else if (x46.offset == s33.2) = true then some (.rt 1) else some (.nx (x46.at_, x46.offset))) z.changes.length 0 (0, z.offset)) fun o24 => o24.andThen (fun y => some y) fun s25 =>
      some 0

/-- internal/stringslite.Index -/
def internal_stringslite_Index (s : ByteArray) (substr : ByteArray) : Option Int :=
  match substr.data.toList with
  | [c] => some (Go.Lib.indexByte s.data.toList c)
  | _ => none

/-- internal stringslite Cut -/
def internal_stringslite_Cut (s : ByteArray) (sep : ByteArray) : Option (ByteArray × ByteArray × Bool) :=
  Option.bind (internal_stringslite_Index s sep) fun x1 =>
  if (decide ((0 : Int) ≤ x1)) = true then
    Option.bind (sliceS s none (some x1)) fun x6 =>
    Option.bind (sliceS s (some (w64 (x1 + (sep.size : Int)))) none) fun x7 =>
    some (x6, x7, true)
  else
    some (s, (⟨#[]⟩ : ByteArray), false)

/-- strings Cut -/
def strings_Cut (s : ByteArray) (sep : ByteArray) : Option (ByteArray × ByteArray × Bool) :=
  Option.bind (internal_stringslite_Cut s sep) fun x1 =>
  some (x1.1, x1.2.1, x1.2.2)

/-- strconv.Atoi -/
def strconv_Atoi (s : ByteArray) : Option (Int × Bool) :=
  if s.size ≤ 281474976710656 then some (match Go.Lib.atoiAll s.data.toList with | .ok v => (v, false) | .range => (Go.Lib.atoiSat s.data.toList, true) | _ => (0, true)) else none

/-- strconv.Itoa -/
def strconv_Itoa (n : Int) : Option ByteArray :=
  if -9223372036854775808 ≤ n ∧ n ≤ 9223372036854775807 then some ⟨(Go.Lib.itoa n).toArray⟩ else none

/-- internal stringslite HasPrefix -/
def internal_stringslite_HasPrefix (s : ByteArray) (prefix_ : ByteArray) : Option Bool :=
  Option.bind (if (decide ((prefix_.size : Int) ≤ (s.size : Int))) = true then (Option.bind (sliceS s none (some (prefix_.size : Int))) fun x3 => some (strEq x3 prefix_)) else (some false)) fun s2 =>
  some s2

/-- internal stringslite TrimPrefix -/
def internal_stringslite_TrimPrefix (s : ByteArray) (prefix_ : ByteArray) : Option ByteArray :=
  Option.bind (internal_stringslite_HasPrefix s prefix_) fun x1 =>
  if x1 = true then
    Option.bind (sliceS s (some (prefix_.size : Int)) none) fun x3 =>
    some x3
  else
    some s

/-- strings TrimPrefix -/
def strings_TrimPrefix (s : ByteArray) (prefix_ : ByteArray) : Option ByteArray :=
  Option.bind (internal_stringslite_TrimPrefix s prefix_) fun x1 =>
  some x1

/-- porterslodge cal number -/
def cal_number (s : ByteArray) (digits : Int) : Option (Int × Bool) :=
  Option.bind (strconv_Atoi s) fun x1 =>
  Option.bind (if x1.2 = true then (if true = true then (some true) else (Option.bind (strings_TrimPrefix s (⟨#[45]⟩ : ByteArray)) fun x18 => some (decide (digits < (x18.size : Int))))) else (Option.bind (strconv_Itoa x1.1) fun x20 => if (!(strEq x20 s)) = true then (some true) else (Option.bind (strings_TrimPrefix s (⟨#[45]⟩ : ByteArray)) fun x26 => some (decide (digits < (x26.size : Int)))))) fun s8 =>
  if s8 = true then
    some (0, false)
  else
    some (x1.1, true)

/-- porterslodge cal twoDigits -/
def cal_twoDigits (s : ByteArray) (most : Int) : Option (Int × Bool) :=
  Option.bind (catS (⟨#[49]⟩ : ByteArray) s) fun x1 =>
  Option.bind (cal_number x1 3) fun x2 =>
  some (w64 (x2.1 - 100), ((x2.2 && ((s.size : Int) == 2)) && (decide ((w64 (x2.1 - 100)) ≤ most))))

/-- porterslodge cal localTime -/
def cal_localTime (day : Int) (minute : Int) : Int :=
  if ((!(cal_within day (-1) 2084)) || (!(cal_within minute 0 1439))) = true then
    2
  else
    0

/-- cmp Or porterslodge api Errno -/
def cmp_Or_api_Errno (vals : (List Int)) : Option Int :=
  Option.bind (rangeB (fun k6 _ => Option.bind (idx vals (k6 : Int)) fun x21 => if (x21 != 0) = true then some (.rt x21) else some (.nx ())) vals.length 0 ()) fun o3 => o3.andThen (fun y => some y) fun s4 =>
  some 0

/-- porterslodge cal Zone parts -/
def cal_Zone_parts (z : cal_Zone) : Option (List cal_part) :=
  Option.bind (rangeB (fun k24 s32 => Option.bind (idx z.changes (k24 : Int)) fun x47 => Option.bind (idx s32 (w64 ((s32.length : Int) - 1))) fun x61 => Option.bind (setI s32 (w64 ((s32.length : Int) - 1)) ({ (x61 : cal_part) with to_ := x47.at_ })) fun x67 => Option.bind (appendL 5864062014805 x67 ([(⟨x47.at_, 3000001, x47.offset⟩ : cal_part)] : List cal_part)) fun x78 => some (.nx x78)) z.changes.length 0 ([(⟨0, 3000001, z.offset⟩ : cal_part)] : List cal_part)) fun o21 => o21.andThen (fun y => some y) fun s22 =>
  some s22

/-- porterslodge cal Shown -/
def cal_Shown (z : cal_Zone) (day : Int) (minute : Int) : Option ((List Int) × Int) :=
  Option.bind (cal_CheckZone z) fun x12 =>
  Option.bind (cmp_Or_api_Errno ([x12, (cal_localTime day minute)] : List Int)) fun x22 =>
  if (x22 != 0) = true then
    some (([] : (List Int)), x22)
  else
    Option.bind (cal_Zone_parts z) fun x27 =>
    Option.bind (rangeB (fun k38 s46 => Option.bind (Option.bind (idx x27 (k38 : Int)) fun x71 => Option.bind (if ((decide (x71.from_ ≤ (w64 ((w64 ((w64 (day * 1440)) + minute)) - x71.offset)))) && (decide ((w64 ((w64 ((w64 (day * 1440)) + minute)) - x71.offset)) < x71.to_))) = true then Option.bind (appendL 17592186044416 s46 ([w64 ((w64 ((w64 (day * 1440)) + minute)) - x71.offset)] : List Int)) fun x107 => some x107 else some s46) fun s91 => some s91) fun s62 => some (.nx s62)) x27.length 0 ([] : (List Int))) fun o35 => o35.andThen (fun y => some y) fun s36 =>
    some (s36, 0)

/-- porterslodge cal ReadMoment -/
def cal_ReadMoment (z : cal_Zone) (s : ByteArray) : Option (Int × Int) :=
  Option.bind (cal_CheckZone z) fun x12 =>
  if (x12 != 0) = true then
    some (0, x12)
  else
    Option.bind (strings_Cut s (⟨#[47]⟩ : ByteArray)) fun x17 =>
    Option.bind (strings_Cut x17.1 (⟨#[46]⟩ : ByteArray)) fun x21 =>
    Option.bind (strings_Cut x21.2.1 (⟨#[58]⟩ : ByteArray)) fun x25 =>
    Option.bind (cal_number x21.1 4) fun x29 =>
    Option.bind (cal_twoDigits x25.1 23) fun x33 =>
    Option.bind (cal_twoDigits x25.2.1 59) fun x37 =>
    Option.bind (if x17.2.2 = true then Option.bind (cal_number x17.2.1 2) fun x50 => some (x50.1, (x50.2 && (decide ((2 : Int) ≤ x50.1)))) else some (1, true)) fun s42 =>
    if ((((((!x21.2.2) || (!x25.2.2)) || (!x29.2)) || (!x33.2)) || (!x37.2)) || (!s42.2)) = true then
      some (0, 8)
    else
      Option.bind (cal_Shown z x29.1 (w64 ((w64 (60 * x33.1)) + x37.1))) fun x72 =>
      if ((x72.2 != 0) || (decide ((x72.1.length : Int) < s42.1))) = true then
        some (0, 7)
      else
        Option.bind (idx x72.1 (w64 (s42.1 - 1))) fun x83 =>
        some (x83, 0)

/-- porterslodge portref2 ZoneFault 1 -/
def portref2_ZoneFault_1 (n : Int) : Bool :=
  ((decide (n < (-1440))) || (decide ((1440 : Int) < n)))

/-- porterslodge portref2 ZoneFault -/
def portref2_ZoneFault (z : cal_Zone) : Option Int :=
  if (portref2_ZoneFault_1 z.offset) = true then
    some 2
  else
    if (decide ((60 : Int) < (z.changes.length : Int))) = true then
      some 4
    else
      Option.bind (rangeB (fun k24 s30 => Option.bind (idx z.changes (k24 : Int)) fun x43 => Option.bind (if (decide (x43.at_ < 1)) = true then (if true = true then (some true) else (some (portref2_ZoneFault_1 x43.offset))) else (if (decide ((3000000 : Int) < x43.at_)) = true then (some true) else (some (portref2_ZoneFault_1 x43.offset)))) fun s57 => if s57 = true then some (.rt 2) else Option.bind (if (decide ((0 : Int) < (k24 : Int))) = true then (Option.bind (idx z.changes (w64 ((k24 : Int) - 1))) fun x83 => some (decide (x43.at_ ≤ x83.at_))) else (some false)) fun s77 => if s77 = true then some (.rt 5) else if (x43.offset == s30) = true then some (.rt 1) else some (.nx x43.offset)) z.changes.length 0 z.offset) fun o21 => o21.andThen (fun y => some y) fun s22 =>
      some 0

/-- strings.Trim -/
def strings_Trim (s : ByteArray) (cutset : ByteArray) : Option ByteArray :=
  if s.size ≤ 9223372036854775807 ∧ cutset.size < 4294967281 ∧ (cutset.data.toList.all fun b => decide (b.toNat < 128)) = true then some ⟨(Go.Lib.trimS s.data.toList cutset.data.toList).toArray⟩ else none

/-- porterslodge portref2 digits -/
def portref2_digits (s : ByteArray) (most : Int) : Option Bool :=
  Option.bind (if (!(strEq s (⟨#[]⟩ : ByteArray))) = true then (if (decide ((s.size : Int) ≤ most)) = true then (Option.bind (strings_Trim s (⟨#[48, 49, 50, 51, 52, 53, 54, 55, 56, 57]⟩ : ByteArray)) fun x11 => if (strEq x11 (⟨#[]⟩ : ByteArray)) = true then (if ((s.size : Int) == 1) = true then (some true) else (Option.bind (idxS s 0) fun x18 => some ((x18.toNat : Int) != 48))) else (some false)) else (if false = true then (if ((s.size : Int) == 1) = true then (some true) else (Option.bind (idxS s 0) fun x24 => some ((x24.toNat : Int) != 48))) else (some false))) else (if false = true then (Option.bind (strings_Trim s (⟨#[48, 49, 50, 51, 52, 53, 54, 55, 56, 57]⟩ : ByteArray)) fun x28 => if (strEq x28 (⟨#[]⟩ : ByteArray)) = true then (if ((s.size : Int) == 1) = true then (some true) else (Option.bind (idxS s 0) fun x35 => some ((x35.toNat : Int) != 48))) else (some false)) else (if false = true then (if ((s.size : Int) == 1) = true then (some true) else (Option.bind (idxS s 0) fun x41 => some ((x41.toNat : Int) != 48))) else (some false)))) fun s2 =>
  some s2

/-- porterslodge portref2 number -/
def portref2_number (s : ByteArray) (most : Int) : Option (Int × Bool) :=
  Option.bind (strings_TrimPrefix s (⟨#[45]⟩ : ByteArray)) fun x1 =>
  Option.bind (portref2_digits x1 most) fun x2 =>
  if ((!x2) || ((strEq x1 (⟨#[48]⟩ : ByteArray)) && (!(strEq s (⟨#[48]⟩ : ByteArray))))) = true then
    some (0, false)
  else
    Option.bind (strconv_Atoi s) fun x11 =>
    some (x11.1, (!x11.2))

/-- porterslodge portref2 OffsetIn -/
def portref2_OffsetIn (z : cal_Zone) (m : Int) : Option Int :=
  Option.bind (rangeB (fun k17 s23 => Option.bind (Option.bind (idx z.changes (k17 : Int)) fun x44 => Option.bind (if (decide (x44.at_ ≤ m)) = true then some x44.offset else some s23) fun s59 => some s59) fun s37 => some (.nx s37)) z.changes.length 0 z.offset) fun o14 => o14.andThen (fun y => some y) fun s15 =>
  some s15

/-- porterslodge portref2 ShownIn -/
noncomputable def portref2_ShownIn (z : cal_Zone) (day : Int) (minute : Int) : Option (List Int) :=
  Option.bind (whileB (fun s20 => if (decide (s20.2 ≤ (if w64 ((w64 ((w64 (day * 1440)) + minute)) + 1440) < 3000000 then w64 ((w64 ((w64 (day * 1440)) + minute)) + 1440) else 3000000))) = true then Option.bind (Option.bind (portref2_OffsetIn z s20.2) fun x47 => Option.bind (if ((w64 (s20.2 + x47)) == (w64 ((w64 (day * 1440)) + minute))) = true then Option.bind (appendL 17592186044416 s20.1 ([s20.2] : List Int)) fun x67 => some x67 else some s20.1) fun s52 => some s52) fun s35 => some (.nx (s35, w64 (s20.2 + 1))) else some (.bk (s20.1, s20.2))) (([] : (List Int)), (if 0 < w64 ((w64 ((w64 (day * 1440)) + minute)) - 1440) then w64 ((w64 ((w64 (day * 1440)) + minute)) - 1440) else 0))) fun o9 => o9.andThen (fun y => some y) fun s10 =>
  some s10.1

/-- porterslodge portref2 ReadMomentOf -/
noncomputable def portref2_ReadMomentOf (z : cal_Zone) (s : ByteArray) : Option (Int × Int) :=
  Option.bind (portref2_ZoneFault z) fun x12 =>
  if (x12 != 0) = true then
    some (0, x12)
  else
    Option.bind (strings_Cut s (⟨#[46]⟩ : ByteArray)) fun x17 =>
    Option.bind (portref2_number x17.1 4) fun x21 =>
    Option.bind (if (((!x17.2.2) || (!x21.2)) || (decide ((x17.2.1.size : Int) < 5))) = true then (some true) else (Option.bind (idxS x17.2.1 2) fun x31 => some ((x31.toNat : Int) != 58))) fun s30 =>
    Option.bind (if s30 = true then (some true) else (Option.bind (sliceS x17.2.1 none (some 2)) fun x34 => Option.bind (sliceS x17.2.1 (some 3) (some 5)) fun x35 => Option.bind (catS x34 x35) fun x36 => Option.bind (strings_Trim x36 (⟨#[48, 49, 50, 51, 52, 53, 54, 55, 56, 57]⟩ : ByteArray)) fun x37 => some (!(strEq x37 (⟨#[]⟩ : ByteArray))))) fun s33 =>
    if s33 = true then
      some (0, 8)
    else
      Option.bind (sliceS x17.2.1 none (some 2)) fun x42 =>
      Option.bind (strconv_Atoi x42) fun x43 =>
      Option.bind (sliceS x17.2.1 (some 3) (some 5)) fun x49 =>
      Option.bind (strconv_Atoi x49) fun x50 =>
      Option.bind (α := Lp _ _) (if (decide ((5 : Int) < (x17.2.1.size : Int))) = true then Option.bind (Option.bind (idxS x17.2.1 5) fun x73 => if ((x73.toNat : Int) != 47) = true then (some true) else (Option.bind (sliceS x17.2.1 (some 6) none) fun x76 => Option.bind (portref2_digits x76 2) fun x77 => some (!x77))) fun s66 => if s66 = true then some (.rt (0, 8)) else Option.bind (sliceS x17.2.1 (some 6) none) fun x83 => Option.bind (strconv_Atoi x83) fun x84 => if (decide (x84.1 < 2)) = true then some (.rt (0, 8)) else some (.fin x84.1) else some (.fin 1)) fun o56 => o56.andThen (fun y => some y) fun s57 =>
      if ((decide ((23 : Int) < x43.1)) || (decide ((59 : Int) < x50.1))) = true then
        some (0, 8)
      else
        Option.bind (portref2_ShownIn z x21.1 (w64 ((w64 (x43.1 * 60)) + x50.1))) fun x99 =>
        if (decide ((x99.length : Int) < s57)) = true then
          some (0, 7)
        else
          Option.bind (idx x99 (w64 (s57 - 1))) fun x108 =>
          some (x108, 0)

/-- porterslodge portlaw2 CalReads -/
noncomputable def portlaw2_CalReads (z : cal_Zone) (s : ByteArray) : Option Bool :=
  Option.bind (cal_ReadMoment z s) fun x12 =>
  Option.bind (portref2_ReadMomentOf z s) fun x19 =>
  some ((x12.1 == x19.1) && (x12.2 == x19.2))

end Go.Proofs.YtiblhdhpiicdiaaDoor.M
