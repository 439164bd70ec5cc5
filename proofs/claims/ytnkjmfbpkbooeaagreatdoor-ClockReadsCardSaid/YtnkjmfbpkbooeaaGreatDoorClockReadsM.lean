/-
  Written by program (gen.py) from the IR of the dump: plain models of the functions.
-/
import Derived.Test.YtnkjmfbpkbooeaaGreatDoorPu
import Derived.Lib.AtoiAll
import Derived.Lib.ItoaNum
import Derived.Lib.Index
import Derived.Lib.SlTrimSet
import Derived.Lib.Split
namespace Go.Proofs.YtnkjmfbpkbooeaaGreatDoor.M
open Go Go.Pu
set_option linter.unusedVariables false
set_option linter.unusedSimpArgs false

structure level_Piece where
  from_ : Int
  to_ : Int
  calendar : Int

structure level_Clock where
  kind : Int
  level : Int
  minutes : Int
  start : Int
  stop : Int
  end_ : Int
  pieces : (List level_Piece)

/-- internal stringslite HasSuffix -/
def internal_stringslite_HasSuffix (s : ByteArray) (suffix : ByteArray) : Option Bool :=
  Option.bind (if (decide ((suffix.size : Int) ≤ (s.size : Int))) = true then (Option.bind (sliceS s (some (w64 ((s.size : Int) - (suffix.size : Int)))) none) fun x3 => some (strEq x3 suffix)) else (some false)) fun s2 =>
  some s2

/-- internal stringslite CutSuffix -/
def internal_stringslite_CutSuffix (s : ByteArray) (suffix : ByteArray) : Option (ByteArray × Bool) :=
  Option.bind (internal_stringslite_HasSuffix s suffix) fun x1 =>
  if (!x1) = true then
    some (s, false)
  else
    Option.bind (sliceS s none (some (w64 ((s.size : Int) - (suffix.size : Int))))) fun x3 =>
    some (x3, true)

/-- strings CutSuffix -/
def strings_CutSuffix (s : ByteArray) (suffix : ByteArray) : Option (ByteArray × Bool) :=
  Option.bind (internal_stringslite_CutSuffix s suffix) fun x1 =>
  some (x1.1, x1.2)

/-- strings.genSplit -/
def strings_genSplit (s : ByteArray) (sep : ByteArray) (sepSave : Int) (n : Int) : Option (List ByteArray) :=
  if s.size < 4294967281 ∧ 1 ≤ sep.size ∧ 0 ≤ sepSave ∧ sepSave ≤ (sep.size : Int) ∧ n = -1 then some (Go.Lib.splitB sep sepSave.toNat (min (Go.Lib.countB s sep + 1) (s.size + 1) - 1) s) else none

/-- strings Split -/
def strings_Split (s : ByteArray) (sep : ByteArray) : Option (List ByteArray) :=
  Option.bind (strings_genSplit s sep 0 (-1)) fun x1 =>
  some x1

/-- strconv.Atoi -/
def strconv_Atoi (s : ByteArray) : Option (Int × Bool) :=
  if s.size ≤ 281474976710656 then some (match Go.Lib.atoiAll s.data.toList with | .ok v => (v, false) | .range => (Go.Lib.atoiSat s.data.toList, true) | _ => (0, true)) else none

/-- strconv.Itoa -/
def strconv_Itoa (n : Int) : Option ByteArray :=
  if -9223372036854775808 ≤ n ∧ n ≤ 9223372036854775807 then some ⟨(Go.Lib.itoa n).toArray⟩ else none

/-- internal stringslite HasPrefix -/
def internal_stringslite_HasPrefix (s : ByteArray) (prefix_ : ByteArray) : Option Bool :=
  Option.bind (if (decide ((prefix_.size : Int) ≤ (s.size : Int))) = true then (Option.bind (sliceS s none (some (prefix_.size : Int))) fun x3 => some (strEq x3 prefix_)) else (some false)) fun s2 =>
  some s2

/-- internal stringslite TrimPrefix -/
def internal_stringslite_TrimPrefix (s : ByteArray) (prefix_ : ByteArray) : Option ByteArray :=
  Option.bind (internal_stringslite_HasPrefix s prefix_) fun x1 =>
  if x1 = true then
    Option.bind (sliceS s (some (prefix_.size : Int)) none) fun x3 =>
    some x3
  else
    some s

/-- strings TrimPrefix -/
def strings_TrimPrefix (s : ByteArray) (prefix_ : ByteArray) : Option ByteArray :=
  Option.bind (internal_stringslite_TrimPrefix s prefix_) fun x1 =>
  some x1

/-- porterslodge level number -/
def level_number (s : ByteArray) (digits : Int) : Option (Int × Bool) :=
  Option.bind (strconv_Atoi s) fun x1 =>
  Option.bind (if x1.2 = true then (if true = true then (some true) else (Option.bind (strings_TrimPrefix s (⟨#[45]⟩ : ByteArray)) fun x18 => some (decide (digits < (x18.size : Int))))) else (Option.bind (strconv_Itoa x1.1) fun x20 => if (!(strEq x20 s)) = true then (some true) else (Option.bind (strings_TrimPrefix s (⟨#[45]⟩ : ByteArray)) fun x26 => some (decide (digits < (x26.size : Int)))))) fun s8 =>
  if s8 = true then
    some (0, false)
  else
    some (x1.1, true)

/-- porterslodge level numbers -/
def level_numbers (words : (List ByteArray)) (digits : Int) : Option ((List Int) × Bool) :=
  Option.bind (rangeB (fun k6 s14 => Option.bind (idx words (k6 : Int)) fun x29 => Option.bind (level_number x29 digits) fun x33 => if (!x33.2) = true then some (.rt (([] : (List Int)), false)) else Option.bind (appendL 17592186044416 s14 ([x33.1] : List Int)) fun x43 => some (.nx x43)) words.length 0 ([] : (List Int))) fun o3 => o3.andThen (fun y => some y) fun s4 =>
  some (s4, true)

/-- porterslodge level within -/
def level_within (n : Int) (low : Int) (high : Int) : Bool :=
  ((decide (low ≤ n)) && (decide (n ≤ high)))

/-- porterslodge level CheckClock -/
def level_CheckClock (c : level_Clock) : Option Int :=
  if ((((((!(level_within c.kind 1 3)) || (!(level_within c.level 0 19))) || (!(level_within c.minutes 0 100000))) || (!(level_within c.start 0 3000000))) || ((c.stop != (-1)) && (!(level_within c.stop c.start 3000000)))) || (!(level_within c.end_ 0 2))) = true then
    some 2
  else
    if (!((c.stop == (-1)) == (c.end_ == 0))) = true then
      some 1
    else
      if (decide ((6000 : Int) < (c.pieces.length : Int))) = true then
        some 4
      else
        Option.bind (rangeB (fun k45 _ => Option.bind (idx c.pieces (k45 : Int)) fun x64 => if (((!(level_within x64.from_ c.start 3000000)) || (!(level_within x64.calendar 0 19))) || ((x64.to_ != (-1)) && (!(level_within x64.to_ (w64 (x64.from_ + 1)) 3000000)))) = true then some (.rt 2) else Option.bind (if ((x64.to_ == (-1)) && ((decide ((k45 : Int) < (w64 ((c.pieces.length : Int) - 1)))) || (c.stop != (-1)))) = true then some ((x64.to_ == (-1)) && ((decide ((k45 : Int) < (w64 ((c.pieces.length : Int) - 1)))) || (c.stop != (-1)))) else some ((c.stop != (-1)) && (decide (c.stop < x64.to_)))) fun s101 => if s101 = true then some (.rt 1) else Option.bind (if (decide ((0 : Int) < (k45 : Int))) = true then (Option.bind (idx c.pieces (w64 ((k45 : Int) - 1))) fun x122 => some (decide (x64.from_ < x122.to_))) else (some false)) fun s116 => if s116 = true then some (.rt 5) else some (.nx ())) c.pieces.length 0 ()) fun o42 => o42.andThen (fun y => some y) fun s43 =>
        some 0

/-- porterslodge level ReadClock -/
noncomputable def level_ReadClock (s : ByteArray) : Option (level_Clock × Int) :=
  if (decide ((400000 : Int) < (s.size : Int))) = true then
    some ((⟨0, 0, 0, 0, 0, 0, ([] : (List level_Piece))⟩ : level_Clock), 4)
  else
    Option.bind (strings_CutSuffix s (⟨#[10]⟩ : ByteArray)) fun x10 =>
    Option.bind (strings_Split x10.1 (⟨#[32]⟩ : ByteArray)) fun x11 =>
    Option.bind (sliceL x11 (some 1) none) fun x17 =>
    Option.bind (level_numbers x17 9) fun x20 =>
    Option.bind (if (!x10.2) = true then (some true) else (Option.bind (idx x11 0) fun x30 => some (!(strEq x30 (⟨#[99, 108, 111, 99, 107]⟩ : ByteArray))))) fun s29 =>
    if (((s29 || (!x20.2)) || (decide ((x20.1.length : Int) < 6))) || ((Int.tmod (x20.1.length : Int) 3) != 0)) = true then
      some ((⟨0, 0, 0, 0, 0, 0, ([] : (List level_Piece))⟩ : level_Clock), 8)
    else
      Option.bind (idx x20.1 0) fun x50 =>
      Option.bind (idx x20.1 1) fun x55 =>
      Option.bind (idx x20.1 2) fun x60 =>
      Option.bind (idx x20.1 3) fun x65 =>
      Option.bind (idx x20.1 4) fun x70 =>
      Option.bind (idx x20.1 5) fun x75 =>
      Option.bind (whileB (fun s91 => if (decide (s91.1 < (x20.1.length : Int))) = true then Option.bind (idx x20.1 s91.1) fun x108 => Option.bind (idx x20.1 (w64 (s91.1 + 1))) fun x113 => Option.bind (idx x20.1 (w64 (s91.1 + 2))) fun x118 => Option.bind (appendL 5864062014805 s91.2.pieces ([(⟨x108, x113, x118⟩ : level_Piece)] : List level_Piece)) fun x128 => some (.nx (w64 (s91.1 + 3), (⟨s91.2.kind, s91.2.level, s91.2.minutes, s91.2.start, s91.2.stop, s91.2.end_, x128⟩ : level_Clock))) else some (.bk (s91.1, s91.2))) (6, (⟨x50, x55, x60, x65, x70, x75, ([] : (List level_Piece))⟩ : level_Clock))) fun o80 => o80.andThen (fun y => some y) fun s81 =>
      Option.bind (level_CheckClock s81.2) fun x143 =>
      if (x143 != 0) = true then
        some ((⟨0, 0, 0, 0, 0, 0, ([] : (List level_Piece))⟩ : level_Clock), x143)
      else
        some (s81.2, 0)

/-- strings.Trim -/
def strings_Trim (s : ByteArray) (cutset : ByteArray) : Option ByteArray :=
  if s.size ≤ 9223372036854775807 ∧ cutset.size < 4294967281 ∧ (cutset.data.toList.all fun b => decide (b.toNat < 128)) = true then some ⟨(Go.Lib.trimS s.data.toList cutset.data.toList).toArray⟩ else none

/-- porterslodge portref2 digits -/
def portref2_digits (s : ByteArray) (most : Int) : Option Bool :=
  Option.bind (if (!(strEq s (⟨#[]⟩ : ByteArray))) = true then (if (decide ((s.size : Int) ≤ most)) = true then (Option.bind (strings_Trim s (⟨#[48, 49, 50, 51, 52, 53, 54, 55, 56, 57]⟩ : ByteArray)) fun x11 => if (strEq x11 (⟨#[]⟩ : ByteArray)) = true then (if ((s.size : Int) == 1) = true then (some true) else (Option.bind (idxS s 0) fun x18 => some ((x18.toNat : Int) != 48))) else (some false)) else (if false = true then (if ((s.size : Int) == 1) = true then (some true) else (Option.bind (idxS s 0) fun x24 => some ((x24.toNat : Int) != 48))) else (some false))) else (if false = true then (Option.bind (strings_Trim s (⟨#[48, 49, 50, 51, 52, 53, 54, 55, 56, 57]⟩ : ByteArray)) fun x28 => if (strEq x28 (⟨#[]⟩ : ByteArray)) = true then (if ((s.size : Int) == 1) = true then (some true) else (Option.bind (idxS s 0) fun x35 => some ((x35.toNat : Int) != 48))) else (some false)) else (if false = true then (if ((s.size : Int) == 1) = true then (some true) else (Option.bind (idxS s 0) fun x41 => some ((x41.toNat : Int) != 48))) else (some false)))) fun s2 =>
  some s2

/-- porterslodge portref2 number -/
def portref2_number (s : ByteArray) (most : Int) : Option (Int × Bool) :=
  Option.bind (strings_TrimPrefix s (⟨#[45]⟩ : ByteArray)) fun x1 =>
  Option.bind (portref2_digits x1 most) fun x2 =>
  if ((!x2) || ((strEq x1 (⟨#[48]⟩ : ByteArray)) && (!(strEq s (⟨#[48]⟩ : ByteArray))))) = true then
    some (0, false)
  else
    Option.bind (strconv_Atoi s) fun x11 =>
    some (x11.1, (!x11.2))

/-- porterslodge portref2 lineNumbers -/
def portref2_lineNumbers (s : ByteArray) (most : Int) : Option (ByteArray × (List Int) × Bool) :=
  Option.bind (strings_Split s (⟨#[32]⟩ : ByteArray)) fun x1 =>
  Option.bind (sliceL x1 (some 1) none) fun x7 =>
  Option.bind (rangeB (fun k13 s21 => Option.bind (idx x7 (k13 : Int)) fun x36 => Option.bind (portref2_number x36 most) fun x40 => if (!x40.2) = true then some (.rt ((⟨#[]⟩ : ByteArray), ([] : (List Int)), false)) else Option.bind (appendL 17592186044416 s21 ([x40.1] : List Int)) fun x50 => some (.nx x50)) x7.length 0 ([] : (List Int))) fun o10 => o10.andThen (fun y => some y) fun s11 =>
  Option.bind (idx x1 0) fun x59 =>
  some (x59, s11, true)

/-- strings.Contains -/
def strings_Contains (s : ByteArray) (substr : ByteArray) : Option Bool :=
  match substr.data.toList with
  | [c] => some (decide (0 ≤ Go.Lib.indexByte s.data.toList c))
  | _ => none

/-- porterslodge portref2 IsMoment -/
def portref2_IsMoment (m : Int) : Bool :=
  ((decide ((0 : Int) ≤ m)) && (decide (m ≤ 3000000)))

/-- porterslodge portref2 ClockFault -/
def portref2_ClockFault (c : level_Clock) : Option Int :=
  if ((((((((((decide (c.kind < 1)) || (decide ((3 : Int) < c.kind))) || (decide (c.level < 0))) || (decide ((20 : Int) ≤ c.level))) || (decide (c.minutes < 0))) || (decide ((100000 : Int) < c.minutes))) || (!(portref2_IsMoment c.start))) || ((c.stop != (-1)) && ((!(portref2_IsMoment c.stop)) || (decide (c.stop < c.start))))) || (decide (c.end_ < 0))) || (decide ((2 : Int) < c.end_))) = true then
    some 2
  else
    if (!((c.stop == (-1)) == (c.end_ == 0))) = true then
      some 1
    else
      if (decide ((6000 : Int) < (c.pieces.length : Int))) = true then
        some 4
      else
        Option.bind (rangeB (fun k60 _ => Option.bind (idx c.pieces (k60 : Int)) fun x79 => if (((((decide (x79.from_ < c.start)) || (!(portref2_IsMoment x79.from_))) || (decide (x79.calendar < 0))) || (decide ((20 : Int) ≤ x79.calendar))) || ((x79.to_ != (-1)) && ((!(portref2_IsMoment x79.to_)) || (decide (x79.to_ ≤ x79.from_))))) = true then some (.rt 2) else Option.bind (if ((x79.to_ == (-1)) && ((decide ((k60 : Int) < (w64 ((c.pieces.length : Int) - 1)))) || (c.stop != (-1)))) = true then some ((x79.to_ == (-1)) && ((decide ((k60 : Int) < (w64 ((c.pieces.length : Int) - 1)))) || (c.stop != (-1)))) else some ((c.stop != (-1)) && (decide (c.stop < x79.to_)))) fun s125 => if s125 = true then some (.rt 1) else Option.bind (if (decide ((0 : Int) < (k60 : Int))) = true then (Option.bind (idx c.pieces (w64 ((k60 : Int) - 1))) fun x146 => some (decide (x79.from_ < x146.to_))) else (some false)) fun s140 => if s140 = true then some (.rt 5) else some (.nx ())) c.pieces.length 0 ()) fun o57 => o57.andThen (fun y => some y) fun s58 =>
        some 0

/-- porterslodge portref2 ReadClockOf -/
noncomputable def portref2_ReadClockOf (s : ByteArray) : Option (level_Clock × Int) :=
  if (decide ((400000 : Int) < (s.size : Int))) = true then
    some ((⟨0, 0, 0, 0, 0, 0, ([] : (List level_Piece))⟩ : level_Clock), 4)
  else
    Option.bind (strings_CutSuffix s (⟨#[10]⟩ : ByteArray)) fun x10 =>
    Option.bind (portref2_lineNumbers x10.1 9) fun x11 =>
    Option.bind (if (!x10.2) = true then (if true = true then (if true = true then (if true = true then (if true = true then (some true) else (Option.bind (strings_Contains x10.1 (⟨#[10]⟩ : ByteArray)) fun x33 => some x33)) else (if ((Int.tmod (x11.2.1.length : Int) 3) != 0) = true then (some true) else (Option.bind (strings_Contains x10.1 (⟨#[10]⟩ : ByteArray)) fun x40 => some x40))) else (if (decide ((x11.2.1.length : Int) < 6)) = true then (if true = true then (some true) else (Option.bind (strings_Contains x10.1 (⟨#[10]⟩ : ByteArray)) fun x48 => some x48)) else (if ((Int.tmod (x11.2.1.length : Int) 3) != 0) = true then (some true) else (Option.bind (strings_Contains x10.1 (⟨#[10]⟩ : ByteArray)) fun x55 => some x55)))) else (if (!(strEq x11.1 (⟨#[99, 108, 111, 99, 107]⟩ : ByteArray))) = true then (if true = true then (if true = true then (some true) else (Option.bind (strings_Contains x10.1 (⟨#[10]⟩ : ByteArray)) fun x64 => some x64)) else (if ((Int.tmod (x11.2.1.length : Int) 3) != 0) = true then (some true) else (Option.bind (strings_Contains x10.1 (⟨#[10]⟩ : ByteArray)) fun x71 => some x71))) else (if (decide ((x11.2.1.length : Int) < 6)) = true then (if true = true then (some true) else (Option.bind (strings_Contains x10.1 (⟨#[10]⟩ : ByteArray)) fun x79 => some x79)) else (if ((Int.tmod (x11.2.1.length : Int) 3) != 0) = true then (some true) else (Option.bind (strings_Contains x10.1 (⟨#[10]⟩ : ByteArray)) fun x86 => some x86))))) else (if (!x11.2.2) = true then (if true = true then (if true = true then (if true = true then (some true) else (Option.bind (strings_Contains x10.1 (⟨#[10]⟩ : ByteArray)) fun x96 => some x96)) else (if ((Int.tmod (x11.2.1.length : Int) 3) != 0) = true then (some true) else (Option.bind (strings_Contains x10.1 (⟨#[10]⟩ : ByteArray)) fun x103 => some x103))) else (if (decide ((x11.2.1.length : Int) < 6)) = true then (if true = true then (some true) else (Option.bind (strings_Contains x10.1 (⟨#[10]⟩ : ByteArray)) fun x111 => some x111)) else (if ((Int.tmod (x11.2.1.length : Int) 3) != 0) = true then (some true) else (Option.bind (strings_Contains x10.1 (⟨#[10]⟩ : ByteArray)) fun x118 => some x118)))) else (if (!(strEq x11.1 (⟨#[99, 108, 111, 99, 107]⟩ : ByteArray))) = true then (if true = true then (if true = true then (some true) else (Option.bind (strings_Contains x10.1 (⟨#[10]⟩ : ByteArray)) fun x127 => some x127)) else (if ((Int.tmod (x11.2.1.length : Int) 3) != 0) = true then (some true) else (Option.bind (strings_Contains x10.1 (⟨#[10]⟩ : ByteArray)) fun x134 => some x134))) else (if (decide ((x11.2.1.length : Int) < 6)) = true then (if true = true then (some true) else (Option.bind (strings_Contains x10.1 (⟨#[10]⟩ : ByteArray)) fun x142 => some x142)) else (if ((Int.tmod (x11.2.1.length : Int) 3) != 0) = true then (some true) else (Option.bind (strings_Contains x10.1 (⟨#[10]⟩ : ByteArray)) fun x149 => some x149)))))) fun s20 =>
    if s20 = true then
      some ((⟨0, 0, 0, 0, 0, 0, ([] : (List level_Piece))⟩ : level_Clock), 8)
    else
      Option.bind (idx x11.2.1 0) fun x164 =>
      Option.bind (idx x11.2.1 1) fun x169 =>
      Option.bind (idx x11.2.1 2) fun x174 =>
      Option.bind (idx x11.2.1 3) fun x179 =>
      Option.bind (idx x11.2.1 4) fun x184 =>
      Option.bind (idx x11.2.1 5) fun x189 =>
      Option.bind (whileB (fun s205 => if (decide (s205.1 < (x11.2.1.length : Int))) = true then Option.bind (idx x11.2.1 s205.1) fun x222 => Option.bind (idx x11.2.1 (w64 (s205.1 + 1))) fun x227 => Option.bind (idx x11.2.1 (w64 (s205.1 + 2))) fun x232 => Option.bind (appendL 5864062014805 s205.2.pieces ([(⟨x222, x227, x232⟩ : level_Piece)] : List level_Piece)) fun x242 => some (.nx (w64 (s205.1 + 3), (⟨s205.2.kind, s205.2.level, s205.2.minutes, s205.2.start, s205.2.stop, s205.2.end_, x242⟩ : level_Clock))) else some (.bk (s205.1, s205.2))) (6, (⟨x164, x169, x174, x179, x184, x189, ([] : (List level_Piece))⟩ : level_Clock))) fun o194 => o194.andThen (fun y => some y) fun s195 =>
      Option.bind (portref2_ClockFault s195.2) fun x257 =>
      if (x257 != 0) = true then
        some ((⟨0, 0, 0, 0, 0, 0, ([] : (List level_Piece))⟩ : level_Clock), x257)
      else
        some (s195.2, 0)

/-- slices Equal porterslodge level Piece porterslodge level Piece -/
def slices_Equal_Llevel_Piece_level_Piece (s1 : (List level_Piece)) (s2 : (List level_Piece)) : Option Bool :=
  if ((s1.length : Int) != (s2.length : Int)) = true then
    some false
  else
    Option.bind (rangeB (fun k9 _ => Option.bind (idx s1 (k9 : Int)) fun x29 => Option.bind (idx s2 (k9 : Int)) fun x34 => if (!(x29.from_ == x34.from_ && (x29.to_ == x34.to_ && (x29.calendar == x34.calendar)))) = true then some (.rt false) else some (.nx ())) s1.length 0 ()) fun o6 => o6.andThen (fun y => some y) fun s7 =>
    some true

/-- porterslodge portref2 alikeClock -/
def portref2_alikeClock (a_ : level_Clock) (b : level_Clock) : Option Bool :=
  Option.bind (if (a_.kind == b.kind) = true then (if (a_.level == b.level) = true then (if (a_.minutes == b.minutes) = true then (if (a_.start == b.start) = true then (if (a_.stop == b.stop) = true then (if (a_.end_ == b.end_) = true then (Option.bind (slices_Equal_Llevel_Piece_level_Piece a_.pieces b.pieces) fun x51 => some x51) else (some false)) else (if false = true then (Option.bind (slices_Equal_Llevel_Piece_level_Piece a_.pieces b.pieces) fun x66 => some x66) else (some false))) else (if false = true then (if (a_.end_ == b.end_) = true then (Option.bind (slices_Equal_Llevel_Piece_level_Piece a_.pieces b.pieces) fun x84 => some x84) else (some false)) else (if false = true then (Option.bind (slices_Equal_Llevel_Piece_level_Piece a_.pieces b.pieces) fun x99 => some x99) else (some false)))) else (if false = true then (if (a_.stop == b.stop) = true then (if (a_.end_ == b.end_) = true then (Option.bind (slices_Equal_Llevel_Piece_level_Piece a_.pieces b.pieces) fun x120 => some x120) else (some false)) else (if false = true then (Option.bind (slices_Equal_Llevel_Piece_level_Piece a_.pieces b.pieces) fun x135 => some x135) else (some false))) else (if false = true then (if (a_.end_ == b.end_) = true then (Option.bind (slices_Equal_Llevel_Piece_level_Piece a_.pieces b.pieces) fun x153 => some x153) else (some false)) else (if false = true then (Option.bind (slices_Equal_Llevel_Piece_level_Piece a_.pieces b.pieces) fun x168 => some x168) else (some false))))) else (if false = true then (if (a_.start == b.start) = true then (if (a_.stop == b.stop) = true then (if (a_.end_ == b.end_) = true then (Option.bind (slices_Equal_Llevel_Piece_level_Piece a_.pieces b.pieces) fun x192 => some x192) else (some false)) else (if false = true then (Option.bind (slices_Equal_Llevel_Piece_level_Piece a_.pieces b.pieces) fun x207 => some x207) else (some false))) else (if false = true then (if (a_.end_ == b.end_) = true then (Option.bind (slices_Equal_Llevel_Piece_level_Piece a_.pieces b.pieces) fun x225 => some x225) else (some false)) else (if false = true then (Option.bind (slices_Equal_Llevel_Piece_level_Piece a_.pieces b.pieces) fun x240 => some x240) else (some false)))) else (if false = true then (if (a_.stop == b.stop) = true then (if (a_.end_ == b.end_) = true then (Option.bind (slices_Equal_Llevel_Piece_level_Piece a_.pieces b.pieces) fun x261 => some x261) else (some false)) else (if false = true then (Option.bind (slices_Equal_Llevel_Piece_level_Piece a_.pieces b.pieces) fun x276 => some x276) else (some false))) else (if false = true then (if (a_.end_ == b.end_) = true then (Option.bind (slices_Equal_Llevel_Piece_level_Piece a_.pieces b.pieces) fun x294 => some x294) else (some false)) else (if false = true then (Option.bind (slices_Equal_Llevel_Piece_level_Piece a_.pieces b.pieces) fun x309 => some x309) else (some false)))))) else (if false = true then (if (a_.minutes == b.minutes) = true then (if (a_.start == b.start) = true then (if (a_.stop == b.stop) = true then (if (a_.end_ == b.end_) = true then (Option.bind (slices_Equal_Llevel_Piece_level_Piece a_.pieces b.pieces) fun x336 => some x336) else (some false)) else (if false = true then (Option.bind (slices_Equal_Llevel_Piece_level_Piece a_.pieces b.pieces) fun x351 => some x351) else (some false))) else (if false = true then (if (a_.end_ == b.end_) = true then (Option.bind (slices_Equal_Llevel_Piece_level_Piece a_.pieces b.pieces) fun x369 => some x369) else (some false)) else (if false = true then (Option.bind (slices_Equal_Llevel_Piece_level_Piece a_.pieces b.pieces) fun x384 => some x384) else (some false)))) else (if false = true then (if (a_.stop == b.stop) = true then (if (a_.end_ == b.end_) = true then (Option.bind (slices_Equal_Llevel_Piece_level_Piece a_.pieces b.pieces) fun x405 => some x405) else (some false)) else (if false = true then (Option.bind (slices_Equal_Llevel_Piece_level_Piece a_.pieces b.pieces) fun x420 => some x420) else (some false))) else (if false = true then (if (a_.end_ == b.end_) = true then (Option.bind (slices_Equal_Llevel_Piece_level_Piece a_.pieces b.pieces) fun x438 => some x438) else (some false)) else (if false = true then (Option.bind (slices_Equal_Llevel_Piece_level_Piece a_.pieces b.pieces) fun x453 => some x453) else (some false))))) else (if false = true then (if (a_.start == b.start) = true then (if (a_.stop == b.stop) = true then (if (a_.end_ == b.end_) = true then (Option.bind (slices_Equal_Llevel_Piece_level_Piece a_.pieces b.pieces) fun x477 => some x477) else (some false)) else (if false = true then (Option.bind (slices_Equal_Llevel_Piece_level_Piece a_.pieces b.pieces) fun x492 => some x492) else (some false))) else (if false = true then (if (a_.end_ == b.end_) = true then (Option.bind (slices_Equal_Llevel_Piece_level_Piece a_.pieces b.pieces) fun x510 => some x510) else (some false)) else (if false = true then (Option.bind (slices_Equal_Llevel_Piece_level_Piece a_.pieces b.pieces) fun x525 => some x525) else (some false)))) else (if false = true then (if (a_.stop == b.stop) = true then (if (a_.end_ == b.end_) = true then (Option.bind (slices_Equal_Llevel_Piece_level_Piece a_.pieces b.pieces) fun x546 => some x546) else (some false)) else (if false = true then (Option.bind (slices_Equal_Llevel_Piece_level_Piece a_.pieces b.pieces) fun x561 => some x561) else (some false))) else (if false = true then (if (a_.end_ == b.end_) = true then (Option.bind (slices_Equal_Llevel_Piece_level_Piece a_.pieces b.pieces) fun x579 => some x579) else (some false)) else (if false = true then (Option.bind (slices_Equal_Llevel_Piece_level_Piece a_.pieces b.pieces) fun x594 => some x594) else (some false))))))) fun s18 =>
  some s18

/-- porterslodge portref2 Alike -/
def portref2_Alike (a_ : level_Clock) (b : level_Clock) : Option Bool :=
  Option.bind (if true = true then (Option.bind (portref2_alikeClock a_ b) fun x43 => some x43) else (some false)) fun s29 =>
  some s29

/-- porterslodge portlaw2 ClockReads -/
noncomputable def portlaw2_ClockReads (s : ByteArray) : Option Bool :=
  Option.bind (level_ReadClock s) fun x1 =>
  Option.bind (portref2_ReadClockOf s) fun x19 =>
  Option.bind (if (x1.2 == x19.2) = true then (Option.bind (portref2_Alike x1.1 x19.1) fun x51 => some x51) else (some false)) fun s37 =>
  some s37

end Go.Proofs.YtnkjmfbpkbooeaaGreatDoor.M
