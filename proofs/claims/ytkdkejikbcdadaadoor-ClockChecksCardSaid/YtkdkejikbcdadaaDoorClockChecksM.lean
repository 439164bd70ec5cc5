/-
  Written by program (gen.py) from the IR of the dump: plain models of the functions.
-/
import Derived.Test.YtkdkejikbcdadaaDoorPu
import Derived.Lib.ItoaNum
import Derived.Lib.Join
import Derived.Test.YtkdkejikbcdadaaDoorPj
namespace Go.Proofs.YtkdkejikbcdadaaDoor.M
open Go Go.Pu
set_option linter.unusedVariables false
set_option linter.unusedSimpArgs false

structure level_Piece where
  from_ : Int
  to_ : Int
  calendar : Int

structure level_Clock where
  kind : Int
  level : Int
  minutes : Int
  start : Int
  stop : Int
  end_ : Int
  pieces : (List level_Piece)

/-- porterslodge level within -/
def level_within (n : Int) (low : Int) (high : Int) : Bool :=
  ((decide (low ≤ n)) && (decide (n ≤ high)))

/-- porterslodge level CheckClock -/
def level_CheckClock (c : level_Clock) : Option Int :=
  if ((((((!(level_within c.kind 1 3)) || (!(level_within c.level 0 19))) || (!(level_within c.minutes 0 100000))) || (!(level_within c.start 0 3000000))) || ((c.stop != (-1)) && (!(level_within c.stop c.start 3000000)))) || (!(level_within c.end_ 0 2))) = true then
    some 2
  else
    if (!((c.stop == (-1)) == (c.end_ == 0))) = true then
      some 1
    else
      if (decide ((6000 : Int) < (c.pieces.length : Int))) = true then
        some 4
      else
        Option.bind (rangeB (fun k45 _ => Option.bind (idx c.pieces (k45 : Int)) fun x64 => if (((!(level_within x64.from_ c.start 3000000)) || (!(level_within x64.calendar 0 19))) || ((x64.to_ != (-1)) && (!(level_within x64.to_ (w64 (x64.from_ + 1)) 3000000)))) = true then some (.rt 2) else Option.bind (if ((x64.to_ == (-1)) && ((decide ((k45 : Int) < (w64 ((c.pieces.length : Int) - 1)))) || (c.stop != (-1)))) = true then some ((x64.to_ == (-1)) && ((decide ((k45 : Int) < (w64 ((c.pieces.length : Int) - 1)))) || (c.stop != (-1)))) else some ((c.stop != (-1)) && (decide (c.stop < x64.to_)))) fun s101 => if s101 = true then some (.rt 1) else Option.bind (if (decide ((0 : Int) < (k45 : Int))) = true then (Option.bind (idx c.pieces (w64 ((k45 : Int) - 1))) fun x122 => some (decide (x64.from_ < x122.to_))) else (some false)) fun s116 => if s116 = true then some (.rt 5) else some (.nx ())) c.pieces.length 0 ()) fun o42 => o42.andThen (fun y => some y) fun s43 =>
        some 0

/-- strconv.Itoa -/
def strconv_Itoa (n : Int) : Option ByteArray :=
  if -9223372036854775808 ≤ n ∧ n ≤ 9223372036854775807 then some ⟨(Go.Lib.itoa n).toArray⟩ else none

/-- porterslodge level ClockText 1 -/
def level_ClockText_1 (l : (List Int)) (p1 : (List ByteArray)) : Option (List ByteArray) :=
  Option.bind (rangeB (fun k8 s16 => Option.bind (idx l (k8 : Int)) fun x31 => Option.bind (strconv_Itoa x31) fun x38 => Option.bind (appendL 8796093022208 s16 ([x38] : List ByteArray)) fun x47 => some (.nx x47)) l.length 0 p1) fun o5 => o5.andThen (fun y => some y) fun s6 =>
  some s6

/-- strings.Join -/
def strings_Join (elems : List ByteArray) (sep : ByteArray) : Option ByteArray :=
  if elems.length ≤ 140737488355328 ∧ (Go.Lib.join (elems.map (·.data.toList)) sep.data.toList).length ≤ 140737488355328 then some ⟨(Go.Lib.join (elems.map (·.data.toList)) sep.data.toList).toArray⟩ else none

/-- porterslodge level ClockText -/
def level_ClockText (c : level_Clock) : Option (ByteArray × Int) :=
  Option.bind (level_CheckClock c) fun x12 =>
  if (x12 != 0) = true then
    some ((⟨#[]⟩ : ByteArray), x12)
  else
    Option.bind (level_ClockText_1 ([c.kind, c.level, c.minutes, c.start, c.stop, c.end_] : List Int) ([(⟨#[99, 108, 111, 99, 107]⟩ : ByteArray)] : List ByteArray)) fun x46 =>
    Option.bind (rangeB (fun k60 s68 => Option.bind (idx c.pieces (k60 : Int)) fun x83 => Option.bind (level_ClockText_1 ([x83.from_, x83.to_, x83.calendar] : List Int) s68) fun x104 => some (.nx x104)) c.pieces.length 0 x46) fun o57 => o57.andThen (fun y => some y) fun s58 =>
    Option.bind (strings_Join s58 (⟨#[32]⟩ : ByteArray)) fun x114 =>
    Option.bind (catS x114 (⟨#[10]⟩ : ByteArray)) fun x118 =>
    some (x118, 0)

/-- porterslodge portref2 IsMoment -/
def portref2_IsMoment (m : Int) : Bool :=
  ((decide ((0 : Int) ≤ m)) && (decide (m ≤ 3000000)))

/-- porterslodge portref2 ClockFault -/
def portref2_ClockFault (c : level_Clock) : Option Int :=
  if ((((((((((decide (c.kind < 1)) || (decide ((3 : Int) < c.kind))) || (decide (c.level < 0))) || (decide ((20 : Int) ≤ c.level))) || (decide (c.minutes < 0))) || (decide ((100000 : Int) < c.minutes))) || (!(portref2_IsMoment c.start))) || ((c.stop != (-1)) && ((!(portref2_IsMoment c.stop)) || (decide (c.stop < c.start))))) || (decide (c.end_ < 0))) || (decide ((2 : Int) < c.end_))) = true then
    some 2
  else
    if (!((c.stop == (-1)) == (c.end_ == 0))) = true then
      some 1
    else
      if (decide ((6000 : Int) < (c.pieces.length : Int))) = true then
        some 4
      else
        Option.bind (rangeB (fun k60 _ => Option.bind (idx c.pieces (k60 : Int)) fun x79 => if (((((decide (x79.from_ < c.start)) || (!(portref2_IsMoment x79.from_))) || (decide (x79.calendar < 0))) || (decide ((20 : Int) ≤ x79.calendar))) || ((x79.to_ != (-1)) && ((!(portref2_IsMoment x79.to_)) || (decide (x79.to_ ≤ x79.from_))))) = true then some (.rt 2) else Option.bind (if ((x79.to_ == (-1)) && ((decide ((k60 : Int) < (w64 ((c.pieces.length : Int) - 1)))) || (c.stop != (-1)))) = true then some ((x79.to_ == (-1)) && ((decide ((k60 : Int) < (w64 ((c.pieces.length : Int) - 1)))) || (c.stop != (-1)))) else some ((c.stop != (-1)) && (decide (c.stop < x79.to_)))) fun s125 => if s125 = true then some (.rt 1) else Option.bind (if (decide ((0 : Int) < (k60 : Int))) = true then (Option.bind (idx c.pieces (w64 ((k60 : Int) - 1))) fun x146 => some (decide (x79.from_ < x146.to_))) else (some false)) fun s140 => if s140 = true then some (.rt 5) else some (.nx ())) c.pieces.length 0 ()) fun o57 => o57.andThen (fun y => some y) fun s58 =>
        some 0

/-- porterslodge portref2 line -/
def portref2_line (words : (List AnyV)) : Option ByteArray :=
  Option.bind (rangeB (fun k6 s14 => Option.bind (Option.bind (idx words (k6 : Int)) fun x39 => Option.bind (Option.bind (if x39.asStr.2 = true then Option.bind (appendL 8796093022208 s14 ([x39.asStr.1] : List ByteArray)) fun x69 => some x69 else Option.bind (if x39.asInt.2 = true then Option.bind (strconv_Itoa x39.asInt.1) fun x87 => Option.bind (appendL 8796093022208 s14 ([x87] : List ByteArray)) fun x96 => some x96 else some s14) fun s77 => some s77) fun s54 => some s54) fun s44 => some s44) fun s30 => some (.nx s30)) words.length 0 ([] : (List ByteArray))) fun o3 => o3.andThen (fun y => some y) fun s4 =>
  Option.bind (strings_Join s4 (⟨#[32]⟩ : ByteArray)) fun x110 =>
  Option.bind (catS x110 (⟨#[10]⟩ : ByteArray)) fun x114 =>
  some x114

/-- porterslodge portref2 ClockString -/
def portref2_ClockString (c : level_Clock) : Option (ByteArray × Int) :=
  Option.bind (portref2_ClockFault c) fun x12 =>
  if (x12 != 0) = true then
    some ((⟨#[]⟩ : ByteArray), x12)
  else
    Option.bind (rangeB (fun k37 s45 => Option.bind (idx c.pieces (k37 : Int)) fun x60 => Option.bind (appendL 8796093022208 s45 ([(AnyV.int x60.from_), (AnyV.int x60.to_), (AnyV.int x60.calendar)] : List AnyV)) fun x81 => some (.nx x81)) c.pieces.length 0 ([(AnyV.str (⟨#[99, 108, 111, 99, 107]⟩ : ByteArray)), (AnyV.int c.kind), (AnyV.int c.level), (AnyV.int c.minutes), (AnyV.int c.start), (AnyV.int c.stop), (AnyV.int c.end_)] : List AnyV)) fun o34 => o34.andThen (fun y => some y) fun s35 =>
    Option.bind (portref2_line s35) fun x90 =>
    some (x90, 0)

/-- porterslodge portlaw2 ClockChecks -/
def portlaw2_ClockChecks (c : level_Clock) : Option Bool :=
  Option.bind (level_ClockText c) fun x12 =>
  Option.bind (portref2_ClockString c) fun x19 =>
  Option.bind (if ((strEq x12.1 x19.1) && (x12.2 == x19.2)) = true then (Option.bind (level_CheckClock c) fun x30 => Option.bind (portref2_ClockFault c) fun x34 => some (x30 == x34)) else (some false)) fun s26 =>
  some s26

end Go.Proofs.YtkdkejikbcdadaaDoor.M
