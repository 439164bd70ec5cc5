/-
  Written by program (gen.py) from the IR of the dump: plain models of the functions.
-/
import Derived.Test.YtfdhiclmjfkflaaDoorPu
import Derived.Lib.Join
import Derived.Lib.Replace
import Derived.Lib.SlTrimSet
import Derived.Test.YtfdhiclmjfkflaaDoorPj
import Derived.Shelf.GgClosure.StringsIndexFunc
namespace Go.Proofs.YtfdhiclmjfkflaaDoor.M
open Go Go.Pu
set_option linter.unusedVariables false
set_option linter.unusedSimpArgs false

structure know_Pair where
  name : ByteArray
  value : ByteArray

structure know_field where
  name : ByteArray
  kind : UInt8
  one : ByteArray
  two : ByteArray

structure know_templateReader where
  s : ByteArray
  at_ : Int
  wrong : Bool

structure portref2_piece where
  text : ByteArray
  name : ByteArray
  kind : UInt8
  one : ByteArray
  both : ByteArray

/-- porterslodge know plain -/
noncomputable def know_plain (s : ByteArray) (feeds : Bool) : Option Bool :=
  Option.bind (whileB (fun s8 => if (decide (s8 < (s.size : Int))) = true then Option.bind (idxS s s8) fun x18 => Option.bind (if (decide ((x18.toNat : Int) < 32)) = true then (some true) else (some ((x18.toNat : Int) == 127))) fun s20 => Option.bind (if s20 = true then (some (((x18.toNat : Int) != 10) || (!feeds))) else (some false)) fun s22 => if s22 = true then some (.rt false) else some (.nx (w64 (s8 + 1))) else some (.bk s8)) 0) fun o1 => o1.andThen (fun y => some y) fun s2 =>
  some true

/-- internal stringslite IndexByte -/
def internal_stringslite_IndexByte (s : ByteArray) (c : Int) : Int :=
  (indexByteS s c)

/-- strings IndexByte -/
def strings_IndexByte (s : ByteArray) (c : Int) : Int :=
  (internal_stringslite_IndexByte s c)

/-- porterslodge know templateReader escaped -/
def know_templateReader_escaped (r_ : know_templateReader) (some_ : ByteArray) : Option (ByteArray × know_templateReader) :=
  Option.bind (if ((w64 (r_.at_ + 1)) == (r_.s.size : Int)) = true then (some true) else (Option.bind (idxS r_.s (w64 (r_.at_ + 1))) fun x6 => some (decide ((strings_IndexByte some_ (x6.toNat : Int)) < 0)))) fun s5 =>
  if s5 = true then
    some ((⟨#[]⟩ : ByteArray), (⟨r_.s, w64 (r_.at_ + 1), true⟩ : know_templateReader))
  else
    Option.bind (sliceS r_.s (some (w64 ((w64 ((w64 (r_.at_ + 1)) + 1)) - 1))) (some (w64 ((w64 (r_.at_ + 1)) + 1)))) fun x17 =>
    some (x17, (⟨r_.s, w64 ((w64 (r_.at_ + 1)) + 1), r_.wrong⟩ : know_templateReader))

/-- (*strings.Builder).WriteString -/
def strings_Builder_WriteString (b : ByteArray) (s : ByteArray) : Option (Int × Unit × ByteArray) :=
  if b.size + s.size ≤ 140737488355328 then some (s.size, (), b ++ s) else none

/-- (*strings.Builder).WriteByte -/
def strings_Builder_WriteByte (b : ByteArray) (c : UInt8) : Option (Unit × ByteArray) :=
  if b.size + 1 ≤ 140737488355328 then some ((), b ++ ⟨#[c]⟩) else none

/-- (*strings.Builder).String -/
def strings_Builder_String (b : ByteArray) : Option ByteArray := some b

/-- porterslodge know templateReader text -/
noncomputable def know_templateReader_text (r_ : know_templateReader) : Option (ByteArray × know_templateReader) :=
  Option.bind (whileB (fun s15 => Option.bind (if ((!s15.2.wrong) && (decide (s15.2.at_ < (s15.2.s.size : Int)))) = true then (Option.bind (idxS s15.2.s s15.2.at_) fun x31 => some ((x31.toNat : Int) != 123)) else (some false)) fun s30 => if s30 = true then Option.bind (Option.bind (idxS s15.2.s s15.2.at_) fun x45 => if ((x45.toNat : Int) == 92) = true then Option.bind (know_templateReader_escaped s15.2 (⟨#[123, 92]⟩ : ByteArray)) fun x50 => Option.bind (strings_Builder_WriteString s15.1 x50.1) fun x55 => some (x55.2.2, x50.2) else Option.bind (strings_Builder_WriteByte s15.1 x45) fun x64 => some (x64.2, (⟨s15.2.s, w64 (s15.2.at_ + 1), s15.2.wrong⟩ : know_templateReader))) fun s38 => some (.nx (s38.1, s38.2)) else some (.bk (s15.1, s15.2))) (ByteArray.empty, r_)) fun o6 => o6.andThen (fun y => some y) fun s7 =>
  Option.bind (strings_Builder_String s7.1) fun x76 =>
  some (x76, s7.2)

/-- porterslodge know templateReader must -/
def know_templateReader_must (r_ : know_templateReader) (c : Int) : Option know_templateReader :=
  if r_.wrong = true then
    some r_
  else
    Option.bind (if (decide (r_.at_ < (r_.s.size : Int))) = true then (Option.bind (idxS r_.s r_.at_) fun x4 => some ((x4.toNat : Int) == c)) else (some false)) fun s3 =>
    Option.bind (if s3 = true then some (⟨r_.s, w64 (r_.at_ + 1), r_.wrong⟩ : know_templateReader) else some (⟨r_.s, r_.at_, true⟩ : know_templateReader)) fun s9 =>
    some s9

/-- porterslodge know digit -/
def know_digit (c : Int) : Bool :=
  ((decide ((48 : Int) ≤ c)) && (decide (c ≤ 57)))

/-- porterslodge know nameByte -/
def know_nameByte (c : Int) : Bool :=
  ((((decide ((97 : Int) ≤ c)) && (decide (c ≤ 122))) || (know_digit c)) || (c == 95))

/-- porterslodge know templateReader choice -/
noncomputable def know_templateReader_choice (r_ : know_templateReader) (ends : ByteArray) : Option (ByteArray × know_templateReader) :=
  Option.bind (whileB (fun s15 => Option.bind (if ((!s15.2.wrong) && (decide (s15.2.at_ < (s15.2.s.size : Int)))) = true then (Option.bind (idxS s15.2.s s15.2.at_) fun x31 => some (decide ((strings_IndexByte ends (x31.toNat : Int)) < 0))) else (some false)) fun s30 => if s30 = true then Option.bind (Option.bind (idxS s15.2.s s15.2.at_) fun x45 => Option.bind (Option.bind (if ((x45.toNat : Int) == 92) = true then Option.bind (know_templateReader_escaped s15.2 (⟨#[125, 58, 124, 123, 92]⟩ : ByteArray)) fun x66 => Option.bind (strings_Builder_WriteString s15.1 x66.1) fun x71 => some (x71.2.2, x66.2) else Option.bind (if ((x45.toNat : Int) == 123) = true then some ((x45.toNat : Int) == 123) else Option.bind (if ((x45.toNat : Int) == 125) = true then some ((x45.toNat : Int) == 125) else some ((x45.toNat : Int) == 10)) fun s86 => some s86) fun s78 => Option.bind (if s78 = true then some (s15.1, (⟨s15.2.s, s15.2.at_, true⟩ : know_templateReader)) else Option.bind (strings_Builder_WriteByte s15.1 x45) fun x108 => some (x108.2, (⟨s15.2.s, w64 (s15.2.at_ + 1), s15.2.wrong⟩ : know_templateReader))) fun s96 => some (s96.1, s96.2)) fun s58 => some (s58.1, s58.2)) fun s50 => some (s50.1, s50.2)) fun s38 => some (.nx (s38.1, s38.2)) else some (.bk (s15.1, s15.2))) (ByteArray.empty, r_)) fun o6 => o6.andThen (fun y => some y) fun s7 =>
  Option.bind (strings_Builder_String s7.1) fun x123 =>
  some (x123, s7.2)

/-- porterslodge know templateReader field -/
noncomputable def know_templateReader_field (r_ : know_templateReader) : Option (know_field × know_templateReader) :=
  Option.bind (know_templateReader_must r_ 123) fun x6 =>
  Option.bind (know_templateReader_must x6 123) fun x11 =>
  Option.bind (whileB (fun s25 => Option.bind (if (((!s25.wrong) && (decide (s25.at_ < (s25.s.size : Int)))) && (decide ((w64 (s25.at_ - x11.at_)) < 20))) = true then (Option.bind (idxS s25.s s25.at_) fun x42 => some (know_nameByte (x42.toNat : Int))) else (some false)) fun s41 => if s41 = true then some (.nx (⟨s25.s, w64 (s25.at_ + 1), s25.wrong⟩ : know_templateReader)) else some (.bk s25)) x11) fun o16 => o16.andThen (fun y => some y) fun s17 =>
  Option.bind (sliceS s17.s (some x11.at_) (some s17.at_)) fun x59 =>
  Option.bind (if (strEq x59 (⟨#[]⟩ : ByteArray)) = true then some (⟨s17.s, s17.at_, true⟩ : know_templateReader) else some s17) fun s61 =>
  if (s61.wrong || (s61.at_ == (s61.s.size : Int))) = true then
    some ((⟨x59, 0, ByteArray.empty, ByteArray.empty⟩ : know_field), (⟨s61.s, s61.at_, true⟩ : know_templateReader))
  else
    Option.bind (idxS s61.s s61.at_) fun x87 =>
    Option.bind (Option.bind (if ((x87.toNat : Int) == 124) = true then Option.bind (know_templateReader_choice (⟨s61.s, w64 (s61.at_ + 1), s61.wrong⟩ : know_templateReader) (⟨#[125]⟩ : ByteArray)) fun x114 => some ((⟨x59, (124 : UInt8), x114.1, ByteArray.empty⟩ : know_field), x114.2) else Option.bind (if ((x87.toNat : Int) == 63) = true then Option.bind (know_templateReader_choice (⟨s61.s, w64 (s61.at_ + 1), s61.wrong⟩ : know_templateReader) (⟨#[125, 58]⟩ : ByteArray)) fun x138 => Option.bind (know_templateReader_must x138.2 58) fun x146 => Option.bind (know_templateReader_choice x146 (⟨#[125]⟩ : ByteArray)) fun x151 => some ((⟨x59, (63 : UInt8), x138.1, x151.1⟩ : know_field), x151.2) else some ((⟨x59, 0, ByteArray.empty, ByteArray.empty⟩ : know_field), s61)) fun s124 => some (s124.1, s124.2)) fun s100 => some (s100.1, s100.2)) fun s92 =>
    Option.bind (know_templateReader_must s92.2 125) fun x163 =>
    Option.bind (know_templateReader_must x163 125) fun x168 =>
    some (s92.1, x168)

/-- porterslodge know parse -/
noncomputable def know_parse (s : ByteArray) : Option ((List know_field) × Int × Bool) :=
  Option.bind (whileB (fun s17 => Option.bind (know_templateReader_text s17.2) fun x30 => Option.bind (if (!(strEq x30.1 (⟨#[]⟩ : ByteArray))) = true then Option.bind (appendL 2513169434916 s17.1 ([(⟨ByteArray.empty, 0, x30.1, ByteArray.empty⟩ : know_field)] : List know_field)) fun x51 => some x51 else some s17.1) fun s36 => if (x30.2.wrong || (x30.2.at_ == (s.size : Int))) = true then some (.rt (s36, x30.2.at_, !x30.2.wrong)) else Option.bind (know_templateReader_field x30.2) fun x65 => Option.bind (appendL 2513169434916 s36 ([x65.1] : List know_field)) fun x76 => if x65.2.wrong = true then some (.rt (([] : (List know_field)), x65.2.at_, false)) else some (.nx (x76, x65.2))) (([] : (List know_field)), (⟨s, 0, false⟩ : know_templateReader))) fun o6 => o6.andThen (fun y => some y) fun s7 =>
  none

/-- porterslodge know names -/
def know_names (l : (List know_field)) : Option (List ByteArray) :=
  Option.bind (rangeB (fun k6 s14 => Option.bind (Option.bind (idx l (k6 : Int)) fun x39 => Option.bind (if (!(strEq x39.name (⟨#[]⟩ : ByteArray))) = true then Option.bind (appendL 8796093022208 s14 ([x39.name] : List ByteArray)) fun x70 => some x70 else some s14) fun s54 => some s54) fun s30 => some (.nx s30)) l.length 0 ([] : (List ByteArray))) fun o3 => o3.andThen (fun y => some y) fun s4 =>
  some s4

/-- porterslodge know template -/
noncomputable def know_template (s : ByteArray) : Option ((List know_field) × Int × Int) :=
  if (decide ((20000 : Int) < (s.size : Int))) = true then
    some (([] : (List know_field)), 0, 4)
  else
    Option.bind (know_plain s true) fun x2 =>
    if (!x2) = true then
      some (([] : (List know_field)), 0, 9)
    else
      Option.bind (know_parse s) fun x4 =>
      if (!x4.2.2) = true then
        some (([] : (List know_field)), x4.2.1, 8)
      else
        Option.bind (know_names x4.1) fun x13 =>
        if (decide ((40 : Int) < (x13.length : Int))) = true then
          some (([] : (List know_field)), 0, 4)
        else
          some (x4.1, 0, 0)

/-- porterslodge know within -/
def know_within (n : Int) (low : Int) (high : Int) : Bool :=
  ((decide (low ≤ n)) && (decide (n ≤ high)))

/-- porterslodge know checkPairs 1 -/
def know_checkPairs_1 (c : Int) : Bool :=
  ((decide ((128 : Int) ≤ c)) || (!(know_nameByte ((toU8 c).toNat : Int))))

/-- porterslodge know checkPairs -/
noncomputable def know_checkPairs (l : (List know_Pair)) : Option ((List (ByteArray × ByteArray)) × Int) :=
  if (decide ((40 : Int) < (l.length : Int))) = true then
    some (([] : (List (ByteArray × ByteArray))), 4)
  else
    Option.bind (rangeB (fun k12 s18 => Option.bind (idx l (k12 : Int)) fun x31 => Option.bind (if (!(know_within (x31.name.size : Int) 1 20)) = true then (some true) else (some (decide (0 ≤ Go.Lib.idxFunc (fun y => know_checkPairs_1 (y : Int)) true x31.name)))) fun s45 => if s45 = true then some (.rt (([] : (List (ByteArray × ByteArray))), 3)) else if ((mapGet s18 x31.name).isSome) = true then some (.rt (([] : (List (ByteArray × ByteArray))), 6)) else if (decide ((20000 : Int) < (x31.value.size : Int))) = true then some (.rt (([] : (List (ByteArray × ByteArray))), 4)) else some (.nx (mapPut s18 x31.name x31.value))) l.length 0 ([] : List (ByteArray × ByteArray))) fun o9 => o9.andThen (fun y => some y) fun s10 =>
    some (s10, 0)

/-- (*strings.Builder).Len -/
def strings_Builder_Len (b : ByteArray) : Option Int := some (b.size : Int)

/-- porterslodge know Fill -/
noncomputable def know_Fill (s : ByteArray) (l : (List know_Pair)) : Option (ByteArray × Int) :=
  Option.bind (know_template s) fun x3 =>
  if (x3.2.2 != 0) = true then
    some ((⟨#[]⟩ : ByteArray), x3.2.2)
  else
    Option.bind (know_checkPairs l) fun x10 =>
    if (x10.2 != 0) = true then
      some ((⟨#[]⟩ : ByteArray), x10.2)
    else
      Option.bind (rangeB (fun k25 s31 => Option.bind (α := Lp _ _) (Option.bind (idx x3.1 (k25 : Int)) fun x53 => Option.bind (α := Lp _ _) (Option.bind (α := Lp _ _) (if (((strEq x53.name (⟨#[]⟩ : ByteArray)) || (((x53.kind.toNat : Int) == 124) && (strEq ((mapGet x10.1 x53.name).getD ByteArray.empty) (⟨#[]⟩ : ByteArray)))) || (((x53.kind.toNat : Int) == 63) && (!(strEq ((mapGet x10.1 x53.name).getD ByteArray.empty) (⟨#[]⟩ : ByteArray))))) = true then Option.bind (strings_Builder_WriteString s31 x53.one) fun x96 => some (.fin x96.2.2) else Option.bind (α := Lp _ _) (if ((x53.kind.toNat : Int) == 63) = true then Option.bind (strings_Builder_WriteString s31 x53.two) fun x113 => some (.fin x113.2.2) else if (!((mapGet x10.1 x53.name).isSome)) = true then some (.rt ((⟨#[]⟩ : ByteArray), 7)) else Option.bind (strings_Builder_WriteString s31 ((mapGet x10.1 x53.name).getD ByteArray.empty)) fun x120 => some (.fin x120.2.2)) fun o103 => o103.andThen (fun y => some (.rt y)) fun s104 => some (.fin s104)) fun o86 => o86.andThen (fun y => some (.rt y)) fun s87 => some (.fin s87)) fun o67 => o67.andThen (fun y => some (.rt y)) fun s68 => some (.fin s68)) fun o45 => o45.andThen (fun y => some (.rt y)) fun s46 => some (.nx s46)) x3.1.length 0 ByteArray.empty) fun o22 => o22.andThen (fun y => some y) fun s23 =>
      Option.bind (strings_Builder_Len s23) fun x132 =>
      if (decide ((40000 : Int) < x132)) = true then
        some ((⟨#[]⟩ : ByteArray), 4)
      else
        Option.bind (strings_Builder_String s23) fun x138 =>
        some (x138, 0)

/-- strings.ReplaceAll -/
def strings_ReplaceAll (s : ByteArray) (old : ByteArray) (new : ByteArray) : Option ByteArray :=
  if s.size < 4294967281 ∧ 1 ≤ old.size ∧ s.size + Go.Lib.countB s old * new.size ≤ 140737488355328 then some ⟨(Go.Lib.replaceAll s.data.toList old.data.toList new.data.toList).toArray⟩ else none

/-- porterslodge portref2 lowByte 1 -/
def portref2_lowByte_1 (r_ : Int) : Bool :=
  ((decide (r_ < 32)) || (r_ == 127))

/-- porterslodge portref2 lowByte -/
def portref2_lowByte (s : ByteArray) : Option Bool :=
  some (decide (0 ≤ Go.Lib.idxFunc (fun y => portref2_lowByte_1 (y : Int)) true s))

/-- porterslodge portref2 fieldString -/
noncomputable def portref2_fieldString (s : ByteArray) (at_ : Int) (ends : ByteArray) : Option (ByteArray × Int × Bool) :=
  Option.bind (whileB (fun s8 => if (decide (s8.1 < (s.size : Int))) = true then Option.bind (idxS s s8.1) fun x18 => Option.bind (α := Lp _ _) (Option.bind (α := Lp _ _) (if (decide ((0 : Int) ≤ (strings_IndexByte ends (x18.toNat : Int)))) = true then some (.rt (s8.2, s8.1, true)) else Option.bind (α := Lp _ _) (if ((x18.toNat : Int) == 92) = true then Option.bind (if ((w64 (s8.1 + 1)) == (s.size : Int)) = true then (some true) else (Option.bind (idxS s (w64 (s8.1 + 1))) fun x41 => some (decide ((strings_IndexByte (⟨#[125, 58, 124, 123, 92]⟩ : ByteArray) (x41.toNat : Int)) < 0)))) fun s40 => if s40 = true then some (.rt ((⟨#[]⟩ : ByteArray), w64 (s8.1 + 1), false)) else Option.bind (sliceS s (some (w64 (s8.1 + 1))) (some (w64 ((w64 (s8.1 + 1)) + 1)))) fun x43 => Option.bind (catS s8.2 x43) fun x44 => some (.fin (w64 (s8.1 + 1), x44)) else if ((((x18.toNat : Int) == 123) || ((x18.toNat : Int) == 125)) || ((x18.toNat : Int) == 10)) = true then some (.rt ((⟨#[]⟩ : ByteArray), s8.1, false)) else Option.bind (sliceS s (some s8.1) (some (w64 (s8.1 + 1)))) fun x51 => Option.bind (catS s8.2 x51) fun x52 => some (.fin (s8.1, x52))) fun o32 => o32.andThen (fun y => some (.rt y)) fun s33 => some (.fin (s33.1, s33.2))) fun o25 => o25.andThen (fun y => some (.rt y)) fun s26 => some (.fin (s26.1, s26.2))) fun o19 => o19.andThen (fun y => some (.rt y)) fun s20 => some (.nx (w64 (s20.1 + 1), s20.2)) else some (.bk (s8.1, s8.2))) (at_, (⟨#[]⟩ : ByteArray))) fun o1 => o1.andThen (fun y => some y) fun s2 =>
  some ((⟨#[]⟩ : ByteArray), s2.1, false)

/-- porterslodge portref2 templateOf -/
noncomputable def portref2_templateOf (s : ByteArray) : Option ((List portref2_piece) × Int × Bool) :=
  Option.bind (whileB (fun s12 => if (decide (s12.2.1 < (s.size : Int))) = true then Option.bind (α := Lp _ _) (Option.bind (α := Lp _ _) (Option.bind (idxS s s12.2.1) fun x46 => Option.bind (α := Lp _ _) (if ((x46.toNat : Int) == 92) = true then Option.bind (if ((w64 (s12.2.1 + 1)) == (s.size : Int)) = true then (some true) else (Option.bind (idxS s (w64 (s12.2.1 + 1))) fun x60 => Option.bind (if ((x60.toNat : Int) != 123) = true then (some ((x60.toNat : Int) != 92)) else (some false)) fun s62 => some s62)) fun s59 => if s59 = true then some (.rt (([] : (List portref2_piece)), w64 (s12.2.1 + 1), false)) else Option.bind (sliceS s (some (w64 (s12.2.1 + 1))) (some (w64 (s12.2.1 + 2)))) fun x64 => Option.bind (catS s12.2.2 x64) fun x65 => some (.fin (s12.1, w64 (s12.2.1 + 2), x65)) else Option.bind (α := Lp _ _) (if ((x46.toNat : Int) != 123) = true then Option.bind (sliceS s (some s12.2.1) (some (w64 (s12.2.1 + 1)))) fun x78 => Option.bind (catS s12.2.2 x78) fun x79 => some (.fin (s12.1, w64 (s12.2.1 + 1), x79)) else Option.bind (if ((w64 (s12.2.1 + 1)) == (s.size : Int)) = true then (some true) else (Option.bind (idxS s (w64 (s12.2.1 + 1))) fun x83 => some ((x83.toNat : Int) != 123))) fun s82 => if s82 = true then some (.rt (([] : (List portref2_piece)), w64 (s12.2.1 + 1), false)) else Option.bind (whileB (fun s92 => Option.bind (if ((decide (s92 < (s.size : Int))) && (decide ((w64 ((w64 (s92 - s12.2.1)) - 2)) < 20))) = true then (Option.bind (idxS s s92) fun x105 => Option.bind (if (decide ((97 : Int) ≤ (x105.toNat : Int))) = true then (some (decide ((x105.toNat : Int) ≤ 122))) else (some false)) fun s107 => Option.bind (if s107 = true then (some true) else (Option.bind (if (decide ((48 : Int) ≤ (x105.toNat : Int))) = true then (some (decide ((x105.toNat : Int) ≤ 57))) else (some false)) fun s111 => some s111)) fun s109 => Option.bind (if s109 = true then (some true) else (some ((x105.toNat : Int) == 95))) fun s113 => some s113) else (some false)) fun s104 => if s104 = true then some (.nx (w64 (s92 + 1))) else some (.bk s92)) (w64 (s12.2.1 + 2))) fun o85 => o85.andThen (fun y => some (.rt y)) fun s86 => Option.bind (if ((s86 == (w64 (s12.2.1 + 2))) || (s86 == (s.size : Int))) = true then (some true) else (Option.bind (idxS s s86) fun x122 => some (decide ((strings_IndexByte (⟨#[125, 124, 63]⟩ : ByteArray) (x122.toNat : Int)) < 0)))) fun s121 => if s121 = true then some (.rt (([] : (List portref2_piece)), s86, false)) else Option.bind (sliceS s (some (w64 (s12.2.1 + 2))) (some s86)) fun x130 => Option.bind (idxS s s86) fun x131 => Option.bind (α := Lp _ _) (Option.bind (α := Lp _ _) (if ((x131.toNat : Int) == 125) = true then some (.fin (s12.1, s86, (⟨ByteArray.empty, x130, (102 : UInt8), ByteArray.empty, ByteArray.empty⟩ : portref2_piece))) else Option.bind (α := Lp _ _) (if ((x131.toNat : Int) == 124) = true then Option.bind (portref2_fieldString s (w64 (s86 + 1)) (⟨#[125]⟩ : ByteArray)) fun x168 => if (!x168.2.2) = true then some (.rt (([] : (List portref2_piece)), x168.2.1, false)) else some (.fin (s12.1, x168.2.1, (⟨ByteArray.empty, x130, x131, x168.1, ByteArray.empty⟩ : portref2_piece))) else Option.bind (portref2_fieldString s (w64 (s86 + 1)) (⟨#[58]⟩ : ByteArray)) fun x174 => if (!x174.2.2) = true then some (.rt (([] : (List portref2_piece)), x174.2.1, false)) else Option.bind (portref2_fieldString s (w64 (x174.2.1 + 1)) (⟨#[125]⟩ : ByteArray)) fun x179 => if (!x179.2.2) = true then some (.rt (([] : (List portref2_piece)), x179.2.1, false)) else some (.fin (s12.1, x179.2.1, (⟨ByteArray.empty, x130, x131, x174.1, x179.1⟩ : portref2_piece)))) fun o157 => o157.andThen (fun y => some (.rt y)) fun s158 => some (.fin (s158.1, s158.2.1, s158.2.2))) fun o142 => o142.andThen (fun y => some (.rt y)) fun s143 => some (.fin (s143.1, s143.2.1, s143.2.2))) fun o132 => o132.andThen (fun y => some (.rt y)) fun s133 => Option.bind (if ((w64 (s133.2.1 + 1)) == (s.size : Int)) = true then (some true) else (Option.bind (idxS s (w64 (s133.2.1 + 1))) fun x189 => some ((x189.toNat : Int) != 125))) fun s188 => if s188 = true then some (.rt (([] : (List portref2_piece)), w64 (s133.2.1 + 1), false)) else Option.bind (appendL 1954687338268 s133.1 ([(⟨s12.2.2, ByteArray.empty, 0, ByteArray.empty, ByteArray.empty⟩ : portref2_piece), s133.2.2] : List portref2_piece)) fun x197 => some (.fin (x197, w64 (s133.2.1 + 2), (⟨#[]⟩ : ByteArray)))) fun o67 => o67.andThen (fun y => some (.rt y)) fun s68 => some (.fin (s68.1, s68.2.1, s68.2.2))) fun o47 => o47.andThen (fun y => some (.rt y)) fun s48 => some (.fin (s48.1, s48.2.1, s48.2.2))) fun o36 => o36.andThen (fun y => some (.rt y)) fun s37 => some (.fin (s37.1, s37.2.1, s37.2.2))) fun o26 => o26.andThen (fun y => some (.rt y)) fun s27 => some (.nx (s27.1, s27.2.1, s27.2.2)) else some (.bk (s12.1, s12.2.1, s12.2.2))) (([] : (List portref2_piece)), 0, (⟨#[]⟩ : ByteArray))) fun o1 => o1.andThen (fun y => some y) fun s2 =>
  Option.bind (appendL 1954687338268 s2.1 ([(⟨s2.2.2, ByteArray.empty, 0, ByteArray.empty, ByteArray.empty⟩ : portref2_piece)] : List portref2_piece)) fun x215 =>
  some (x215, 0, true)

/-- porterslodge portref2 TemplateFault -/
noncomputable def portref2_TemplateFault (s : ByteArray) : Option ((List portref2_piece) × Int × Int) :=
  if (decide ((20000 : Int) < (s.size : Int))) = true then
    some (([] : (List portref2_piece)), 0, 4)
  else
    Option.bind (strings_ReplaceAll s (⟨#[10]⟩ : ByteArray) (⟨#[]⟩ : ByteArray)) fun x2 =>
    Option.bind (portref2_lowByte x2) fun x6 =>
    if x6 = true then
      some (([] : (List portref2_piece)), 0, 9)
    else
      Option.bind (portref2_templateOf s) fun x11 =>
      if (!x11.2.2) = true then
        some (([] : (List portref2_piece)), x11.2.1, 8)
      else
        if (decide ((40 : Int) < (w64 (Int.tdiv (x11.1.length : Int) 2)))) = true then
          some (([] : (List portref2_piece)), 0, 4)
        else
          some (x11.1, 0, 0)

/-- strings.Trim -/
def strings_Trim (s : ByteArray) (cutset : ByteArray) : Option ByteArray :=
  if s.size ≤ 9223372036854775807 ∧ cutset.size < 4294967281 ∧ (cutset.data.toList.all fun b => decide (b.toNat < 128)) = true then some ⟨(Go.Lib.trimS s.data.toList cutset.data.toList).toArray⟩ else none

/-- porterslodge portref2 IsName -/
def portref2_IsName (s : ByteArray) : Option Bool :=
  Option.bind (if (decide ((1 : Int) ≤ (s.size : Int))) = true then (if (decide ((s.size : Int) ≤ 20)) = true then (Option.bind (strings_Trim s (⟨#[97, 98, 99, 100, 101, 102, 103, 104, 105, 106, 107, 108, 109, 110, 111, 112, 113, 114, 115, 116, 117, 118, 119, 120, 121, 122, 48, 49, 50, 51, 52, 53, 54, 55, 56, 57, 95]⟩ : ByteArray)) fun x11 => some (strEq x11 (⟨#[]⟩ : ByteArray))) else (some false)) else (if false = true then (Option.bind (strings_Trim s (⟨#[97, 98, 99, 100, 101, 102, 103, 104, 105, 106, 107, 108, 109, 110, 111, 112, 113, 114, 115, 116, 117, 118, 119, 120, 121, 122, 48, 49, 50, 51, 52, 53, 54, 55, 56, 57, 95]⟩ : ByteArray)) fun x18 => some (strEq x18 (⟨#[]⟩ : ByteArray))) else (some false))) fun s2 =>
  some s2

/-- strings.Join -/
def strings_Join (elems : List ByteArray) (sep : ByteArray) : Option ByteArray :=
  if elems.length ≤ 140737488355328 ∧ (Go.Lib.join (elems.map (·.data.toList)) sep.data.toList).length ≤ 140737488355328 then some ⟨(Go.Lib.join (elems.map (·.data.toList)) sep.data.toList).toArray⟩ else none

/-- porterslodge portref2 FillOf -/
noncomputable def portref2_FillOf (s : ByteArray) (values : (List know_Pair)) : Option (ByteArray × Int) :=
  Option.bind (portref2_TemplateFault s) fun x3 =>
  if (x3.2.2 != 0) = true then
    some ((⟨#[]⟩ : ByteArray), x3.2.2)
  else
    if (decide ((40 : Int) < (values.length : Int))) = true then
      some ((⟨#[]⟩ : ByteArray), 4)
    else
      Option.bind (rangeB (fun k19 s25 => Option.bind (idx values (k19 : Int)) fun x38 => Option.bind (portref2_IsName x38.name) fun x52 => if (!x52) = true then some (.rt ((⟨#[]⟩ : ByteArray), 3)) else if ((mapGet s25 x38.name).isSome) = true then some (.rt ((⟨#[]⟩ : ByteArray), 6)) else if (decide ((20000 : Int) < (x38.value.size : Int))) = true then some (.rt ((⟨#[]⟩ : ByteArray), 4)) else some (.nx (mapPut s25 x38.name x38.value))) values.length 0 ([] : List (ByteArray × ByteArray))) fun o16 => o16.andThen (fun y => some y) fun s17 =>
      Option.bind (rangeB (fun k72 s80 => Option.bind (α := Lp _ _) (Option.bind (idx x3.1 (k72 : Int)) fun x105 => Option.bind (α := Lp _ _) (Option.bind (α := Lp _ _) (if ((x105.kind.toNat : Int) == 0) = true then Option.bind (appendL 8796093022208 s80 ([x105.text] : List ByteArray)) fun x147 => some (.fin x147) else Option.bind (α := Lp _ _) (if (((x105.kind.toNat : Int) == 102) && (!((mapGet s17 x105.name).isSome))) = true then some (.rt ((⟨#[]⟩ : ByteArray), 7)) else Option.bind (if ((x105.kind.toNat : Int) == 102) = true then some ((x105.kind.toNat : Int) == 102) else some (((x105.kind.toNat : Int) == 124) && (!(strEq ((mapGet s17 x105.name).getD ByteArray.empty) (⟨#[]⟩ : ByteArray))))) fun s170 => Option.bind (if s170 = true then Option.bind (appendL 8796093022208 s80 ([((mapGet s17 x105.name).getD ByteArray.empty)] : List ByteArray)) fun x197 => some x197 else Option.bind (if ((x105.kind.toNat : Int) == 124) = true then some ((x105.kind.toNat : Int) == 124) else some (!(strEq ((mapGet s17 x105.name).getD ByteArray.empty) (⟨#[]⟩ : ByteArray)))) fun s206 => Option.bind (if s206 = true then Option.bind (appendL 8796093022208 s80 ([x105.one] : List ByteArray)) fun x231 => some x231 else Option.bind (appendL 8796093022208 s80 ([x105.both] : List ByteArray)) fun x244 => some x244) fun s215 => some s215) fun s182 => some (.fin s182)) fun o157 => o157.andThen (fun y => some (.rt y)) fun s158 => some (.fin s158)) fun o130 => o130.andThen (fun y => some (.rt y)) fun s131 => some (.fin s131)) fun o119 => o119.andThen (fun y => some (.rt y)) fun s120 => some (.fin s120)) fun o95 => o95.andThen (fun y => some (.rt y)) fun s96 => some (.nx s96)) x3.1.length 0 ([] : (List ByteArray))) fun o69 => o69.andThen (fun y => some y) fun s70 =>
      Option.bind (strings_Join s70 (⟨#[]⟩ : ByteArray)) fun x259 =>
      if (decide ((40000 : Int) < (x259.size : Int))) = true then
        some ((⟨#[]⟩ : ByteArray), 4)
      else
        some (x259, 0)

/-- porterslodge portlaw2 TemplateFills -/
noncomputable def portlaw2_TemplateFills (s : ByteArray) (values : (List know_Pair)) : Option Bool :=
  Option.bind (know_Fill s values) fun x3 =>
  Option.bind (portref2_FillOf s values) fun x7 =>
  some ((strEq x3.1 x7.1) && (x3.2 == x7.2))

end Go.Proofs.YtfdhiclmjfkflaaDoor.M
