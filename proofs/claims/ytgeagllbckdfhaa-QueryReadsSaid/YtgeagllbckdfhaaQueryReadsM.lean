/-
  Written by program (gen.py) from the IR of the dump: plain models of the functions.
-/
import Derived.Test.YtgeagllbckdfhaaPu
import Derived.Test.YtgeagllbckdfhaaPj
namespace Go.Proofs.Ytgeagllbckdfhaa.M
open Go Go.Pu
set_option linter.unusedVariables false
set_option linter.unusedSimpArgs false

structure know_Part where
  kind : Int
  not : Bool
  words : (List ByteArray)

structure know_Query where
  parts : (List know_Part)

structure know_queryReader where
  s : ByteArray
  at_ : Int

/-- porterslodge know queryReader is -/
def know_queryReader_is (r_ : know_queryReader) (c : Int) : Option (Bool × know_queryReader) :=
  Option.bind (if (decide (r_.at_ < (r_.s.size : Int))) = true then (Option.bind (idxS r_.s r_.at_) fun x3 => some ((x3.toNat : Int) == c)) else (some false)) fun s2 =>
  if s2 = true then
    some (true, (⟨r_.s, w64 (r_.at_ + 1)⟩ : know_queryReader))
  else
    some (false, r_)

/-- porterslodge know queryReader blanks -/
noncomputable def know_queryReader_blanks (r_ : know_queryReader) : Option know_queryReader :=
  Option.bind (whileB (fun s10 => Option.bind (know_queryReader_is s10 32) fun x21 => if x21.1 = true then some (.nx x21.2) else some (.bk x21.2)) r_) fun o1 => o1.andThen (fun y => some y) fun s2 =>
  some s2

/-- internal stringslite IndexByte -/
def internal_stringslite_IndexByte (s : ByteArray) (c : Int) : Int :=
  (indexByteS s c)

/-- strings IndexByte -/
def strings_IndexByte (s : ByteArray) (c : Int) : Int :=
  (internal_stringslite_IndexByte s c)

/-- porterslodge know digit -/
def know_digit (c : Int) : Bool :=
  ((decide ((48 : Int) ≤ c)) && (decide (c ≤ 57)))

/-- porterslodge know letter -/
def know_letter (c : Int) : Bool :=
  (((decide ((97 : Int) ≤ c)) && (decide (c ≤ 122))) || ((decide ((65 : Int) ≤ c)) && (decide (c ≤ 90))))

/-- porterslodge know inWord -/
def know_inWord (c : Int) : Bool :=
  (((know_letter c) || (know_digit c)) || (decide ((128 : Int) ≤ c)))

/-- porterslodge know lower -/
def know_lower (s : ByteArray) : Option ByteArray :=
  Option.bind (bytesL s) fun x1 =>
  Option.bind (rangeB (fun k10 s18 => Option.bind (Option.bind (idx s18 (k10 : Int)) fun x43 => Option.bind (if ((decide ((65 : Int) ≤ (x43.toNat : Int))) && (decide ((x43.toNat : Int) ≤ 90))) = true then Option.bind (setI s18 (k10 : Int) (toU8 (((toU8 ((x43.toNat : Int) + 97)).toNat : Int) - 65))) fun x65 => some x65 else some s18) fun s51 => some s51) fun s34 => some (.nx s34)) x1.length 0 x1) fun o7 => o7.andThen (fun y => some y) fun s8 =>
  some (⟨s8.toArray⟩ : ByteArray)

/-- porterslodge know Words -/
noncomputable def know_Words (s : ByteArray) : Option (List ByteArray) :=
  Option.bind (whileB (fun s12 => if (decide (s12.2 < (s.size : Int))) = true then Option.bind (whileB (fun s33 => Option.bind (if (decide (s33 < (s.size : Int))) = true then (Option.bind (idxS s s33) fun x44 => some (know_inWord (x44.toNat : Int))) else (some false)) fun s43 => if s43 = true then some (.nx (w64 (s33 + 1))) else some (.bk s33)) s12.2) fun o26 => o26.andThen (fun y => some (.rt y)) fun s27 => Option.bind (if ((decide (s12.2 < s27)) && (decide ((w64 (s27 - s12.2)) ≤ 30))) = true then Option.bind (sliceS s (some s12.2) (some s27)) fun x62 => Option.bind (know_lower x62) fun x63 => Option.bind (appendL 8796093022208 s12.1 ([x63] : List ByteArray)) fun x73 => some x73 else some s12.1) fun s52 => some (.nx (s52, w64 (s27 + 1))) else some (.bk (s12.1, s12.2))) (([] : (List ByteArray)), 0)) fun o1 => o1.andThen (fun y => some y) fun s2 =>
  some s2.1

/-- porterslodge know queryReader part -/
noncomputable def know_queryReader_part (r_ : know_queryReader) : Option (know_Part × Bool × know_queryReader) :=
  Option.bind (know_queryReader_is r_ 45) fun x6 =>
  Option.bind (know_queryReader_is x6.2 34) fun x20 =>
  if x20.1 = true then
    Option.bind (sliceS x20.2.s (some x20.2.at_) none) fun x26 =>
    Option.bind (if (decide ((0 : Int) ≤ (strings_IndexByte x26 34))) = true then Option.bind (sliceS x20.2.s (some x20.2.at_) (some (w64 (x20.2.at_ + (strings_IndexByte x26 34))))) fun x44 => Option.bind (know_Words x44) fun x45 => some (⟨1, x6.1, x45⟩ : know_Part) else some (⟨0, x6.1, ([] : (List ByteArray))⟩ : know_Part)) fun s31 =>
    if ((s31.words.length : Int) == 0) = true then
      some (s31, false, (⟨x20.2.s, x6.2.at_⟩ : know_queryReader))
    else
      some (s31, true, (⟨x20.2.s, w64 (x20.2.at_ + (w64 ((strings_IndexByte x26 34) + 1)))⟩ : know_queryReader))
  else
    Option.bind (whileB (fun s99 => Option.bind (if ((decide (s99.at_ < (s99.s.size : Int))) && (decide ((w64 (s99.at_ - x6.2.at_)) < 30))) = true then (Option.bind (idxS s99.s s99.at_) fun x114 => some (know_inWord (x114.toNat : Int))) else (some false)) fun s113 => if s113 = true then some (.nx (⟨s99.s, w64 (s99.at_ + 1)⟩ : know_queryReader)) else some (.bk s99)) x20.2) fun o90 => o90.andThen (fun y => some y) fun s91 =>
    if (s91.at_ == x6.2.at_) = true then
      some ((⟨0, x6.1, ([] : (List ByteArray))⟩ : know_Part), false, s91)
    else
      Option.bind (sliceS s91.s (some x6.2.at_) (some s91.at_)) fun x130 =>
      Option.bind (know_lower x130) fun x131 =>
      Option.bind (know_queryReader_is s91 42) fun x146 =>
      Option.bind (if x146.1 = true then some (⟨2, x6.1, ([x131] : List ByteArray)⟩ : know_Part) else some (⟨0, x6.1, ([x131] : List ByteArray)⟩ : know_Part)) fun s152 =>
      some (s152, true, x146.2)

/-- porterslodge know ReadQuery -/
noncomputable def know_ReadQuery (s : ByteArray) : Option (know_Query × Int × Int) :=
  if (decide ((400 : Int) < (s.size : Int))) = true then
    some ((⟨([] : (List know_Part))⟩ : know_Query), 0, 4)
  else
    Option.bind (know_queryReader_blanks (⟨s, 0⟩ : know_queryReader)) fun x21 =>
    Option.bind (whileB (fun s39 => if (decide (s39.1.at_ < (s.size : Int))) = true then Option.bind (know_queryReader_part s39.1) fun x55 => if (!x55.2.1) = true then some (.rt ((⟨([] : (List know_Part))⟩ : know_Query), x55.2.2.at_, 8)) else Option.bind (appendL 3518437208883 s39.2.1.parts ([x55.1] : List know_Part)) fun x93 => if (x55.2.2.at_ == (s.size : Int)) = true then some (.bk (x55.2.2, (⟨x93⟩ : know_Query), s39.2.2)) else Option.bind (know_queryReader_is x55.2.2 32) fun x107 => if (!x107.1) = true then some (.rt ((⟨([] : (List know_Part))⟩ : know_Query), x107.2.at_, 8)) else Option.bind (know_queryReader_blanks x107.2) fun x124 => some (.nx (x124, (⟨x93⟩ : know_Query), s39.2.2)) else some (.bk (s39.1, s39.2.1, s39.2.2))) (x21, (⟨([] : (List know_Part))⟩ : know_Query), (⟨([] : (List know_Part))⟩ : know_Query))) fun o26 => o26.andThen (fun y => some y) fun s27 =>
    if (decide ((20 : Int) < (s27.2.1.parts.length : Int))) = true then
      some ((⟨([] : (List know_Part))⟩ : know_Query), 0, 4)
    else
      some (s27.2.1, 0, 0)

/-- porterslodge portref2 isWordByte -/
def portref2_isWordByte (b : Int) : Bool :=
  (((((decide ((97 : Int) ≤ b)) && (decide (b ≤ 122))) || ((decide ((65 : Int) ≤ b)) && (decide (b ≤ 90)))) || ((decide ((48 : Int) ≤ b)) && (decide (b ≤ 57)))) || (decide ((128 : Int) ≤ b)))

/-- porterslodge portref2 lower -/
def portref2_lower (s : ByteArray) : Option ByteArray :=
  Option.bind (bytesL s) fun x1 =>
  Option.bind (rangeB (fun k10 s18 => Option.bind (Option.bind (idx s18 (k10 : Int)) fun x43 => Option.bind (if ((decide ((65 : Int) ≤ (x43.toNat : Int))) && (decide ((x43.toNat : Int) ≤ 90))) = true then Option.bind (setI s18 (k10 : Int) (toU8 ((x43.toNat : Int) + 32))) fun x65 => some x65 else some s18) fun s51 => some s51) fun s34 => some (.nx s34)) x1.length 0 x1) fun o7 => o7.andThen (fun y => some y) fun s8 =>
  some (⟨s8.toArray⟩ : ByteArray)

/-- porterslodge portref2 WordsOf -/
noncomputable def portref2_WordsOf (s : ByteArray) : Option (List ByteArray) :=
  Option.bind (whileB (fun s12 => if (decide (s12.2 < (s.size : Int))) = true then Option.bind (whileB (fun s33 => Option.bind (if (decide (s33 < (s.size : Int))) = true then (Option.bind (idxS s s33) fun x44 => some (portref2_isWordByte (x44.toNat : Int))) else (some false)) fun s43 => if s43 = true then some (.nx (w64 (s33 + 1))) else some (.bk s33)) s12.2) fun o26 => o26.andThen (fun y => some (.rt y)) fun s27 => Option.bind (if ((decide (s12.2 < s27)) && (decide ((w64 (s27 - s12.2)) ≤ 30))) = true then Option.bind (sliceS s (some s12.2) (some s27)) fun x62 => Option.bind (portref2_lower x62) fun x63 => Option.bind (appendL 8796093022208 s12.1 ([x63] : List ByteArray)) fun x73 => some x73 else some s12.1) fun s52 => some (.nx (s52, (if s27 < w64 (s12.2 + 1) then w64 (s12.2 + 1) else s27))) else some (.bk (s12.1, s12.2))) (([] : (List ByteArray)), 0)) fun o1 => o1.andThen (fun y => some y) fun s2 =>
  some s2.1

/-- porterslodge portref2 ReadQueryOf 1 -/
def portref2_ReadQueryOf_1 (at_ : Int) : Option (know_Query × Int × Int) :=
  some ((⟨([] : (List know_Part))⟩ : know_Query), at_, 8)

/-- porterslodge portref2 ReadQueryOf -/
noncomputable def portref2_ReadQueryOf (s : ByteArray) : Option (know_Query × Int × Int) :=
  if (decide ((400 : Int) < (s.size : Int))) = true then
    some ((⟨([] : (List know_Part))⟩ : know_Query), 0, 4)
  else
    Option.bind (whileB (fun s28 => if (decide (s28.1 < (s.size : Int))) = true then Option.bind (α := Lp _ _) (Option.bind (idxS s s28.1) fun x56 => if ((x56.toNat : Int) == 32) = true then some (.fin (w64 (s28.1 + 1), s28.2.1, s28.2.2)) else Option.bind (if ((x56.toNat : Int) == 45) = true then some (w64 (s28.1 + 1), (⟨0, true, ([] : (List ByteArray))⟩ : know_Part)) else some (s28.1, (⟨0, false, ([] : (List ByteArray))⟩ : know_Part))) fun s69 => Option.bind (α := Lp _ _) (Option.bind (if (decide (s69.1 < (s.size : Int))) = true then (Option.bind (idxS s s69.1) fun x98 => some ((x98.toNat : Int) == 34)) else (some false)) fun s97 => Option.bind (α := Lp _ _) (if s97 = true then Option.bind (sliceS s (some (w64 (s69.1 + 1))) none) fun x112 => Option.bind (if (decide ((strings_IndexByte x112 34) < 0)) = true then (some true) else (Option.bind (sliceS s (some (w64 (s69.1 + 1))) (some (w64 ((w64 (s69.1 + 1)) + (strings_IndexByte x112 34))))) fun x123 => Option.bind (portref2_WordsOf x123) fun x124 => some ((x124.length : Int) == 0))) fun s114 => if s114 = true then Option.bind (portref2_ReadQueryOf_1 s69.1) fun x134 => some (.rt (x134.1, x134.2.1, x134.2.2)) else Option.bind (sliceS s (some (w64 (s69.1 + 1))) (some (w64 ((w64 (s69.1 + 1)) + (strings_IndexByte x112 34))))) fun x146 => Option.bind (portref2_WordsOf x146) fun x147 => some (.fin (w64 (s69.1 + (w64 ((strings_IndexByte x112 34) + 2))), (⟨1, s69.2.not, x147⟩ : know_Part), s28.2.2)) else Option.bind (if (decide (s69.1 < (s.size : Int))) = true then (Option.bind (idxS s s69.1) fun x172 => some (portref2_isWordByte (x172.toNat : Int))) else (some false)) fun s171 => Option.bind (α := Lp _ _) (if s171 = true then Option.bind (whileB (fun s197 => Option.bind (if (decide (s197.1 < (s.size : Int))) = true then (Option.bind (idxS s s197.1) fun x212 => some (portref2_isWordByte (x212.toNat : Int))) else (some false)) fun s211 => if s211 = true then if ((w64 (s197.1 - s69.1)) == 30) = true then Option.bind (portref2_ReadQueryOf_1 s197.1) fun x215 => some (.rt (x215.1, x215.2.1, x215.2.2)) else some (.nx (w64 (s197.1 + 1), s197.2)) else some (.bk (s197.1, s197.2))) (s69.1, s28.2.2)) fun o186 => o186.andThen (fun y => some (.rt y)) fun s187 => Option.bind (sliceS s (some s69.1) (some s187.1)) fun x230 => Option.bind (portref2_lower x230) fun x231 => Option.bind (if (decide (s187.1 < (s.size : Int))) = true then (Option.bind (idxS s s187.1) fun x248 => some ((x248.toNat : Int) == 42)) else (some false)) fun s247 => Option.bind (if s247 = true then some (w64 (s187.1 + 1), (⟨2, s69.2.not, ([x231] : List ByteArray)⟩ : know_Part)) else some (s187.1, (⟨s69.2.kind, s69.2.not, ([x231] : List ByteArray)⟩ : know_Part))) fun s250 => some (.fin (s250.1, s250.2, s187.2)) else Option.bind (portref2_ReadQueryOf_1 s69.1) fun x266 => some (.rt (x266.1, x266.2.1, x266.2.2))) fun o173 => o173.andThen (fun y => some (.rt y)) fun s174 => some (.fin (s174.1, s174.2.1, s174.2.2))) fun o99 => o99.andThen (fun y => some (.rt y)) fun s100 => some (.fin (s100.1, s100.2.1, s100.2.2))) fun o84 => o84.andThen (fun y => some (.rt y)) fun s85 => Option.bind (if (decide (s85.1 < (s.size : Int))) = true then (Option.bind (idxS s s85.1) fun x282 => some ((x282.toNat : Int) != 32)) else (some false)) fun s281 => if s281 = true then Option.bind (portref2_ReadQueryOf_1 s85.1) fun x284 => some (.rt (x284.1, x284.2.1, x284.2.2)) else Option.bind (appendL 3518437208883 s28.2.1.parts ([s85.2.1] : List know_Part)) fun x301 => some (.fin (s85.1, (⟨x301⟩ : know_Query), s85.2.2))) fun o44 => o44.andThen (fun y => some (.rt y)) fun s45 => some (.nx (s45.1, s45.2.1, s45.2.2)) else some (.bk (s28.1, s28.2.1, s28.2.2))) (0, (⟨([] : (List know_Part))⟩ : know_Query), (⟨([] : (List know_Part))⟩ : know_Query))) fun o15 => o15.andThen (fun y => some y) fun s16 =>
    if (decide ((20 : Int) < (s16.2.1.parts.length : Int))) = true then
      some ((⟨([] : (List know_Part))⟩ : know_Query), 0, 4)
    else
      some (s16.2.1, 0, 0)

/-- slices EqualFunc porterslodge know Part porterslodge know Part porterslodge know Part porterslodge know Part -/
def slices_EqualFunc_Lknow_Part_Lknow_Part_know_Part_know_Part (s1 : (List know_Part)) (s2 : (List know_Part)) (eq : know_Part → know_Part → Option Bool) : Option Bool :=
  if ((s1.length : Int) != (s2.length : Int)) = true then
    some false
  else
    Option.bind (rangeB (fun k9 _ => Option.bind (idx s1 (k9 : Int)) fun x29 => Option.bind (idx s2 (k9 : Int)) fun x47 => Option.bind (eq x29 x47) fun x71 => if (!x71) = true then some (.rt false) else some (.nx ())) s1.length 0 ()) fun o6 => o6.andThen (fun y => some y) fun s7 =>
    some true

/-- slices Equal string string -/
def slices_Equal_Lstring_string (s1 : (List ByteArray)) (s2 : (List ByteArray)) : Option Bool :=
  if ((s1.length : Int) != (s2.length : Int)) = true then
    some false
  else
    Option.bind (rangeB (fun k9 _ => Option.bind (idx s1 (k9 : Int)) fun x29 => Option.bind (idx s2 (k9 : Int)) fun x33 => if (!(strEq x29 x33)) = true then some (.rt false) else some (.nx ())) s1.length 0 ()) fun o6 => o6.andThen (fun y => some y) fun s7 =>
    some true

/-- porterslodge portref2 Alike 5 -/
def portref2_Alike_5 (a_ : know_Part) (b : know_Part) : Option Bool :=
  Option.bind (if (a_.kind == b.kind) = true then (if (a_.not == b.not) = true then (Option.bind (slices_Equal_Lstring_string a_.words b.words) fun x39 => some x39) else (some false)) else (if false = true then (Option.bind (slices_Equal_Lstring_string a_.words b.words) fun x54 => some x54) else (some false))) fun s18 =>
  some s18

/-- porterslodge portref2 Alike -/
def portref2_Alike (a_ : know_Query) (b : know_Query) : Option Bool :=
  Option.bind (if true = true then (Option.bind (slices_EqualFunc_Lknow_Part_Lknow_Part_know_Part_know_Part a_.parts b.parts (fun y45 y46 => portref2_Alike_5 y45 y46)) fun x47 => some x47) else (some false)) fun s29 =>
  some s29

/-- porterslodge portlaw2 QueryReads -/
noncomputable def portlaw2_QueryReads (s : ByteArray) : Option Bool :=
  Option.bind (know_ReadQuery s) fun x1 =>
  Option.bind (portref2_ReadQueryOf s) fun x19 =>
  Option.bind (if (x1.2.1 == x19.2.1) = true then (if (x1.2.2 == x19.2.2) = true then (Option.bind (portref2_Alike x1.1 x19.1) fun x52 => some x52) else (some false)) else (if false = true then (Option.bind (portref2_Alike x1.1 x19.1) fun x65 => some x65) else (some false))) fun s37 =>
  some s37

end Go.Proofs.Ytgeagllbckdfhaa.M
