/-
  Written by program (gen.py) from the IR of the dump: plain models of the functions.
-/
import Derived.Test.YtebhdihfjeiadaaGreatDoorPu
import Derived.Lib.AtoiAll
import Derived.Lib.SlTrimSet
import Derived.Test.YtebhdihfjeiadaaGreatDoorPr
import Derived.Lib.SlicesCompact
import Derived.Test.YtebhdihfjeiadaaGreatDoorPj
namespace Go.Proofs.YtebhdihfjeiadaaGreatDoor.M
open Go Go.Pu
set_option linter.unusedVariables false
set_option linter.unusedSimpArgs false


def sortIntsL (l : List Int) : Option (List Int) := if l.length < 4611686018427387904 then some (l.mergeSort fun x y => decide (x ≤ y)) else none

/-- porterslodge portref2 isWordByte -/
def portref2_isWordByte (b : Int) : Bool :=
  (((((decide ((97 : Int) ≤ b)) && (decide (b ≤ 122))) || ((decide ((65 : Int) ≤ b)) && (decide (b ≤ 90)))) || ((decide ((48 : Int) ≤ b)) && (decide (b ≤ 57)))) || (decide ((128 : Int) ≤ b)))

/-- porterslodge portref2 lower -/
def portref2_lower (s : ByteArray) : Option ByteArray :=
  Option.bind (bytesL s) fun x1 =>
  Option.bind (rangeB (fun k10 s18 => Option.bind (Option.bind (idx s18 (k10 : Int)) fun x43 => Option.bind (if ((decide ((65 : Int) ≤ (x43.toNat : Int))) && (decide ((x43.toNat : Int) ≤ 90))) = true then Option.bind (setI s18 (k10 : Int) (toU8 ((x43.toNat : Int) + 32))) fun x65 => some x65 else some s18) fun s51 => some s51) fun s34 => some (.nx s34)) x1.length 0 x1) fun o7 => o7.andThen (fun y => some y) fun s8 =>
  some (⟨s8.toArray⟩ : ByteArray)

/-- porterslodge portref2 WordsOf -/
noncomputable def portref2_WordsOf (s : ByteArray) : Option (List ByteArray) :=
  Option.bind (whileB (fun s12 => if (decide (s12.2 < (s.size : Int))) = true then Option.bind (whileB (fun s33 => Option.bind (if (decide (s33 < (s.size : Int))) = true then (Option.bind (idxS s s33) fun x44 => some (portref2_isWordByte (x44.toNat : Int))) else (some false)) fun s43 => if s43 = true then some (.nx (w64 (s33 + 1))) else some (.bk s33)) s12.2) fun o26 => o26.andThen (fun y => some (.rt y)) fun s27 => Option.bind (if ((decide (s12.2 < s27)) && (decide ((w64 (s27 - s12.2)) ≤ 30))) = true then Option.bind (sliceS s (some s12.2) (some s27)) fun x62 => Option.bind (portref2_lower x62) fun x63 => Option.bind (appendL 8796093022208 s12.1 ([x63] : List ByteArray)) fun x73 => some x73 else some s12.1) fun s52 => some (.nx (s52, (if s27 < w64 (s12.2 + 1) then w64 (s12.2 + 1) else s27))) else some (.bk (s12.1, s12.2))) (([] : (List ByteArray)), 0)) fun o1 => o1.andThen (fun y => some y) fun s2 =>
  some s2.1

/-- slices Clone string string -/
def slices_Clone_Lstring_string (s : (List ByteArray)) : Option (List ByteArray) :=
  Option.bind (appendL 8796093022208 ([] : List ByteArray) s) fun x8 =>
  some x8

/-- internal stringslite HasSuffix -/
def internal_stringslite_HasSuffix (s : ByteArray) (suffix : ByteArray) : Option Bool :=
  Option.bind (if (decide ((suffix.size : Int) ≤ (s.size : Int))) = true then (Option.bind (sliceS s (some (w64 ((s.size : Int) - (suffix.size : Int)))) none) fun x3 => some (strEq x3 suffix)) else (some false)) fun s2 =>
  some s2

/-- strings HasSuffix -/
def strings_HasSuffix (s : ByteArray) (suffix : ByteArray) : Option Bool :=
  Option.bind (internal_stringslite_HasSuffix s suffix) fun x1 =>
  some x1

/-- porterslodge know Stem -/
noncomputable def know_Stem (word : ByteArray) : Option ByteArray :=
  Option.bind (whileB (fun s8 => if (decide (s8 < (word.size : Int))) = true then Option.bind (idxS word s8) fun x18 => Option.bind (if (decide ((x18.toNat : Int) < 97)) = true then (some true) else (some (decide ((122 : Int) < (x18.toNat : Int))))) fun s20 => if s20 = true then some (.rt word) else some (.nx (w64 (s8 + 1))) else some (.bk s8)) 0) fun o1 => o1.andThen (fun y => some y) fun s2 =>
  if (decide ((word.size : Int) < 4)) = true then
    some word
  else
    Option.bind (strings_HasSuffix word (⟨#[105, 101, 115]⟩ : ByteArray)) fun x26 =>
    if x26 = true then
      Option.bind (sliceS word none (some (w64 ((word.size : Int) - 3)))) fun x28 =>
      Option.bind (catS x28 (⟨#[121]⟩ : ByteArray)) fun x29 =>
      some x29
    else
      Option.bind (strings_HasSuffix word (⟨#[115, 115, 101, 115]⟩ : ByteArray)) fun x30 =>
      if x30 = true then
        Option.bind (sliceS word none (some (w64 ((word.size : Int) - 2)))) fun x32 =>
        some x32
      else
        Option.bind (strings_HasSuffix word (⟨#[115, 115]⟩ : ByteArray)) fun x33 =>
        if x33 = true then
          some word
        else
          Option.bind (strings_HasSuffix word (⟨#[115]⟩ : ByteArray)) fun x35 =>
          if x35 = true then
            Option.bind (sliceS word none (some (w64 ((word.size : Int) - 1)))) fun x37 =>
            some x37
          else
            Option.bind (strings_HasSuffix word (⟨#[105, 110, 103]⟩ : ByteArray)) fun x38 =>
            if (x38 && (decide ((6 : Int) ≤ (word.size : Int)))) = true then
              Option.bind (sliceS word none (some (w64 ((word.size : Int) - 3)))) fun x42 =>
              some x42
            else
              Option.bind (strings_HasSuffix word (⟨#[101, 100]⟩ : ByteArray)) fun x43 =>
              if (x43 && (decide ((5 : Int) ≤ (word.size : Int)))) = true then
                Option.bind (sliceS word none (some (w64 ((word.size : Int) - 2)))) fun x47 =>
                some x47
              else
                some word

/-- strings.Trim -/
def strings_Trim (s : ByteArray) (cutset : ByteArray) : Option ByteArray :=
  if s.size ≤ 9223372036854775807 ∧ cutset.size < 4294967281 ∧ (cutset.data.toList.all fun b => decide (b.toNat < 128)) = true then some ⟨(Go.Lib.trimS s.data.toList cutset.data.toList).toArray⟩ else none

/-- porterslodge portref2 StemOf 1 -/
def portref2_StemOf_1 (s : ByteArray) (p1 : ByteArray) : Option Bool :=
  Option.bind (strings_HasSuffix p1 s) fun x1 =>
  some x1

/-- porterslodge portref2 StemOf -/
def portref2_StemOf (w_ : ByteArray) : Option ByteArray :=
  Option.bind (if (decide ((w_.size : Int) < 4)) = true then (some true) else (Option.bind (strings_Trim w_ (⟨#[97, 98, 99, 100, 101, 102, 103, 104, 105, 106, 107, 108, 109, 110, 111, 112, 113, 114, 115, 116, 117, 118, 119, 120, 121, 122]⟩ : ByteArray)) fun x17 => some (!(strEq x17 (⟨#[]⟩ : ByteArray))))) fun s8 =>
  if s8 = true then
    some w_
  else
    Option.bind (portref2_StemOf_1 (⟨#[105, 101, 115]⟩ : ByteArray) w_) fun x23 =>
    if x23 = true then
      Option.bind (sliceS w_ none (some (w64 ((w_.size : Int) - 3)))) fun x25 =>
      Option.bind (catS x25 (⟨#[121]⟩ : ByteArray)) fun x26 =>
      some x26
    else
      Option.bind (portref2_StemOf_1 (⟨#[115, 115, 101, 115]⟩ : ByteArray) w_) fun x27 =>
      if x27 = true then
        Option.bind (sliceS w_ none (some (w64 ((w_.size : Int) - 2)))) fun x29 =>
        some x29
      else
        Option.bind (portref2_StemOf_1 (⟨#[115, 115]⟩ : ByteArray) w_) fun x30 =>
        if x30 = true then
          some w_
        else
          Option.bind (portref2_StemOf_1 (⟨#[115]⟩ : ByteArray) w_) fun x32 =>
          if x32 = true then
            Option.bind (sliceS w_ none (some (w64 ((w_.size : Int) - 1)))) fun x34 =>
            some x34
          else
            Option.bind (portref2_StemOf_1 (⟨#[105, 110, 103]⟩ : ByteArray) w_) fun x35 =>
            if (x35 && (decide ((6 : Int) ≤ (w_.size : Int)))) = true then
              Option.bind (sliceS w_ none (some (w64 ((w_.size : Int) - 3)))) fun x39 =>
              some x39
            else
              Option.bind (portref2_StemOf_1 (⟨#[101, 100]⟩ : ByteArray) w_) fun x40 =>
              if (x40 && (decide ((5 : Int) ≤ (w_.size : Int)))) = true then
                Option.bind (sliceS w_ none (some (w64 ((w_.size : Int) - 2)))) fun x44 =>
                some x44
              else
                some w_

/-- porterslodge know letter -/
def know_letter (c : Int) : Bool :=
  (((decide ((97 : Int) ≤ c)) && (decide (c ≤ 122))) || ((decide ((65 : Int) ≤ c)) && (decide (c ≤ 90))))

/-- porterslodge know digit -/
def know_digit (c : Int) : Bool :=
  ((decide ((48 : Int) ≤ c)) && (decide (c ≤ 57)))

def compactIntsL (l : List Int) : Option (List Int) := if l.length ≤ 9223372036854775807 then some (Go.Lib.compact l) else none

/-- porterslodge know Links -/
noncomputable def know_Links (body : ByteArray) : Option (List Int) :=
  Option.bind (whileB (fun s12 => if (decide (s12.2 < (body.size : Int))) = true then Option.bind (Option.bind (idxS body s12.2) fun x36 => Option.bind (if ((x36.toNat : Int) != 35) = true then (some true) else (Option.bind (if (decide ((0 : Int) < s12.2)) = true then (Option.bind (idxS body (w64 (s12.2 - 1))) fun x41 => Option.bind (if (know_letter (x41.toNat : Int)) = true then (some true) else (some (know_digit (x41.toNat : Int)))) fun s43 => Option.bind (if s43 = true then (some true) else (some ((x41.toNat : Int) == 35))) fun s45 => some s45) else (some false)) fun s40 => some s40)) fun s38 => if s38 = true then some s12.1 else Option.bind (whileB (R := Empty) (fun s55 => Option.bind (if (decide (s55.2 < (body.size : Int))) = true then (Option.bind (idxS body s55.2) fun x66 => some (know_digit (x66.toNat : Int))) else (some false)) fun s65 => if (s65 && (decide ((w64 (s55.2 - s12.2)) ≤ 7))) = true then Option.bind (idxS body s55.2) fun x70 => some (.nx (w64 ((w64 (10 * s55.1)) + (IntKind.wrap .i64 ((toU8 ((x70.toNat : Int) - 48)).toNat : Int))), w64 (s55.2 + 1))) else some (.bk (s55.1, s55.2))) (0, w64 (s12.2 + 1))) fun o48 => o48.andThen (fun y => y.elim) fun s49 => Option.bind (if (s49.2 == (w64 (s12.2 + 1))) = true then (some true) else (Option.bind (idxS body (w64 (s12.2 + 1))) fun x76 => some ((x76.toNat : Int) == 48))) fun s75 => Option.bind (if s75 = true then (some true) else (Option.bind (if (decide (s49.2 < (body.size : Int))) = true then (Option.bind (idxS body s49.2) fun x81 => Option.bind (if (know_digit (x81.toNat : Int)) = true then (some true) else (some (know_letter (x81.toNat : Int)))) fun s83 => some s83) else (some false)) fun s80 => some s80)) fun s78 => if s78 = true then some s12.1 else Option.bind (appendL 17592186044416 s12.1 ([s49.1] : List Int)) fun x91 => some x91) fun s27 => some (.nx (s27, w64 (s12.2 + 1))) else some (.bk (s12.1, s12.2))) (([] : (List Int)), 0)) fun o1 => o1.andThen (fun y => some y) fun s2 =>
  Option.bind (sortIntsL s2.1) fun x101 =>
  Option.bind (compactIntsL x101) fun x105 =>
  some x105

/-- porterslodge know inWord -/
def know_inWord (c : Int) : Bool :=
  (((know_letter c) || (know_digit c)) || (decide ((128 : Int) ≤ c)))

/-- porterslodge know lower -/
def know_lower (s : ByteArray) : Option ByteArray :=
  Option.bind (bytesL s) fun x1 =>
  Option.bind (rangeB (fun k10 s18 => Option.bind (Option.bind (idx s18 (k10 : Int)) fun x43 => Option.bind (if ((decide ((65 : Int) ≤ (x43.toNat : Int))) && (decide ((x43.toNat : Int) ≤ 90))) = true then Option.bind (setI s18 (k10 : Int) (toU8 (((toU8 ((x43.toNat : Int) + 97)).toNat : Int) - 65))) fun x65 => some x65 else some s18) fun s51 => some s51) fun s34 => some (.nx s34)) x1.length 0 x1) fun o7 => o7.andThen (fun y => some y) fun s8 =>
  some (⟨s8.toArray⟩ : ByteArray)

/-- porterslodge know Words -/
noncomputable def know_Words (s : ByteArray) : Option (List ByteArray) :=
  Option.bind (whileB (fun s12 => if (decide (s12.2 < (s.size : Int))) = true then Option.bind (whileB (fun s33 => Option.bind (if (decide (s33 < (s.size : Int))) = true then (Option.bind (idxS s s33) fun x44 => some (know_inWord (x44.toNat : Int))) else (some false)) fun s43 => if s43 = true then some (.nx (w64 (s33 + 1))) else some (.bk s33)) s12.2) fun o26 => o26.andThen (fun y => some (.rt y)) fun s27 => Option.bind (if ((decide (s12.2 < s27)) && (decide ((w64 (s27 - s12.2)) ≤ 30))) = true then Option.bind (sliceS s (some s12.2) (some s27)) fun x62 => Option.bind (know_lower x62) fun x63 => Option.bind (appendL 8796093022208 s12.1 ([x63] : List ByteArray)) fun x73 => some x73 else some s12.1) fun s52 => some (.nx (s52, w64 (s27 + 1))) else some (.bk (s12.1, s12.2))) (([] : (List ByteArray)), 0)) fun o1 => o1.andThen (fun y => some y) fun s2 =>
  some s2.1

/-- slices Equal string string -/
def slices_Equal_Lstring_string (s1 : (List ByteArray)) (s2 : (List ByteArray)) : Option Bool :=
  if ((s1.length : Int) != (s2.length : Int)) = true then
    some false
  else
    Option.bind (rangeB (fun k9 _ => Option.bind (idx s1 (k9 : Int)) fun x29 => Option.bind (idx s2 (k9 : Int)) fun x33 => if (!(strEq x29 x33)) = true then some (.rt false) else some (.nx ())) s1.length 0 ()) fun o6 => o6.andThen (fun y => some y) fun s7 =>
    some true

/-- porterslodge portref2 LinksOf 1 -/
def portref2_LinksOf_1 (b : Int) : Bool :=
  ((decide (b < 128)) && (portref2_isWordByte b))

/-- strconv.Atoi -/
def strconv_Atoi (s : ByteArray) : Option (Int × Bool) :=
  if s.size ≤ 281474976710656 then some (match Go.Lib.atoiAll s.data.toList with | .ok v => (v, false) | .range => (Go.Lib.atoiSat s.data.toList, true) | _ => (0, true)) else none

/-- porterslodge portref2 LinksOf -/
noncomputable def portref2_LinksOf (s : ByteArray) : Option (List Int) :=
  Option.bind (whileB (fun s12 => if (decide (s12.2 < (s.size : Int))) = true then Option.bind (Option.bind (Option.bind (idxS s s12.2) fun x44 => if ((x44.toNat : Int) != 35) = true then (some true) else (if (decide ((0 : Int) < s12.2)) = true then (Option.bind (idxS s (w64 (s12.2 - 1))) fun x48 => if (portref2_LinksOf_1 (x48.toNat : Int)) = true then (some true) else (some ((x48.toNat : Int) == 35))) else (some false))) fun s37 => if s37 = true then some s12.1 else Option.bind (whileB (R := Empty) (fun s62 => Option.bind (if (decide (s62 < (s.size : Int))) = true then (Option.bind (idxS s s62) fun x73 => some (decide ((48 : Int) ≤ (x73.toNat : Int)))) else (some false)) fun s72 => Option.bind (if s72 = true then (Option.bind (idxS s s62) fun x76 => some (decide ((x76.toNat : Int) ≤ 57))) else (some false)) fun s75 => if s75 = true then some (.nx (w64 (s62 + 1))) else some (.bk s62)) (w64 (s12.2 + 1))) fun o55 => o55.andThen (fun y => y.elim) fun s56 => Option.bind (if (decide ((w64 ((w64 (s56 - s12.2)) - 1)) < 1)) = true then (if true = true then (if true = true then (some true) else (if (decide (s56 < (s.size : Int))) = true then (Option.bind (idxS s s56) fun x94 => some (portref2_LinksOf_1 (x94.toNat : Int))) else (some false))) else (Option.bind (idxS s (w64 (s12.2 + 1))) fun x97 => if ((x97.toNat : Int) == 48) = true then (some true) else (if (decide (s56 < (s.size : Int))) = true then (Option.bind (idxS s s56) fun x101 => some (portref2_LinksOf_1 (x101.toNat : Int))) else (some false)))) else (if (decide ((7 : Int) < (w64 ((w64 (s56 - s12.2)) - 1)))) = true then (if true = true then (some true) else (if (decide (s56 < (s.size : Int))) = true then (Option.bind (idxS s s56) fun x108 => some (portref2_LinksOf_1 (x108.toNat : Int))) else (some false))) else (Option.bind (idxS s (w64 (s12.2 + 1))) fun x111 => if ((x111.toNat : Int) == 48) = true then (some true) else (if (decide (s56 < (s.size : Int))) = true then (Option.bind (idxS s s56) fun x115 => some (portref2_LinksOf_1 (x115.toNat : Int))) else (some false))))) fun s82 => if s82 = true then some s12.1 else Option.bind (sliceS s (some (w64 (s12.2 + 1))) (some s56)) fun x120 => Option.bind (strconv_Atoi x120) fun x121 => Option.bind (appendL 17592186044416 s12.1 ([x121.1] : List Int)) fun x132 => some x132) fun s27 => some (.nx (s27, w64 (s12.2 + 1))) else some (.bk (s12.1, s12.2))) (([] : (List Int)), 0)) fun o1 => o1.andThen (fun y => some y) fun s2 =>
  Option.bind (sortIntsL s2.1) fun x142 =>
  Option.bind (compactIntsL x142) fun x146 =>
  some x146

/-- slices Equal int int -/
def slices_Equal_Lint_int (s1 : (List Int)) (s2 : (List Int)) : Option Bool :=
  if ((s1.length : Int) != (s2.length : Int)) = true then
    some false
  else
    Option.bind (rangeB (fun k9 _ => Option.bind (idx s1 (k9 : Int)) fun x29 => Option.bind (idx s2 (k9 : Int)) fun x33 => if (x29 != x33) = true then some (.rt false) else some (.nx ())) s1.length 0 ()) fun o6 => o6.andThen (fun y => some y) fun s7 =>
    some true

/-- a byte with a backslash before it, if it is special -/
def escB (b : UInt8) : List UInt8 := if b = 123 then [92, 123] else if b = 92 then [92, 92] else [b]
/-- a text with a backslash before each brace and each backslash -/
def quoteL (s : ByteArray) : Option ByteArray := if s.size ≤ 2000000 then some ⟨(s.data.toList.flatMap escB).toArray⟩ else none

/-- porterslodge/know.Quote -/
def know_Quote (s : ByteArray) : Option ByteArray := quoteL s

/-- porterslodge/portref2.QuoteOf -/
def portref2_QuoteOf (s : ByteArray) : Option ByteArray := quoteL s

/-- porterslodge portlaw2 KnowWords -/
noncomputable def portlaw2_KnowWords (s : ByteArray) : Option Bool :=
  Option.bind (portref2_WordsOf s) fun x1 =>
  Option.bind (slices_Clone_Lstring_string x1) fun x9 =>
  Option.bind (appendL 8796093022208 x9 ([s] : List ByteArray)) fun x22 =>
  Option.bind (rangeB (fun k31 _ => Option.bind (idx x22 (k31 : Int)) fun x51 => Option.bind (know_Stem x51) fun x56 => Option.bind (portref2_StemOf x51) fun x57 => if (!(strEq x56 x57)) = true then some (.rt false) else some (.nx ())) x22.length 0 ()) fun o28 => o28.andThen (fun y => some y) fun s29 =>
  Option.bind (Option.bind (know_Words s) fun x73 => Option.bind (slices_Equal_Lstring_string x73 x1) fun x81 => if x81 = true then (Option.bind (know_Links s) fun x86 => Option.bind (portref2_LinksOf s) fun x94 => Option.bind (slices_Equal_Lint_int x86 x94) fun x102 => if x102 = true then (Option.bind (know_Quote s) fun x107 => Option.bind (portref2_QuoteOf s) fun x111 => some (strEq x107 x111)) else (some false)) else (if false = true then (Option.bind (know_Quote s) fun x118 => Option.bind (portref2_QuoteOf s) fun x122 => some (strEq x118 x122)) else (some false))) fun s66 =>
  some s66

end Go.Proofs.YtebhdihfjeiadaaGreatDoor.M
