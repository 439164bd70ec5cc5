/-
  Written by program (gen.py) from the IR of the dump: plain models of the functions.
-/
import Derived.Test.YtkjlbaacbkdnfaaGreatDoorPu
import Derived.Lib.Bytealg
import Derived.Lib.Join
import Derived.Lib.SlTrimSet
import Derived.Test.YtkjlbaacbkdnfaaGreatDoorPr
import Derived.Test.YtkjlbaacbkdnfaaGreatDoorPj
namespace Go.Proofs.YtkjlbaacbkdnfaaGreatDoor.M
open Go Go.Pu
set_option linter.unusedVariables false
set_option linter.unusedSimpArgs false

structure know_Posting where
  id_ : Int
  title : (List Int)
  body : (List Int)

structure know_Term where
  word : ByteArray
  list_ : (List know_Posting)

structure know_Index where
  ids : (List Int)
  sizes : (List Int)
  terms : (List know_Term)

structure know_Part where
  kind : Int
  not_ : Bool
  words : (List ByteArray)

structure know_Query where
  parts : (List know_Part)

structure know_Hit where
  id_ : Int
  score : Int

/-- porterslodge know within -/
def know_within (n : Int) (low : Int) (high : Int) : Bool :=
  ((decide (low ≤ n)) && (decide (n ≤ high)))

/-- porterslodge know digit -/
def know_digit (c : Int) : Bool :=
  ((decide ((48 : Int) ≤ c)) && (decide (c ≤ 57)))

/-- porterslodge know letter -/
def know_letter (c : Int) : Bool :=
  (((decide ((97 : Int) ≤ c)) && (decide (c ≤ 122))) || ((decide ((65 : Int) ≤ c)) && (decide (c ≤ 90))))

/-- porterslodge know inWord -/
def know_inWord (c : Int) : Bool :=
  (((know_letter c) || (know_digit c)) || (decide ((128 : Int) ≤ c)))

/-- porterslodge know lower -/
def know_lower (s : ByteArray) : Option ByteArray :=
  Option.bind (bytesL s) fun x1 =>
  Option.bind (rangeB (fun k10 s18 => Option.bind (Option.bind (idx s18 (k10 : Int)) fun x43 => Option.bind (if ((decide ((65 : Int) ≤ (x43.toNat : Int))) && (decide ((x43.toNat : Int) ≤ 90))) = true then Option.bind (setI s18 (k10 : Int) (toU8 (((toU8 ((x43.toNat : Int) + 97)).toNat : Int) - 65))) fun x65 => some x65 else some s18) fun s51 => some s51) fun s34 => some (.nx s34)) x1.length 0 x1) fun o7 => o7.andThen (fun y => some y) fun s8 =>
  some (⟨s8.toArray⟩ : ByteArray)

/-- porterslodge know Words -/
noncomputable def know_Words (s : ByteArray) : Option (List ByteArray) :=
  Option.bind (whileB (fun s12 => if (decide (s12.2 < (s.size : Int))) = true then Option.bind (whileB (fun s33 => Option.bind (if (decide (s33 < (s.size : Int))) = true then (Option.bind (idxS s s33) fun x44 => some (know_inWord (x44.toNat : Int))) else (some false)) fun s43 => if s43 = true then some (.nx (w64 (s33 + 1))) else some (.bk s33)) s12.2) fun o26 => o26.andThen (fun y => some (.rt y)) fun s27 => Option.bind (if ((decide (s12.2 < s27)) && (decide ((w64 (s27 - s12.2)) ≤ 30))) = true then Option.bind (sliceS s (some s12.2) (some s27)) fun x62 => Option.bind (know_lower x62) fun x63 => Option.bind (appendL 8796093022208 s12.1 ([x63] : List ByteArray)) fun x73 => some x73 else some s12.1) fun s52 => some (.nx (s52, w64 (s27 + 1))) else some (.bk (s12.1, s12.2))) (([] : (List ByteArray)), 0)) fun o1 => o1.andThen (fun y => some y) fun s2 =>
  some s2.1

/-- cmp isNaN int -/
def cmp_isNaN_int (x : Int) : Bool :=
  x != x

/-- cmp Less int -/
def cmp_Less_int (x : Int) (y : Int) : Bool :=
  (((cmp_isNaN_int x) && (!(cmp_isNaN_int y))) || (decide (x < y)))

/-- slices isNaN int -/
def slices_isNaN_int (x : Int) : Bool :=
  x != x

/-- slices BinarySearch int int -/
noncomputable def slices_BinarySearch_Lint_int (x : (List Int)) (target : Int) : Option (Int × Bool) :=
  Option.bind (whileB (fun s10 => if (decide (s10.1 < s10.2)) = true then Option.bind (Option.bind (shr .u64 (IntKind.wrap .u64 (w64 (s10.1 + s10.2))) 1) fun x26 => Option.bind (idx x (IntKind.wrap .i64 x26)) fun x27 => Option.bind (if (cmp_Less_int x27 target) = true then some (w64 ((IntKind.wrap .i64 x26) + 1), s10.2) else some (s10.1, IntKind.wrap .i64 x26)) fun s32 => some (s32.1, s32.2)) fun s21 => some (.nx (s21.1, s21.2)) else some (.bk (s10.1, s10.2))) (0, (x.length : Int))) fun o3 => o3.andThen (fun y => some y) fun s4 =>
  Option.bind (if (decide (s4.1 < (x.length : Int))) = true then (Option.bind (idx x s4.1) fun x46 => Option.bind (if (x46 == target) = true then (some true) else (some ((slices_isNaN_int x46) && (slices_isNaN_int target)))) fun s51 => some s51) else (some false)) fun s45 =>
  some (s4.1, s45)

/-- porterslodge know checkPositions -/
def know_checkPositions (l : (List Int)) (size : Int) : Option Int :=
  Option.bind (rangeB (fun k6 _ => Option.bind (idx l (k6 : Int)) fun x21 => if (!(know_within x21 0 (w64 (size - 1)))) = true then some (.rt 2) else some (.nx ())) l.length 0 ()) fun o3 => o3.andThen (fun y => some y) fun s4 =>
  Option.bind (rangeB (fun k32 _ => Option.bind (idx l (k32 : Int)) fun x47 => Option.bind (if (decide ((0 : Int) < (k32 : Int))) = true then (Option.bind (idx l (w64 ((k32 : Int) - 1))) fun x53 => some (decide (x47 ≤ x53))) else (some false)) fun s52 => if s52 = true then some (.rt 5) else some (.nx ())) l.length 0 ()) fun o29 => o29.andThen (fun y => some y) fun s30 =>
  some 0

/-- cmp Or porterslodge api Errno -/
def cmp_Or_api_Errno (vals : (List Int)) : Option Int :=
  Option.bind (rangeB (fun k6 _ => Option.bind (idx vals (k6 : Int)) fun x21 => if (x21 != 0) = true then some (.rt x21) else some (.nx ())) vals.length 0 ()) fun o3 => o3.andThen (fun y => some y) fun s4 =>
  some 0

/-- porterslodge know Index checkTerm -/
noncomputable def know_Index_checkTerm (x : know_Index) (t : know_Term) : Option Int :=
  Option.bind (rangeB (fun k29 s35 => Option.bind (idx t.list_ (k29 : Int)) fun x48 => Option.bind (slices_BinarySearch_Lint_int x.ids x48.id_) fun x76 => if (!x76.2) = true then some (.rt 7) else if (decide (x48.id_ ≤ s35)) = true then some (.rt 5) else if ((w64 ((x48.title.length : Int) + (x48.body.length : Int))) == 0) = true then some (.rt 1) else Option.bind (idx x.sizes x76.1) fun x98 => Option.bind (know_checkPositions x48.title x98) fun x102 => Option.bind (know_checkPositions x48.body x98) fun x114 => Option.bind (cmp_Or_api_Errno ([x102, x114] : List Int)) fun x123 => if (x123 != 0) = true then some (.rt x123) else some (.nx x48.id_)) t.list_.length 0 0) fun o26 => o26.andThen (fun y => some y) fun s27 =>
  some 0

/-- porterslodge know CheckIndex -/
noncomputable def know_CheckIndex (x : know_Index) : Option Int :=
  if (decide ((200 : Int) < (x.ids.length : Int))) = true then
    some 4
  else
    if ((x.sizes.length : Int) != (x.ids.length : Int)) = true then
      some 1
    else
      Option.bind (rangeB (fun k35 _ => Option.bind (idx x.ids (k35 : Int)) fun x50 => if (!(know_within x50 1 3000000)) = true then some (.rt 2) else Option.bind (if (decide ((0 : Int) < (k35 : Int))) = true then (Option.bind (idx x.ids (w64 ((k35 : Int) - 1))) fun x61 => some (decide (x50 ≤ x61))) else (some false)) fun s56 => if s56 = true then some (.rt 5) else Option.bind (idx x.sizes (k35 : Int)) fun x70 => if (!(know_within x70 0 20000)) = true then some (.rt 2) else some (.nx ())) x.ids.length 0 ()) fun o32 => o32.andThen (fun y => some y) fun s33 =>
      Option.bind (rangeB (fun k85 _ => Option.bind (idx x.terms (k85 : Int)) fun x104 => Option.bind (know_Words x104.word) fun x123 => Option.bind (if ((x123.length : Int) != 1) = true then (some true) else (Option.bind (idx x123 0) fun x133 => some (!(strEq x133 x104.word)))) fun s132 => if (s132 || ((x104.list_.length : Int) == 0)) = true then some (.rt 1) else Option.bind (if (decide ((0 : Int) < (k85 : Int))) = true then (Option.bind (idx x.terms (w64 ((k85 : Int) - 1))) fun x156 => some (strLt x104.word x156.word || strEq x104.word x156.word)) else (some false)) fun s150 => if s150 = true then some (.rt 5) else Option.bind (know_Index_checkTerm x x104) fun x175 => if (x175 != 0) = true then some (.rt x175) else some (.nx ())) x.terms.length 0 ()) fun o82 => o82.andThen (fun y => some y) fun s83 =>
      some 0

/-- strings.Join -/
def strings_Join (elems : List ByteArray) (sep : ByteArray) : Option ByteArray :=
  if elems.length ≤ 140737488355328 ∧ (Go.Lib.join (elems.map (·.data.toList)) sep.data.toList).length ≤ 140737488355328 then some ⟨(Go.Lib.join (elems.map (·.data.toList)) sep.data.toList).toArray⟩ else none

/-- porterslodge know QueryText -/
noncomputable def know_QueryText (q : know_Query) : Option (ByteArray × Int) :=
  if (decide ((20 : Int) < (q.parts.length : Int))) = true then
    some ((⟨#[]⟩ : ByteArray), 4)
  else
    Option.bind (rangeB (fun k21 s29 => Option.bind (idx q.parts (k21 : Int)) fun x44 => if (((!(know_within x44.kind 0 2)) || ((x44.words.length : Int) == 0)) || ((x44.kind != 1) && (decide ((1 : Int) < (x44.words.length : Int))))) = true then some (.rt ((⟨#[]⟩ : ByteArray), 1)) else Option.bind (rangeB (fun k86 _ => Option.bind (idx x44.words (k86 : Int)) fun x105 => Option.bind (know_Words x105) fun x109 => Option.bind (if ((x109.length : Int) != 1) = true then (some true) else (Option.bind (idx x109 0) fun x119 => some (!(strEq x119 x105)))) fun s118 => if s118 = true then some (.rt ((⟨#[]⟩ : ByteArray), 1)) else some (.nx ())) x44.words.length 0 ()) fun o83 => o83.andThen (fun y => some (.rt y)) fun s84 => Option.bind (strings_Join x44.words (⟨#[32]⟩ : ByteArray)) fun x132 => Option.bind (Option.bind (if (x44.kind == 1) = true then Option.bind (catS (⟨#[34]⟩ : ByteArray) x132) fun x150 => Option.bind (catS x150 (⟨#[34]⟩ : ByteArray)) fun x151 => some x151 else Option.bind (if (x44.kind == 2) = true then Option.bind (catS x132 (⟨#[42]⟩ : ByteArray)) fun x160 => some x160 else some x132) fun s154 => some s154) fun s144 => some s144) fun s138 => Option.bind (if x44.not_ = true then Option.bind (catS (⟨#[45]⟩ : ByteArray) s138) fun x173 => some x173 else some s138) fun s167 => Option.bind (appendL 8796093022208 s29 ([s167] : List ByteArray)) fun x181 => some (.nx x181)) q.parts.length 0 ([] : (List ByteArray))) fun o18 => o18.andThen (fun y => some y) fun s19 =>
    Option.bind (strings_Join s19 (⟨#[32]⟩ : ByteArray)) fun x190 =>
    if (decide ((400 : Int) < (x190.size : Int))) = true then
      some ((⟨#[]⟩ : ByteArray), 4)
    else
      some (x190, 0)

/-- slices IndexFunc porterslodge know Part porterslodge know Part -/
def slices_IndexFunc_Lknow_Part_know_Part (s : (List know_Part)) (f : know_Part → Option Bool) : Option Int :=
  Option.bind (rangeB (fun k6 _ => Option.bind (idx s (k6 : Int)) fun x25 => Option.bind (f x25) fun x32 => if x32 = true then some (.rt (k6 : Int)) else some (.nx ())) s.length 0 ()) fun o3 => o3.andThen (fun y => some y) fun s4 =>
  some (-1)

/-- slices ContainsFunc porterslodge know Part porterslodge know Part -/
def slices_ContainsFunc_Lknow_Part_know_Part (s : (List know_Part)) (f : know_Part → Option Bool) : Option Bool :=
  Option.bind (slices_IndexFunc_Lknow_Part_know_Part s f) fun x3 =>
  some (decide ((0 : Int) ≤ x3))

/-- porterslodge know Search 1 -/
def know_Search_1 (p : know_Part) : Option Bool :=
  some (!p.not_)

/-- internal stringslite HasPrefix -/
def internal_stringslite_HasPrefix (s : ByteArray) (prefix_ : ByteArray) : Option Bool :=
  Option.bind (if (decide ((prefix_.size : Int) ≤ (s.size : Int))) = true then (Option.bind (sliceS s none (some (prefix_.size : Int))) fun x3 => some (strEq x3 prefix_)) else (some false)) fun s2 =>
  some s2

/-- strings HasPrefix -/
def strings_HasPrefix (s : ByteArray) (prefix_ : ByteArray) : Option Bool :=
  Option.bind (internal_stringslite_HasPrefix s prefix_) fun x1 =>
  some x1

/-- internal stringslite HasSuffix -/
def internal_stringslite_HasSuffix (s : ByteArray) (suffix : ByteArray) : Option Bool :=
  Option.bind (if (decide ((suffix.size : Int) ≤ (s.size : Int))) = true then (Option.bind (sliceS s (some (w64 ((s.size : Int) - (suffix.size : Int)))) none) fun x3 => some (strEq x3 suffix)) else (some false)) fun s2 =>
  some s2

/-- strings HasSuffix -/
def strings_HasSuffix (s : ByteArray) (suffix : ByteArray) : Option Bool :=
  Option.bind (internal_stringslite_HasSuffix s suffix) fun x1 =>
  some x1

/-- porterslodge know Stem -/
noncomputable def know_Stem (word : ByteArray) : Option ByteArray :=
  Option.bind (whileB (fun s8 => if (decide (s8 < (word.size : Int))) = true then Option.bind (idxS word s8) fun x18 => Option.bind (if (decide ((x18.toNat : Int) < 97)) = true then (some true) else (some (decide ((122 : Int) < (x18.toNat : Int))))) fun s20 => if s20 = true then some (.rt word) else some (.nx (w64 (s8 + 1))) else some (.bk s8)) 0) fun o1 => o1.andThen (fun y => some y) fun s2 =>
  if (decide ((word.size : Int) < 4)) = true then
    some word
  else
    Option.bind (strings_HasSuffix word (⟨#[105, 101, 115]⟩ : ByteArray)) fun x26 =>
    if x26 = true then
      Option.bind (sliceS word none (some (w64 ((word.size : Int) - 3)))) fun x28 =>
      Option.bind (catS x28 (⟨#[121]⟩ : ByteArray)) fun x29 =>
      some x29
    else
      Option.bind (strings_HasSuffix word (⟨#[115, 115, 101, 115]⟩ : ByteArray)) fun x30 =>
      if x30 = true then
        Option.bind (sliceS word none (some (w64 ((word.size : Int) - 2)))) fun x32 =>
        some x32
      else
        Option.bind (strings_HasSuffix word (⟨#[115, 115]⟩ : ByteArray)) fun x33 =>
        if x33 = true then
          some word
        else
          Option.bind (strings_HasSuffix word (⟨#[115]⟩ : ByteArray)) fun x35 =>
          if x35 = true then
            Option.bind (sliceS word none (some (w64 ((word.size : Int) - 1)))) fun x37 =>
            some x37
          else
            Option.bind (strings_HasSuffix word (⟨#[105, 110, 103]⟩ : ByteArray)) fun x38 =>
            if (x38 && (decide ((6 : Int) ≤ (word.size : Int)))) = true then
              Option.bind (sliceS word none (some (w64 ((word.size : Int) - 3)))) fun x42 =>
              some x42
            else
              Option.bind (strings_HasSuffix word (⟨#[101, 100]⟩ : ByteArray)) fun x43 =>
              if (x43 && (decide ((5 : Int) ≤ (word.size : Int)))) = true then
                Option.bind (sliceS word none (some (w64 ((word.size : Int) - 2)))) fun x47 =>
                some x47
              else
                some word

/-- slices BinarySearchFunc porterslodge know Term porterslodge know Term string -/
noncomputable def slices_BinarySearchFunc_Lknow_Term_know_Term_string (x : (List know_Term)) (target : ByteArray) (cmp : know_Term → ByteArray → Option Int) : Option (Int × Bool) :=
  Option.bind (whileB (fun s12 => if (decide (s12.1 < s12.2)) = true then Option.bind (Option.bind (shr .u64 (IntKind.wrap .u64 (w64 (s12.1 + s12.2))) 1) fun x32 => Option.bind (idx x (IntKind.wrap .i64 x32)) fun x33 => Option.bind (cmp x33 target) fun x40 => Option.bind (if (decide (x40 < 0)) = true then some (w64 ((IntKind.wrap .i64 x32) + 1), s12.2) else some (s12.1, IntKind.wrap .i64 x32)) fun s45 => some (s45.1, s45.2)) fun s25 => some (.nx (s25.1, s25.2)) else some (.bk (s12.1, s12.2))) (0, (x.length : Int))) fun o3 => o3.andThen (fun y => some y) fun s4 =>
  Option.bind (if (decide (s4.1 < (x.length : Int))) = true then (Option.bind (idx x s4.1) fun x66 => Option.bind (cmp x66 target) fun x73 => some (s4.1, x73 == 0)) else (some (s4.1, false))) fun s58 =>
  some (s58.1, s58.2)

/-- strings.Compare -/
def strings_Compare (a : ByteArray) (b : ByteArray) : Option Int := some (Go.Lib.compareBytes a.data.toList b.data.toList)

/-- porterslodge know Index term 1 -/
def know_Index_term_1 (t : know_Term) (w_ : ByteArray) : Option Int :=
  Option.bind (strings_Compare t.word w_) fun x10 =>
  some x10

/-- porterslodge know Index term -/
noncomputable def know_Index_term (x : know_Index) (word : ByteArray) : Option (know_Term × Bool) :=
  Option.bind (slices_BinarySearchFunc_Lknow_Term_know_Term_string x.terms word (fun y23 y24 => know_Index_term_1 y23 y24)) fun x25 =>
  if (!x25.2) = true then
    some ((⟨ByteArray.empty, ([] : (List know_Posting))⟩ : know_Term), false)
  else
    Option.bind (idx x.terms x25.1) fun x50 =>
    some (x50, true)

/-- porterslodge know Index named -/
noncomputable def know_Index_named (x : know_Index) (p : know_Part) : Option (List know_Term) :=
  if (p.kind == 2) = true then
    Option.bind (rangeB (fun k31 s40 => Option.bind (Option.bind (idx x.terms (k31 : Int)) fun x65 => Option.bind (idx p.words 0) fun x88 => Option.bind (strings_HasPrefix x65.word x88) fun x92 => Option.bind (if x92 = true then Option.bind (appendL 3518437208883 s40 ([x65] : List know_Term)) fun x118 => some x118 else some s40) fun s97 => some s97) fun s56 => some (.nx s56)) x.terms.length 0 ([] : (List know_Term))) fun o28 => o28.andThen (fun y => some y) fun s29 =>
    some s29
  else
    Option.bind (rangeB (fun k142 s150 => Option.bind (Option.bind (idx p.words (k142 : Int)) fun x175 => Option.bind (know_Stem x175) fun x179 => Option.bind (know_Index_term x x179) fun x187 => Option.bind (if (x187.2 && (!((mapGet s150.2 x179).getD false))) = true then Option.bind (appendL 3518437208883 s150.1 ([x187.1] : List know_Term)) fun x231 => some (x231, (mapPut s150.2 x179 true)) else some (s150.1, s150.2)) fun s207 => some (s207.1, s207.2)) fun s166 => some (.nx (s166.1, s166.2))) p.words.length 0 (([] : (List know_Term)), ([] : List (ByteArray × Bool)))) fun o139 => o139.andThen (fun y => some y) fun s140 =>
    some s140.1

/-- slices BinarySearchFunc porterslodge know Posting porterslodge know Posting int -/
noncomputable def slices_BinarySearchFunc_Lknow_Posting_know_Posting_int (x : (List know_Posting)) (target : Int) (cmp : know_Posting → Int → Option Int) : Option (Int × Bool) :=
  Option.bind (whileB (fun s12 => if (decide (s12.1 < s12.2)) = true then Option.bind (Option.bind (shr .u64 (IntKind.wrap .u64 (w64 (s12.1 + s12.2))) 1) fun x32 => Option.bind (idx x (IntKind.wrap .i64 x32)) fun x33 => Option.bind (cmp x33 target) fun x42 => Option.bind (if (decide (x42 < 0)) = true then some (w64 ((IntKind.wrap .i64 x32) + 1), s12.2) else some (s12.1, IntKind.wrap .i64 x32)) fun s47 => some (s47.1, s47.2)) fun s25 => some (.nx (s25.1, s25.2)) else some (.bk (s12.1, s12.2))) (0, (x.length : Int))) fun o3 => o3.andThen (fun y => some y) fun s4 =>
  Option.bind (if (decide (s4.1 < (x.length : Int))) = true then (Option.bind (idx x s4.1) fun x68 => Option.bind (cmp x68 target) fun x77 => some (s4.1, x77 == 0)) else (some (s4.1, false))) fun s60 =>
  some (s60.1, s60.2)

/-- cmp Compare int -/
def cmp_Compare_int (x : Int) (y : Int) : Int :=
  if (cmp_isNaN_int x) = true then
    if (cmp_isNaN_int y) = true then
      0
    else
      (-1)
  else
    if (cmp_isNaN_int y) = true then
      1
    else
      if (decide (x < y)) = true then
        (-1)
      else
        if (decide (y < x)) = true then
          1
        else
          0

/-- porterslodge know Term posting 1 -/
def know_Term_posting_1 (p : know_Posting) (id_ : Int) : Option Int :=
  some (cmp_Compare_int p.id_ id_)

/-- porterslodge know Term posting -/
noncomputable def know_Term_posting (t : know_Term) (id_ : Int) : Option (know_Posting × Bool) :=
  Option.bind (slices_BinarySearchFunc_Lknow_Posting_know_Posting_int t.list_ id_ (fun y18 y19 => know_Term_posting_1 y18 y19)) fun x20 =>
  if (!x20.2) = true then
    some ((⟨0, ([] : (List Int)), ([] : (List Int))⟩ : know_Posting), false)
  else
    Option.bind (idx t.list_ x20.1) fun x46 =>
    some (x46, true)

/-- slices IndexFunc int int -/
def slices_IndexFunc_Lint_int (s : (List Int)) (f : Int → Option Bool) : Option Int :=
  Option.bind (rangeB (fun k6 _ => Option.bind (idx s (k6 : Int)) fun x25 => Option.bind (f x25) fun x29 => if x29 = true then some (.rt (k6 : Int)) else some (.nx ())) s.length 0 ()) fun o3 => o3.andThen (fun y => some y) fun s4 =>
  some (-1)

/-- slices ContainsFunc int int -/
def slices_ContainsFunc_Lint_int (s : (List Int)) (f : Int → Option Bool) : Option Bool :=
  Option.bind (slices_IndexFunc_Lint_int s f) fun x3 =>
  some (decide ((0 : Int) ≤ x3))

/-- porterslodge know Index phrase 1 1 -/
noncomputable def know_Index_phrase_1_1 (at_ : Int) (p1 : (List (List Int))) : Option Bool :=
  Option.bind (rangeB (fun k8 _ => Option.bind (idx p1 (k8 : Int)) fun x26 => Option.bind (slices_BinarySearch_Lint_int x26 (w64 (at_ + (k8 : Int)))) fun x33 => if (!x33.2) = true then some (.rt false) else some (.nx ())) p1.length 0 ()) fun o5 => o5.andThen (fun y => some y) fun s6 =>
  some true

/-- porterslodge know Index phrase 1 -/
noncomputable def know_Index_phrase_1 (l : (List (List Int))) : Option Bool :=
  Option.bind (idx l 0) fun x15 =>
  Option.bind (slices_ContainsFunc_Lint_int x15 (fun y22 => know_Index_phrase_1_1 y22 l)) fun x23 =>
  some x23

/-- porterslodge know Index phrase -/
noncomputable def know_Index_phrase (x : know_Index) (words : (List ByteArray)) (id_ : Int) : Option Bool :=
  Option.bind (rangeB (fun k18 s28 => Option.bind (idx words (k18 : Int)) fun x45 => Option.bind (know_Stem x45) fun x198 => Option.bind (know_Index_term x x198) fun x337 => Option.bind (know_Term_posting x337.1 id_) fun x362 => if (!x362.2) = true then some (.rt false) else Option.bind (appendL 5864062014805 s28.1 ([x362.1.title] : List (List Int))) fun x454 => Option.bind (appendL 5864062014805 s28.2 ([x362.1.body] : List (List Int))) fun x468 => some (.nx (x454, x468))) words.length 0 (([] : (List (List Int))), ([] : (List (List Int))))) fun o15 => o15.andThen (fun y => some y) fun s16 =>
  Option.bind (Option.bind (know_Index_phrase_1 s16.1) fun x485 => if x485 = true then (some true) else (Option.bind (know_Index_phrase_1 s16.2) fun x491 => some x491)) fun s478 =>
  some s478

/-- slices IndexFunc porterslodge know Term porterslodge know Term -/
def slices_IndexFunc_Lknow_Term_know_Term (s : (List know_Term)) (f : know_Term → Option Bool) : Option Int :=
  Option.bind (rangeB (fun k6 _ => Option.bind (idx s (k6 : Int)) fun x25 => Option.bind (f x25) fun x32 => if x32 = true then some (.rt (k6 : Int)) else some (.nx ())) s.length 0 ()) fun o3 => o3.andThen (fun y => some y) fun s4 =>
  some (-1)

/-- slices ContainsFunc porterslodge know Term porterslodge know Term -/
def slices_ContainsFunc_Lknow_Term_know_Term (s : (List know_Term)) (f : know_Term → Option Bool) : Option Bool :=
  Option.bind (slices_IndexFunc_Lknow_Term_know_Term s f) fun x3 =>
  some (decide ((0 : Int) ≤ x3))

/-- porterslodge know Index matches 1 -/
noncomputable def know_Index_matches_1 (t : know_Term) (p1 : Int) : Option Bool :=
  Option.bind (know_Term_posting t p1) fun x12 =>
  some x12.2

/-- porterslodge know Index matches -/
noncomputable def know_Index_matches (x : know_Index) (p : know_Part) (named : (List know_Term)) (id_ : Int) : Option Bool :=
  if (p.kind == 1) = true then
    Option.bind (know_Index_phrase x p.words id_) fun x42 =>
    some x42
  else
    Option.bind (slices_ContainsFunc_Lknow_Term_know_Term named (fun y46 => know_Index_matches_1 y46 id_)) fun x47 =>
    some x47

/-- math bits Len64 -/
def math_bits_Len64 (x : Int) : Option Int :=
  Option.bind (if (decide ((4294967296 : Int) ≤ x)) = true then Option.bind (shr .u64 x 32) fun x8 => some (x8, 32) else some (x, 0)) fun s2 =>
  Option.bind (if (decide ((65536 : Int) ≤ s2.1)) = true then Option.bind (shr .u64 s2.1 16) fun x18 => some (x18, w64 (s2.2 + 16)) else some (s2.1, s2.2)) fun s12 =>
  Option.bind (if (decide ((256 : Int) ≤ s12.1)) = true then Option.bind (shr .u64 s12.1 8) fun x28 => some (x28, w64 (s12.2 + 8)) else some (s12.1, s12.2)) fun s22 =>
  Option.bind (idxS (⟨#[0, 1, 2, 2, 3, 3, 3, 3, 4, 4, 4, 4, 4, 4, 4, 4, 5, 5, 5, 5, 5, 5, 5, 5, 5, 5, 5, 5, 5, 5, 5, 5, 6, 6, 6, 6, 6, 6, 6, 6, 6, 6, 6, 6, 6, 6, 6, 6, 6, 6, 6, 6, 6, 6, 6, 6, 6, 6, 6, 6, 6, 6, 6, 6, 7, 7, 7, 7, 7, 7, 7, 7, 7, 7, 7, 7, 7, 7, 7, 7, 7, 7, 7, 7, 7, 7, 7, 7, 7, 7, 7, 7, 7, 7, 7, 7, 7, 7, 7, 7, 7, 7, 7, 7, 7, 7, 7, 7, 7, 7, 7, 7, 7, 7, 7, 7, 7, 7, 7, 7, 7, 7, 7, 7, 7, 7, 7, 7, 8, 8, 8, 8, 8, 8, 8, 8, 8, 8, 8, 8, 8, 8, 8, 8, 8, 8, 8, 8, 8, 8, 8, 8, 8, 8, 8, 8, 8, 8, 8, 8, 8, 8, 8, 8, 8, 8, 8, 8, 8, 8, 8, 8, 8, 8, 8, 8, 8, 8, 8, 8, 8, 8, 8, 8, 8, 8, 8, 8, 8, 8, 8, 8, 8, 8, 8, 8, 8, 8, 8, 8, 8, 8, 8, 8, 8, 8, 8, 8, 8, 8, 8, 8, 8, 8, 8, 8, 8, 8, 8, 8, 8, 8, 8, 8, 8, 8, 8, 8, 8, 8, 8, 8, 8, 8, 8, 8, 8, 8, 8, 8, 8, 8, 8, 8, 8, 8, 8, 8, 8, 8, 8, 8, 8, 8, 8, 8]⟩ : ByteArray) ((toU8 s22.1).toNat : Int)) fun x31 =>
  some (w64 (s22.2 + (IntKind.wrap .i64 (x31.toNat : Int))))

/-- math bits Len -/
def math_bits_Len (x : Int) : Option Int :=
  Option.bind (math_bits_Len64 x) fun x1 =>
  some x1

/-- porterslodge know Index score -/
noncomputable def know_Index_score (x : know_Index) (t : know_Term) (k_ : Int) : Option Int :=
  Option.bind (idx x.ids k_) fun x32 =>
  Option.bind (know_Term_posting t x32) fun x94 =>
  if (!x94.2) = true then
    some 0
  else
    Option.bind (quo (x.ids.length : Int) (t.list_.length : Int)) fun x130 =>
    Option.bind (math_bits_Len (IntKind.wrap .u64 x130)) fun x131 =>
    Option.bind (idx x.sizes k_) fun x144 =>
    Option.bind (quo (w64 ((w64 ((w64 ((w64 (5 * (x94.1.title.length : Int))) + (x94.1.body.length : Int))) * 1000)) * x131)) (w64 (x144 + 20))) fun x148 =>
    some x148

/-- cmp Or int -/
def cmp_Or_int (vals : (List Int)) : Option Int :=
  Option.bind (rangeB (fun k6 _ => Option.bind (idx vals (k6 : Int)) fun x21 => if (x21 != 0) = true then some (.rt x21) else some (.nx ())) vals.length 0 ()) fun o3 => o3.andThen (fun y => some y) fun s4 =>
  some 0

/-- porterslodge know ranked 1 -/
def know_ranked_1 (a_ : know_Hit) (b : know_Hit) : Option Int :=
  Option.bind (cmp_Or_int ([(cmp_Compare_int b.score a_.score), (cmp_Compare_int a_.id_ b.id_)] : List Int)) fun x28 =>
  some x28

/-- slices Clone porterslodge know Hit porterslodge know Hit -/
def slices_Clone_Lknow_Hit_know_Hit (s : (List know_Hit)) : Option (List know_Hit) :=
  Option.bind (appendL 8796093022208 ([] : List know_Hit) s) fun x8 =>
  some x8

/-- porterslodge know ranked -/
noncomputable def know_ranked (l : (List know_Hit)) (most : Int) : Option (List know_Hit) :=
  Option.bind (sortFuncL (fun y5 y6 => know_ranked_1 y5 y6) l) fun x1 =>
  Option.bind (sliceL x1 none (some (if (x1.length : Int) < most then (x1.length : Int) else most))) fun x23 =>
  Option.bind (slices_Clone_Lknow_Hit_know_Hit x23) fun x26 =>
  some x26

/-- porterslodge know Search -/
noncomputable def know_Search (x : know_Index) (q : know_Query) (most : Int) : Option ((List know_Hit) × Int) :=
  Option.bind (know_CheckIndex x) fun x29 =>
  if (x29 != 0) = true then
    some (([] : (List know_Hit)), x29)
  else
    Option.bind (know_QueryText q) fun x37 =>
    if (x37.2 != 0) = true then
      some (([] : (List know_Hit)), x37.2)
    else
      if (!(know_within most 0 100)) = true then
        some (([] : (List know_Hit)), 2)
      else
        Option.bind (slices_ContainsFunc_Lknow_Part_know_Part q.parts (fun y47 => know_Search_1 y47)) fun x48 =>
        if (!x48) = true then
          some (([] : (List know_Hit)), 0)
        else
          Option.bind (rangeB (fun k70 s78 => Option.bind (idx q.parts (k70 : Int)) fun x93 => Option.bind (know_Index_named x x93) fun x121 => Option.bind (appendL 5864062014805 s78 ([x121] : List (List know_Term))) fun x141 => some (.nx x141)) q.parts.length 0 ([] : (List (List know_Term)))) fun o67 => o67.andThen (fun y => some y) fun s68 =>
          Option.bind (rangeB (fun k162 s170 => Option.bind (Option.bind (idx x.ids (k162 : Int)) fun x195 => Option.bind (rangeB (R := Empty) (fun k206 s212 => Option.bind (Option.bind (idx q.parts (k206 : Int)) fun x233 => Option.bind (if s212.1 = true then (Option.bind (idx s68 (k206 : Int)) fun x263 => Option.bind (know_Index_matches x x233 x263 x195) fun x270 => some (!(x270 == x233.not_))) else (some false)) fun s252 => if x233.not_ = true then some (s252, s212.2) else Option.bind (idx s68 (k206 : Int)) fun x278 => Option.bind (rangeB (R := Empty) (fun k288 s294 => Option.bind (idx x278 (k288 : Int)) fun x307 => Option.bind (know_Index_score x x307 (k162 : Int)) fun x335 => some (.nx (w64 (s294 + x335)))) x278.length 0 s212.2) fun o285 => o285.andThen (fun y => y.elim) fun s286 => some (s252, s286)) fun s226 => some (.nx (s226.1, s226.2))) q.parts.length 0 (true, 0)) fun o203 => o203.andThen (fun y => y.elim) fun s204 => Option.bind (if s204.1 = true then Option.bind (appendL 8796093022208 s170 ([(⟨x195, s204.2⟩ : know_Hit)] : List know_Hit)) fun x362 => some x362 else some s170) fun s347 => some s347) fun s186 => some (.nx s186)) x.ids.length 0 ([] : (List know_Hit))) fun o159 => o159.andThen (fun y => some y) fun s160 =>
          Option.bind (know_ranked s160 most) fun x374 =>
          some (x374, 0)

/-- porterslodge portref2 isWordByte -/
def portref2_isWordByte (b : Int) : Bool :=
  (((((decide ((97 : Int) ≤ b)) && (decide (b ≤ 122))) || ((decide ((65 : Int) ≤ b)) && (decide (b ≤ 90)))) || ((decide ((48 : Int) ≤ b)) && (decide (b ≤ 57)))) || (decide ((128 : Int) ≤ b)))

/-- porterslodge portref2 lower -/
def portref2_lower (s : ByteArray) : Option ByteArray :=
  Option.bind (bytesL s) fun x1 =>
  Option.bind (rangeB (fun k10 s18 => Option.bind (Option.bind (idx s18 (k10 : Int)) fun x43 => Option.bind (if ((decide ((65 : Int) ≤ (x43.toNat : Int))) && (decide ((x43.toNat : Int) ≤ 90))) = true then Option.bind (setI s18 (k10 : Int) (toU8 ((x43.toNat : Int) + 32))) fun x65 => some x65 else some s18) fun s51 => some s51) fun s34 => some (.nx s34)) x1.length 0 x1) fun o7 => o7.andThen (fun y => some y) fun s8 =>
  some (⟨s8.toArray⟩ : ByteArray)

/-- porterslodge portref2 WordsOf -/
noncomputable def portref2_WordsOf (s : ByteArray) : Option (List ByteArray) :=
  Option.bind (whileB (fun s12 => if (decide (s12.2 < (s.size : Int))) = true then Option.bind (whileB (fun s33 => Option.bind (if (decide (s33 < (s.size : Int))) = true then (Option.bind (idxS s s33) fun x44 => some (portref2_isWordByte (x44.toNat : Int))) else (some false)) fun s43 => if s43 = true then some (.nx (w64 (s33 + 1))) else some (.bk s33)) s12.2) fun o26 => o26.andThen (fun y => some (.rt y)) fun s27 => Option.bind (if ((decide (s12.2 < s27)) && (decide ((w64 (s27 - s12.2)) ≤ 30))) = true then Option.bind (sliceS s (some s12.2) (some s27)) fun x62 => Option.bind (portref2_lower x62) fun x63 => Option.bind (appendL 8796093022208 s12.1 ([x63] : List ByteArray)) fun x73 => some x73 else some s12.1) fun s52 => some (.nx (s52, (if s27 < w64 (s12.2 + 1) then w64 (s12.2 + 1) else s27))) else some (.bk (s12.1, s12.2))) (([] : (List ByteArray)), 0)) fun o1 => o1.andThen (fun y => some y) fun s2 =>
  some s2.1

/-- slices Index int int -/
def slices_Index_Lint_int (s : (List Int)) (v : Int) : Option Int :=
  Option.bind (rangeB (fun k6 _ => Option.bind (idx s (k6 : Int)) fun x21 => if (v == x21) = true then some (.rt (k6 : Int)) else some (.nx ())) s.length 0 ()) fun o3 => o3.andThen (fun y => some y) fun s4 =>
  some (-1)

/-- porterslodge portref2 positionsFault -/
def portref2_positionsFault (l : (List Int)) (size : Int) : Option Int :=
  Option.bind (rangeB (fun k6 _ => Option.bind (idx l (k6 : Int)) fun x21 => if ((decide (x21 < 0)) || (decide (size ≤ x21))) = true then some (.rt 2) else some (.nx ())) l.length 0 ()) fun o3 => o3.andThen (fun y => some y) fun s4 =>
  Option.bind (rangeB (fun k34 _ => Option.bind (idx l (k34 : Int)) fun x49 => Option.bind (if (decide ((0 : Int) < (k34 : Int))) = true then (Option.bind (idx l (w64 ((k34 : Int) - 1))) fun x55 => some (decide (x49 ≤ x55))) else (some false)) fun s54 => if s54 = true then some (.rt 5) else some (.nx ())) l.length 0 ()) fun o31 => o31.andThen (fun y => some y) fun s32 =>
  some 0

/-- porterslodge portref2 IndexFault -/
noncomputable def portref2_IndexFault (x : know_Index) : Option Int :=
  if (decide ((200 : Int) < (x.ids.length : Int))) = true then
    some 4
  else
    if ((x.sizes.length : Int) != (x.ids.length : Int)) = true then
      some 1
    else
      Option.bind (rangeB (fun k35 _ => Option.bind (idx x.ids (k35 : Int)) fun x50 => if ((decide (x50 < 1)) || (decide ((3000000 : Int) < x50))) = true then some (.rt 2) else Option.bind (if (decide ((0 : Int) < (k35 : Int))) = true then (Option.bind (idx x.ids (w64 ((k35 : Int) - 1))) fun x63 => some (decide (x50 ≤ x63))) else (some false)) fun s58 => if s58 = true then some (.rt 5) else Option.bind (idx x.sizes (k35 : Int)) fun x72 => Option.bind (if (decide (x72 < 0)) = true then (some true) else (some (decide ((20000 : Int) < x72)))) fun s77 => if s77 = true then some (.rt 2) else some (.nx ())) x.ids.length 0 ()) fun o32 => o32.andThen (fun y => some y) fun s33 =>
      Option.bind (rangeB (fun k96 _ => Option.bind (α := Lp _ _) (Option.bind (idx x.terms (k96 : Int)) fun x123 => Option.bind (portref2_WordsOf x123.word) fun x142 => Option.bind (if ((x142.length : Int) != 1) = true then (some true) else (Option.bind (idx x142 0) fun x152 => some (!(strEq x152 x123.word)))) fun s151 => if (s151 || ((x123.list_.length : Int) == 0)) = true then some (.rt 1) else Option.bind (if (decide ((0 : Int) < (k96 : Int))) = true then (Option.bind (idx x.terms (w64 ((k96 : Int) - 1))) fun x175 => some (strLt x123.word x175.word || strEq x123.word x175.word)) else (some false)) fun s169 => if s169 = true then some (.rt 5) else Option.bind (rangeB (fun k191 _ => Option.bind (α := Lp _ _) (Option.bind (idx x123.list_ (k191 : Int)) fun x218 => Option.bind (slices_Index_Lint_int x.ids x218.id_) fun x246 => if (decide (x246 < 0)) = true then some (.rt 7) else Option.bind (if (decide ((0 : Int) < (k191 : Int))) = true then (Option.bind (idx x123.list_ (w64 ((k191 : Int) - 1))) fun x255 => some (decide (x218.id_ ≤ x255.id_))) else (some false)) fun s249 => if s249 = true then some (.rt 5) else if ((w64 ((x218.title.length : Int) + (x218.body.length : Int))) == 0) = true then some (.rt 1) else Option.bind (rangeB (fun k295 _ => Option.bind (idx ([x218.title, x218.body] : List (List Int)) (k295 : Int)) fun x310 => Option.bind (idx x.sizes x246) fun x321 => Option.bind (portref2_positionsFault x310 x321) fun x325 => if (x325 != 0) = true then some (.rt x325) else some (.nx ())) (([x218.title, x218.body] : List (List Int)).length) 0 ()) fun o292 => o292.andThen (fun y => some (.rt y)) fun s293 => some (.fin ())) fun o210 => o210.andThen (fun y => some (.rt y)) fun s211 => some (.nx ())) x123.list_.length 0 ()) fun o188 => o188.andThen (fun y => some (.rt y)) fun s189 => some (.fin ())) fun o115 => o115.andThen (fun y => some (.rt y)) fun s116 => some (.nx ())) x.terms.length 0 ()) fun o93 => o93.andThen (fun y => some y) fun s94 =>
      some 0

/-- porterslodge portref2 QueryFault -/
noncomputable def portref2_QueryFault (q : know_Query) : Option (ByteArray × Int) :=
  if (decide ((20 : Int) < (q.parts.length : Int))) = true then
    some ((⟨#[]⟩ : ByteArray), 4)
  else
    Option.bind (rangeB (fun k21 s29 => Option.bind (idx q.parts (k21 : Int)) fun x44 => if ((((decide (x44.kind < 0)) || (decide ((2 : Int) < x44.kind))) || ((x44.words.length : Int) == 0)) || ((x44.kind != 1) && ((x44.words.length : Int) != 1))) = true then some (.rt ((⟨#[]⟩ : ByteArray), 1)) else Option.bind (rangeB (fun k89 _ => Option.bind (idx x44.words (k89 : Int)) fun x108 => Option.bind (portref2_WordsOf x108) fun x112 => Option.bind (if ((x112.length : Int) != 1) = true then (some true) else (Option.bind (idx x112 0) fun x122 => some (!(strEq x122 x108)))) fun s121 => if s121 = true then some (.rt ((⟨#[]⟩ : ByteArray), 1)) else some (.nx ())) x44.words.length 0 ()) fun o86 => o86.andThen (fun y => some (.rt y)) fun s87 => Option.bind (strings_Join x44.words (⟨#[32]⟩ : ByteArray)) fun x135 => Option.bind (Option.bind (if (x44.kind == 1) = true then Option.bind (catS (⟨#[34]⟩ : ByteArray) x135) fun x153 => Option.bind (catS x153 (⟨#[34]⟩ : ByteArray)) fun x154 => some x154 else Option.bind (if (x44.kind == 2) = true then Option.bind (catS x135 (⟨#[42]⟩ : ByteArray)) fun x163 => some x163 else some x135) fun s157 => some s157) fun s147 => some s147) fun s141 => Option.bind (if x44.not_ = true then Option.bind (catS (⟨#[45]⟩ : ByteArray) s141) fun x176 => some x176 else some s141) fun s170 => Option.bind (appendL 8796093022208 s29 ([s170] : List ByteArray)) fun x184 => some (.nx x184)) q.parts.length 0 ([] : (List ByteArray))) fun o18 => o18.andThen (fun y => some y) fun s19 =>
    Option.bind (strings_Join s19 (⟨#[32]⟩ : ByteArray)) fun x193 =>
    if (decide ((400 : Int) < (x193.size : Int))) = true then
      some ((⟨#[]⟩ : ByteArray), 4)
    else
      some (x193, 0)

/-- slices IndexFunc string string -/
def slices_IndexFunc_Lstring_string (s : (List ByteArray)) (f : ByteArray → Option Bool) : Option Int :=
  Option.bind (rangeB (fun k6 _ => Option.bind (idx s (k6 : Int)) fun x25 => Option.bind (f x25) fun x29 => if x29 = true then some (.rt (k6 : Int)) else some (.nx ())) s.length 0 ()) fun o3 => o3.andThen (fun y => some y) fun s4 =>
  some (-1)

/-- slices ContainsFunc string string -/
def slices_ContainsFunc_Lstring_string (s : (List ByteArray)) (f : ByteArray → Option Bool) : Option Bool :=
  Option.bind (slices_IndexFunc_Lstring_string s f) fun x3 =>
  some (decide ((0 : Int) ≤ x3))

/-- strings.Trim -/
def strings_Trim (s : ByteArray) (cutset : ByteArray) : Option ByteArray :=
  if s.size ≤ 9223372036854775807 ∧ cutset.size < 4294967281 ∧ (cutset.data.toList.all fun b => decide (b.toNat < 128)) = true then some ⟨(Go.Lib.trimS s.data.toList cutset.data.toList).toArray⟩ else none

/-- porterslodge portref2 StemOf 1 -/
def portref2_StemOf_1 (s : ByteArray) (p1 : ByteArray) : Option Bool :=
  Option.bind (strings_HasSuffix p1 s) fun x1 =>
  some x1

/-- porterslodge portref2 StemOf -/
def portref2_StemOf (w_ : ByteArray) : Option ByteArray :=
  Option.bind (if (decide ((w_.size : Int) < 4)) = true then (some true) else (Option.bind (strings_Trim w_ (⟨#[97, 98, 99, 100, 101, 102, 103, 104, 105, 106, 107, 108, 109, 110, 111, 112, 113, 114, 115, 116, 117, 118, 119, 120, 121, 122]⟩ : ByteArray)) fun x17 => some (!(strEq x17 (⟨#[]⟩ : ByteArray))))) fun s8 =>
  if s8 = true then
    some w_
  else
    Option.bind (portref2_StemOf_1 (⟨#[105, 101, 115]⟩ : ByteArray) w_) fun x23 =>
    if x23 = true then
      Option.bind (sliceS w_ none (some (w64 ((w_.size : Int) - 3)))) fun x25 =>
      Option.bind (catS x25 (⟨#[121]⟩ : ByteArray)) fun x26 =>
      some x26
    else
      Option.bind (portref2_StemOf_1 (⟨#[115, 115, 101, 115]⟩ : ByteArray) w_) fun x27 =>
      if x27 = true then
        Option.bind (sliceS w_ none (some (w64 ((w_.size : Int) - 2)))) fun x29 =>
        some x29
      else
        Option.bind (portref2_StemOf_1 (⟨#[115, 115]⟩ : ByteArray) w_) fun x30 =>
        if x30 = true then
          some w_
        else
          Option.bind (portref2_StemOf_1 (⟨#[115]⟩ : ByteArray) w_) fun x32 =>
          if x32 = true then
            Option.bind (sliceS w_ none (some (w64 ((w_.size : Int) - 1)))) fun x34 =>
            some x34
          else
            Option.bind (portref2_StemOf_1 (⟨#[105, 110, 103]⟩ : ByteArray) w_) fun x35 =>
            if (x35 && (decide ((6 : Int) ≤ (w_.size : Int)))) = true then
              Option.bind (sliceS w_ none (some (w64 ((w_.size : Int) - 3)))) fun x39 =>
              some x39
            else
              Option.bind (portref2_StemOf_1 (⟨#[101, 100]⟩ : ByteArray) w_) fun x40 =>
              if (x40 && (decide ((5 : Int) ≤ (w_.size : Int)))) = true then
                Option.bind (sliceS w_ none (some (w64 ((w_.size : Int) - 2)))) fun x44 =>
                some x44
              else
                some w_

/-- porterslodge portref2 termsOf 1 -/
def portref2_termsOf_1 (w_ : ByteArray) (p1 : know_Part) (p2 : know_Term) : Option Bool :=
  if (p1.kind == 2) = true then
    Option.bind (strings_HasPrefix p2.word w_) fun x4 =>
    some x4
  else
    Option.bind (portref2_StemOf w_) fun x6 =>
    some (strEq p2.word x6)

/-- porterslodge portref2 termsOf -/
def portref2_termsOf (x : know_Index) (p : know_Part) : Option (List know_Term) :=
  Option.bind (rangeB (fun k29 s37 => Option.bind (Option.bind (idx x.terms (k29 : Int)) fun x62 => Option.bind (slices_ContainsFunc_Lstring_string p.words (fun y84 => portref2_termsOf_1 y84 p x62)) fun x85 => Option.bind (if x85 = true then Option.bind (appendL 3518437208883 s37 ([x62] : List know_Term)) fun x119 => some x119 else some s37) fun s98 => some s98) fun s53 => some (.nx s53)) x.terms.length 0 ([] : (List know_Term))) fun o26 => o26.andThen (fun y => some y) fun s27 =>
  some s27

/-- porterslodge portref2 postingOf -/
def portref2_postingOf (t : know_Term) (id_ : Int) : Option (know_Posting × Bool) :=
  Option.bind (rangeB (fun k21 s31 => Option.bind (idx t.list_ (k21 : Int)) fun x49 => if (x49.id_ == id_) = true then some (.rt (x49, true)) else some (.nx s31)) t.list_.length 0 (⟨0, ([] : (List Int)), ([] : (List Int))⟩ : know_Posting)) fun o18 => o18.andThen (fun y => some y) fun s19 =>
  some ((⟨0, ([] : (List Int)), ([] : (List Int))⟩ : know_Posting), false)

/-- porterslodge portref2 matches 1 -/
def portref2_matches_1 (t : know_Term) (p1 : Int) : Option Bool :=
  Option.bind (portref2_postingOf t p1) fun x12 =>
  some x12.2

/-- porterslodge portref2 termOf -/
def portref2_termOf (x : know_Index) (word : ByteArray) : Option (know_Term × Bool) :=
  Option.bind (rangeB (fun k26 s34 => Option.bind (idx x.terms (k26 : Int)) fun x49 => if (strEq x49.word word) = true then some (.rt (x49, true)) else some (.nx s34)) x.terms.length 0 (⟨ByteArray.empty, ([] : (List know_Posting))⟩ : know_Term)) fun o23 => o23.andThen (fun y => some y) fun s24 =>
  some ((⟨ByteArray.empty, ([] : (List know_Posting))⟩ : know_Term), false)

/-- porterslodge portref2 matches 2 -/
def portref2_matches_2 (w_ : ByteArray) (title : Bool) (p2 : know_Index) (p3 : Int) : Option (List Int) :=
  Option.bind (portref2_StemOf w_) fun x71 =>
  Option.bind (portref2_termOf p2 x71) fun x131 =>
  Option.bind (portref2_postingOf x131.1 p3) fun x156 =>
  if title = true then
    some x156.1.title
  else
    some x156.1.body

/-- slices Contains int int -/
def slices_Contains_Lint_int (s : (List Int)) (v : Int) : Option Bool :=
  Option.bind (slices_Index_Lint_int s v) fun x3 =>
  some (decide ((0 : Int) ≤ x3))

/-- porterslodge portref2 matches -/
def portref2_matches (x : know_Index) (p : know_Part) (id_ : Int) : Option Bool :=
  if (p.kind != 1) = true then
    Option.bind (portref2_termsOf x p) fun x40 =>
    Option.bind (slices_ContainsFunc_Lknow_Term_know_Term x40 (fun y47 => portref2_matches_1 y47 id_)) fun x48 =>
    some x48
  else
    Option.bind (rangeB (fun k70 _ => Option.bind (α := Lp _ _) (Option.bind (idx ([true, false] : List Bool) (k70 : Int)) fun x97 => Option.bind (idx p.words 0) fun x105 => Option.bind (portref2_matches_2 x105 x97 x id_) fun x109 => Option.bind (rangeB (fun k118 _ => Option.bind (idx x109 (k118 : Int)) fun x137 => Option.bind (rangeB (fun k148 s154 => Option.bind (idx p.words (k148 : Int)) fun x167 => Option.bind (if s154 = true then (Option.bind (portref2_matches_2 x167 x97 x id_) fun x180 => Option.bind (slices_Contains_Lint_int x180 (w64 (x137 + (k148 : Int)))) fun x186 => some x186) else (some false)) fun s172 => some (.nx s172)) p.words.length 0 true) fun o145 => o145.andThen (fun y => some (.rt y)) fun s146 => if s146 = true then some (.rt true) else some (.nx ())) x109.length 0 ()) fun o115 => o115.andThen (fun y => some (.rt y)) fun s116 => some (.fin ())) fun o89 => o89.andThen (fun y => some (.rt y)) fun s90 => some (.nx ())) (([true, false] : List Bool).length) 0 ()) fun o67 => o67.andThen (fun y => some y) fun s68 =>
    some false

/-- porterslodge portref2 termScore -/
def portref2_termScore (x : know_Index) (t : know_Term) (id_ : Int) : Option Int :=
  Option.bind (portref2_postingOf t id_) fun x25 =>
  if (!x25.2) = true then
    some 0
  else
    Option.bind (quo (x.ids.length : Int) (t.list_.length : Int)) fun x56 =>
    Option.bind (math_bits_Len (IntKind.wrap .u64 x56)) fun x57 =>
    Option.bind (slices_Index_Lint_int x.ids id_) fun x66 =>
    Option.bind (idx x.sizes x66) fun x67 =>
    Option.bind (quo (w64 ((w64 ((w64 ((w64 (5 * (x25.1.title.length : Int))) + (x25.1.body.length : Int))) * 1000)) * x57)) (w64 (x67 + 20))) fun x82 =>
    some x82

/-- porterslodge portref2 ranked 1 -/
def portref2_ranked_1 (a_ : know_Hit) (b : know_Hit) : Option Int :=
  Option.bind (cmp_Or_int ([(cmp_Compare_int b.score a_.score), (cmp_Compare_int a_.id_ b.id_)] : List Int)) fun x28 =>
  some x28

/-- porterslodge portref2 ranked -/
noncomputable def portref2_ranked (l : (List know_Hit)) (most : Int) : Option (List know_Hit) :=
  Option.bind (sortFuncL (fun y5 y6 => portref2_ranked_1 y5 y6) l) fun x1 =>
  Option.bind (sliceL x1 none (some (if most < (x1.length : Int) then most else (x1.length : Int)))) fun x23 =>
  some x23

/-- porterslodge portref2 SearchOf -/
noncomputable def portref2_SearchOf (x : know_Index) (q : know_Query) (most : Int) : Option ((List know_Hit) × Int) :=
  Option.bind (portref2_IndexFault x) fun x29 =>
  if (x29 != 0) = true then
    some (([] : (List know_Hit)), x29)
  else
    Option.bind (portref2_QueryFault q) fun x37 =>
    if (x37.2 != 0) = true then
      some (([] : (List know_Hit)), x37.2)
    else
      if ((decide (most < 0)) || (decide ((100 : Int) < most))) = true then
        some (([] : (List know_Hit)), 2)
      else
        Option.bind (rangeB (fun k52 s60 => Option.bind (Option.bind (idx x.ids (k52 : Int)) fun x85 => Option.bind (rangeB (R := Empty) (fun k104 s110 => Option.bind (Option.bind (idx q.parts (k104 : Int)) fun x131 => Option.bind (if s110.1 = true then (Option.bind (portref2_matches x x131 x85) fun x161 => some (!(x161 == x131.not_))) else (some false)) fun s150 => if x131.not_ = true then some (s150, s110.2.1, s110.2.2) else Option.bind (portref2_termsOf x x131) fun x179 => Option.bind (rangeB (R := Empty) (fun k194 s200 => Option.bind (idx x179 (k194 : Int)) fun x213 => Option.bind (portref2_termScore x x213 x85) fun x241 => some (.nx (⟨s200.id_, w64 (s200.score + x241)⟩ : know_Hit))) x179.length 0 s110.2.2) fun o191 => o191.andThen (fun y => y.elim) fun s192 => some (s150, true, s192)) fun s124 => some (.nx (s124.1, s124.2.1, s124.2.2))) q.parts.length 0 (true, false, (⟨x85, 0⟩ : know_Hit))) fun o101 => o101.andThen (fun y => y.elim) fun s102 => Option.bind (if (s102.1 && s102.2.1) = true then Option.bind (appendL 8796093022208 s60 ([s102.2.2] : List know_Hit)) fun x273 => some x273 else some s60) fun s258 => some s258) fun s76 => some (.nx s76)) x.ids.length 0 ([] : (List know_Hit))) fun o49 => o49.andThen (fun y => some y) fun s50 =>
        Option.bind (portref2_ranked s50 most) fun x285 =>
        some (x285, 0)

/-- slices Equal porterslodge know Hit porterslodge know Hit -/
def slices_Equal_Lknow_Hit_know_Hit (s1 : (List know_Hit)) (s2 : (List know_Hit)) : Option Bool :=
  if ((s1.length : Int) != (s2.length : Int)) = true then
    some false
  else
    Option.bind (rangeB (fun k9 _ => Option.bind (idx s1 (k9 : Int)) fun x29 => Option.bind (idx s2 (k9 : Int)) fun x34 => if (!(x29.id_ == x34.id_ && (x29.score == x34.score))) = true then some (.rt false) else some (.nx ())) s1.length 0 ()) fun o6 => o6.andThen (fun y => some y) fun s7 =>
    some true

/-- porterslodge portlaw2 KnowSearches -/
noncomputable def portlaw2_KnowSearches (x : know_Index) (q : know_Query) (most : Int) : Option Bool :=
  Option.bind (know_Search x q most) fun x32 =>
  Option.bind (portref2_SearchOf x q most) fun x50 =>
  Option.bind (if (x32.2 == x50.2) = true then (Option.bind (slices_Equal_Lknow_Hit_know_Hit x32.1 x50.1) fun x65 => some x65) else (some false)) fun s57 =>
  some s57

end Go.Proofs.YtkjlbaacbkdnfaaGreatDoor.M
