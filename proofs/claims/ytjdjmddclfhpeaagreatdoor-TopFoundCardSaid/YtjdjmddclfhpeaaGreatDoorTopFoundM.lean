import Derived.Test.YtjdjmddclfhpeaaGreatDoorPu
import Derived.Lib.Bytealg
import Derived.Lib.Join
import Derived.Lib.Split
import Derived.Test.YtjdjmddclfhpeaaGreatDoorPr
import Derived.Lib.SlicesCompact
import Derived.Test.YtjdjmddclfhpeaaGreatDoorPj
namespace Go.Proofs.YtjdjmddclfhpeaaGreatDoor.M
open Go Go.Pu
set_option linter.unusedVariables false
set_option linter.unusedSimpArgs false
structure know_queryReader where
 s : ByteArray
 at_ : Int
structure know_Part where
 kind : Int
 not_ : Bool
 words : (List ByteArray)
structure know_Query where
 parts : (List know_Part)
structure know_Version where
 at_ : Int
 title : ByteArray
 body : ByteArray
structure know_Article where
 id_ : Int
 group : Int
 versions : (List know_Version)
structure know_Entry where
 id_ : Int
 title : ByteArray
 body : ByteArray
structure know_Posting where
 id_ : Int
 title : (List Int)
 body : (List Int)
structure know_Term where
 word : ByteArray
 list_ : (List know_Posting)
structure know_Index where
 ids : (List Int)
 sizes : (List Int)
 terms : (List know_Term)
structure know_Hit where
 id_ : Int
 score : Int
def know_digit (c : Int) : Bool :=
 ((decide ((48 : Int) ≤ c)) && (decide (c ≤ 57)))
def know_letter (c : Int) : Bool :=
 (((decide ((97 : Int) ≤ c)) && (decide (c ≤ 122))) || ((decide ((65 : Int) ≤ c)) && (decide (c ≤ 90))))
def know_inWord (c : Int) : Bool :=
 (((know_letter c) || (know_digit c)) || (decide ((128 : Int) ≤ c)))
def know_lower (s : ByteArray) : Option ByteArray :=
 Option.bind (bytesL s) fun x1 =>
 Option.bind (rangeB (fun k10 s18 => Option.bind (Option.bind (idx s18 (k10 : Int)) fun x43 => Option.bind (if ((decide ((65 : Int) ≤ (x43.toNat : Int))) && (decide ((x43.toNat : Int) ≤ 90))) = true then Option.bind (setI s18 (k10 : Int) (toU8 (((toU8 ((x43.toNat : Int) + 97)).toNat : Int) - 65))) fun x65 => some x65 else some s18) fun s51 => some s51) fun s34 => some (.nx s34)) x1.length 0 x1) fun o7 => o7.andThen (fun y => some y) fun s8 =>
 some (⟨s8.toArray⟩ : ByteArray)
noncomputable def know_Words (s : ByteArray) : Option (List ByteArray) :=
 Option.bind (whileB (fun s12 => if (decide (s12.2 < (s.size : Int))) = true then Option.bind (whileB (fun s33 => Option.bind (if (decide (s33 < (s.size : Int))) = true then (Option.bind (idxS s s33) fun x44 => some (know_inWord (x44.toNat : Int))) else (some false)) fun s43 => if s43 = true then some (.nx (w64 (s33 + 1))) else some (.bk s33)) s12.2) fun o26 => o26.andThen (fun y => some (.rt y)) fun s27 => Option.bind (if ((decide (s12.2 < s27)) && (decide ((w64 (s27 - s12.2)) ≤ 30))) = true then Option.bind (sliceS s (some s12.2) (some s27)) fun x62 => Option.bind (know_lower x62) fun x63 => Option.bind (appendL 8796093022208 s12.1 ([x63] : List ByteArray)) fun x73 => some x73 else some s12.1) fun s52 => some (.nx (s52, w64 (s27 + 1))) else some (.bk (s12.1, s12.2))) (([] : (List ByteArray)), 0)) fun o1 => o1.andThen (fun y => some y) fun s2 =>
 some s2.1
noncomputable def porttop_awakeKnow  : Option Bool :=
 Option.bind (know_Words (⟨#[97]⟩ : ByteArray)) fun x1 =>
 some ((x1.length : Int) == 1)
def know_queryReader_is (r_ : know_queryReader) (c : Int) : Option (Bool × know_queryReader) :=
 Option.bind (if (decide (r_.at_ < (r_.s.size : Int))) = true then (Option.bind (idxS r_.s r_.at_) fun x3 => some ((x3.toNat : Int) == c)) else (some false)) fun s2 =>
 if s2 = true then
  some (true, (⟨r_.s, w64 (r_.at_ + 1)⟩ : know_queryReader))
 else
  some (false, r_)
noncomputable def know_queryReader_blanks (r_ : know_queryReader) : Option know_queryReader :=
 Option.bind (whileB (fun s10 => Option.bind (know_queryReader_is s10 32) fun x21 => if x21.1 = true then some (.nx x21.2) else some (.bk x21.2)) r_) fun o1 => o1.andThen (fun y => some y) fun s2 =>
 some s2
def internal_stringslite_IndexByte (s : ByteArray) (c : Int) : Int :=
 (indexByteS s c)
def strings_IndexByte (s : ByteArray) (c : Int) : Int :=
 (internal_stringslite_IndexByte s c)
noncomputable def know_queryReader_part (r_ : know_queryReader) : Option (know_Part × Bool × know_queryReader) :=
 Option.bind (know_queryReader_is r_ 45) fun x6 =>
 Option.bind (know_queryReader_is x6.2 34) fun x20 =>
 if x20.1 = true then
  Option.bind (sliceS x20.2.s (some x20.2.at_) none) fun x26 =>
  Option.bind (if (decide ((0 : Int) ≤ (strings_IndexByte x26 34))) = true then Option.bind (sliceS x20.2.s (some x20.2.at_) (some (w64 (x20.2.at_ + (strings_IndexByte x26 34))))) fun x44 => Option.bind (know_Words x44) fun x45 => some (⟨1, x6.1, x45⟩ : know_Part) else some (⟨0, x6.1, ([] : (List ByteArray))⟩ : know_Part)) fun s31 =>
  if ((s31.words.length : Int) == 0) = true then
   some (s31, false, (⟨x20.2.s, x6.2.at_⟩ : know_queryReader))
  else
   some (s31, true, (⟨x20.2.s, w64 (x20.2.at_ + (w64 ((strings_IndexByte x26 34) + 1)))⟩ : know_queryReader))
 else
  Option.bind (whileB (fun s99 => Option.bind (if ((decide (s99.at_ < (s99.s.size : Int))) && (decide ((w64 (s99.at_ - x6.2.at_)) < 30))) = true then (Option.bind (idxS s99.s s99.at_) fun x114 => some (know_inWord (x114.toNat : Int))) else (some false)) fun s113 => if s113 = true then some (.nx (⟨s99.s, w64 (s99.at_ + 1)⟩ : know_queryReader)) else some (.bk s99)) x20.2) fun o90 => o90.andThen (fun y => some y) fun s91 =>
  if (s91.at_ == x6.2.at_) = true then
   some ((⟨0, x6.1, ([] : (List ByteArray))⟩ : know_Part), false, s91)
  else
   Option.bind (sliceS s91.s (some x6.2.at_) (some s91.at_)) fun x130 =>
   Option.bind (know_lower x130) fun x131 =>
   Option.bind (know_queryReader_is s91 42) fun x146 =>
   Option.bind (if x146.1 = true then some (⟨2, x6.1, ([x131] : List ByteArray)⟩ : know_Part) else some (⟨0, x6.1, ([x131] : List ByteArray)⟩ : know_Part)) fun s152 =>
   some (s152, true, x146.2)
noncomputable def know_ReadQuery (s : ByteArray) : Option (know_Query × Int × Int) :=
 if (decide ((400 : Int) < (s.size : Int))) = true then
  some ((⟨([] : (List know_Part))⟩ : know_Query), 0, 4)
 else
  Option.bind (know_queryReader_blanks (⟨s, 0⟩ : know_queryReader)) fun x21 =>
  Option.bind (whileB (fun s39 => if (decide (s39.1.at_ < (s.size : Int))) = true then Option.bind (know_queryReader_part s39.1) fun x55 => if (!x55.2.1) = true then some (.rt ((⟨([] : (List know_Part))⟩ : know_Query), x55.2.2.at_, 8)) else Option.bind (appendL 3518437208883 s39.2.1.parts ([x55.1] : List know_Part)) fun x96 => if (x55.2.2.at_ == (s.size : Int)) = true then some (.bk (x55.2.2, (⟨x96⟩ : know_Query), s39.2.2)) else Option.bind (know_queryReader_is x55.2.2 32) fun x110 => if (!x110.1) = true then some (.rt ((⟨([] : (List know_Part))⟩ : know_Query), x110.2.at_, 8)) else Option.bind (know_queryReader_blanks x110.2) fun x127 => some (.nx (x127, (⟨x96⟩ : know_Query), s39.2.2)) else some (.bk (s39.1, s39.2.1, s39.2.2))) (x21, (⟨([] : (List know_Part))⟩ : know_Query), (⟨([] : (List know_Part))⟩ : know_Query))) fun o26 => o26.andThen (fun y => some y) fun s27 =>
  if (decide ((20 : Int) < (s27.2.1.parts.length : Int))) = true then
   some ((⟨([] : (List know_Part))⟩ : know_Query), 0, 4)
  else
   some (s27.2.1, 0, 0)
def know_within (n : Int) (low : Int) (high : Int) : Bool :=
 ((decide (low ≤ n)) && (decide (n ≤ high)))
def strings_genSplit (s : ByteArray) (sep : ByteArray) (sepSave : Int) (n : Int) : Option (List ByteArray) :=
 if s.size < 4294967281 ∧ 1 ≤ sep.size ∧ 0 ≤ sepSave ∧ sepSave ≤ (sep.size : Int) ∧ n = -1 then some (Go.Lib.splitB sep sepSave.toNat (min (Go.Lib.countB s sep + 1) (s.size + 1) - 1) s) else none
def strings_SplitAfter (s : ByteArray) (sep : ByteArray) : Option (List ByteArray) :=
 Option.bind (strings_genSplit s sep (sep.size : Int) (-1)) fun x1 =>
 some x1
def know_lines (body : ByteArray) : Option (List ByteArray) :=
 Option.bind (strings_SplitAfter body (⟨#[10]⟩ : ByteArray)) fun x1 =>
 Option.bind (idx x1 (w64 ((x1.length : Int) - 1))) fun x7 =>
 Option.bind (if (strEq x7 (⟨#[]⟩ : ByteArray)) = true then Option.bind (sliceL x1 none (some (w64 ((x1.length : Int) - 1)))) fun x21 => some x21 else some x1) fun s12 =>
 some s12
noncomputable def know_plain (s : ByteArray) (feeds : Bool) : Option Bool :=
 Option.bind (whileB (fun s8 => if (decide (s8 < (s.size : Int))) = true then Option.bind (idxS s s8) fun x18 => Option.bind (if (decide ((x18.toNat : Int) < 32)) = true then (some true) else (some ((x18.toNat : Int) == 127))) fun s20 => Option.bind (if s20 = true then (some (((x18.toNat : Int) != 10) || (!feeds))) else (some false)) fun s22 => if s22 = true then some (.rt false) else some (.nx (w64 (s8 + 1))) else some (.bk s8)) 0) fun o1 => o1.andThen (fun y => some y) fun s2 =>
 some true
noncomputable def know_checkText (title : ByteArray) (body : ByteArray) : Option Int :=
 if ((decide ((200 : Int) < (title.size : Int))) || (decide ((20000 : Int) < (body.size : Int)))) = true then
  some 4
 else
  Option.bind (know_plain title false) fun x4 =>
  Option.bind (if (!x4) = true then (some true) else (Option.bind (know_plain body true) fun x7 => some (!x7))) fun s6 =>
  if s6 = true then
   some 9
  else
   some 0
noncomputable def know_checkVersion (v : know_Version) (before : Int) : Option Int :=
 if (!(know_within v.at_ 0 3000000)) = true then
  some 2
 else
  if (decide (v.at_ < before)) = true then
   some 5
  else
   Option.bind (if (decide ((v.body.size : Int) ≤ 20000)) = true then (Option.bind (know_lines v.body) fun x22 => some (decide ((2000 : Int) < (x22.length : Int)))) else (some false)) fun s12 =>
   if s12 = true then
    some 4
   else
    Option.bind (know_checkText v.title v.body) fun x33 =>
    if (x33 != 0) = true then
     some x33
    else
     if ((strEq v.title (⟨#[]⟩ : ByteArray)) && (!(strEq v.body (⟨#[]⟩ : ByteArray)))) = true then
      some 1
     else
      some 0
noncomputable def know_CheckArticles (l : (List know_Article)) : Option Int :=
 if (decide ((200 : Int) < (l.length : Int))) = true then
  some 4
 else
  Option.bind (rangeB (fun k7 _ => Option.bind (α := Lp _ _) (Option.bind (idx l (k7 : Int)) fun x35 => if (!(know_within x35.id_ 1 3000000)) = true then some (.rt 2) else Option.bind (if (decide ((0 : Int) < (k7 : Int))) = true then (Option.bind (idx l (w64 ((k7 : Int) - 1))) fun x58 => some (decide (x35.id_ ≤ x58.id_))) else (some false)) fun s56 => if s56 = true then some (.rt 5) else if (!(know_within x35.group 0 40)) = true then some (.rt 2) else if (!(know_within (x35.versions.length : Int) 1 40)) = true then some (.rt 4) else Option.bind (rangeB (fun k81 s87 => Option.bind (idx x35.versions (k81 : Int)) fun x100 => Option.bind (know_checkVersion x100 s87) fun x114 => if (x114 != 0) = true then some (.rt x114) else some (.nx x100.at_)) x35.versions.length 0 0) fun o78 => o78.andThen (fun y => some (.rt y)) fun s79 => some (.fin ())) fun o27 => o27.andThen (fun y => some (.rt y)) fun s28 => some (.nx ())) l.length 0 ()) fun o4 => o4.andThen (fun y => some y) fun s5 =>
  some 0
def slices_Clone_Lknow_Article_know_Article (s : (List know_Article)) : Option (List know_Article) :=
 Option.bind (appendL 3518437208883 ([] : List know_Article) s) fun x8 =>
 some x8
def slices_Index_Lint_int (s : (List Int)) (v : Int) : Option Int :=
 Option.bind (rangeB (fun k6 _ => Option.bind (idx s (k6 : Int)) fun x21 => if (v == x21) = true then some (.rt (k6 : Int)) else some (.nx ())) s.length 0 ()) fun o3 => o3.andThen (fun y => some y) fun s4 =>
 some (-1)
def slices_Contains_Lint_int (s : (List Int)) (v : Int) : Option Bool :=
 Option.bind (slices_Index_Lint_int s v) fun x3 =>
 some (decide ((0 : Int) ≤ x3))
def know_current (l : (List know_Article)) (m : Int) (wanted : Int → Option Bool) : Option ((List know_Entry) × (List know_Version)) :=
 Option.bind (rangeB (fun k6 s16 => Option.bind (Option.bind (idx l (k6 : Int)) fun x45 => Option.bind (rangeB (R := Empty) (fun k70 s76 => Option.bind (Option.bind (idx x45.versions (k70 : Int)) fun x97 => Option.bind (if (decide (x97.at_ ≤ m)) = true then some (k70 : Int) else some s76) fun s112 => some s112) fun s90 => some (.nx s90)) x45.versions.length 0 (-1)) fun o67 => o67.andThen (fun y => y.elim) fun s68 => Option.bind (wanted x45.group) fun x125 => Option.bind (if ((!x125) || (decide (s68 < 0))) = true then (some true) else (Option.bind (idx x45.versions s68) fun x137 => some (strEq x137.title (⟨#[]⟩ : ByteArray)))) fun s132 => if s132 = true then some (s16.1, s16.2) else Option.bind (idx x45.versions s68) fun x148 => Option.bind (appendL 3518437208883 s16.1 ([(⟨x45.id_, x148.title, x148.body⟩ : know_Entry)] : List know_Entry)) fun x169 => Option.bind (appendL 3518437208883 s16.2 ([x148] : List know_Version)) fun x181 => some (x169, x181)) fun s34 => some (.nx (s34.1, s34.2))) l.length 0 (([] : (List know_Entry)), ([] : (List know_Version)))) fun o3 => o3.andThen (fun y => some y) fun s4 =>
 some (s4.1, s4.2)
def know_Current_1 (group : Int) (p1 : (List Int)) : Option Bool :=
 Option.bind (slices_Contains_Lint_int p1 group) fun x4 =>
 some x4
noncomputable def know_Current (l : (List know_Article)) (groups : (List Int)) (m : Int) : Option ((List know_Entry) × Int) :=
 Option.bind (know_CheckArticles l) fun x14 =>
 if (x14 != 0) = true then
  some (([] : (List know_Entry)), x14)
 else
  if (!(know_within m 0 3000000)) = true then
   some (([] : (List know_Entry)), 2)
  else
   if (decide ((41 : Int) < (groups.length : Int))) = true then
    some (([] : (List know_Entry)), 4)
   else
    Option.bind (know_current l m (fun y24 => know_Current_1 y24 groups)) fun x25 =>
    some (x25.1, 0)
noncomputable def know_checkEntry (v : know_Entry) (before : Int) : Option Int :=
 if (!(know_within v.id_ 1 3000000)) = true then
  some 2
 else
  if (decide (v.id_ ≤ before)) = true then
   some 5
  else
   Option.bind (know_checkText v.title v.body) fun x13 =>
   some x13
def internal_stringslite_HasSuffix (s : ByteArray) (suffix : ByteArray) : Option Bool :=
 Option.bind (if (decide ((suffix.size : Int) ≤ (s.size : Int))) = true then (Option.bind (sliceS s (some (w64 ((s.size : Int) - (suffix.size : Int)))) none) fun x3 => some (strEq x3 suffix)) else (some false)) fun s2 =>
 some s2
def strings_HasSuffix (s : ByteArray) (suffix : ByteArray) : Option Bool :=
 Option.bind (internal_stringslite_HasSuffix s suffix) fun x1 =>
 some x1
noncomputable def know_Stem (word : ByteArray) : Option ByteArray :=
 Option.bind (whileB (fun s8 => if (decide (s8 < (word.size : Int))) = true then Option.bind (idxS word s8) fun x18 => Option.bind (if (decide ((x18.toNat : Int) < 97)) = true then (some true) else (some (decide ((122 : Int) < (x18.toNat : Int))))) fun s20 => if s20 = true then some (.rt word) else some (.nx (w64 (s8 + 1))) else some (.bk s8)) 0) fun o1 => o1.andThen (fun y => some y) fun s2 =>
 if (decide ((word.size : Int) < 4)) = true then
  some word
 else
  Option.bind (strings_HasSuffix word (⟨#[105, 101, 115]⟩ : ByteArray)) fun x26 =>
  if x26 = true then
   Option.bind (sliceS word none (some (w64 ((word.size : Int) - 3)))) fun x28 =>
   Option.bind (catS x28 (⟨#[121]⟩ : ByteArray)) fun x29 =>
   some x29
  else
   Option.bind (strings_HasSuffix word (⟨#[115, 115, 101, 115]⟩ : ByteArray)) fun x30 =>
   if x30 = true then
    Option.bind (sliceS word none (some (w64 ((word.size : Int) - 2)))) fun x32 =>
    some x32
   else
    Option.bind (strings_HasSuffix word (⟨#[115, 115]⟩ : ByteArray)) fun x33 =>
    if x33 = true then
     some word
    else
     Option.bind (strings_HasSuffix word (⟨#[115]⟩ : ByteArray)) fun x35 =>
     if x35 = true then
      Option.bind (sliceS word none (some (w64 ((word.size : Int) - 1)))) fun x37 =>
      some x37
     else
      Option.bind (strings_HasSuffix word (⟨#[105, 110, 103]⟩ : ByteArray)) fun x38 =>
      if (x38 && (decide ((6 : Int) ≤ (word.size : Int)))) = true then
       Option.bind (sliceS word none (some (w64 ((word.size : Int) - 3)))) fun x42 =>
       some x42
      else
       Option.bind (strings_HasSuffix word (⟨#[101, 100]⟩ : ByteArray)) fun x43 =>
       if (x43 && (decide ((5 : Int) ≤ (word.size : Int)))) = true then
        Option.bind (sliceS word none (some (w64 ((word.size : Int) - 2)))) fun x47 =>
        some x47
       else
        some word
def sortStrsL (l : List ByteArray) : Option (List ByteArray) := if l.length < 4611686018427387904 then some (strsOf ((bytesOf l).mergeSort fun x y => decide (x ≤ y))) else none
noncomputable def idxPut (found : List (ByteArray × know_Posting)) (id : Int) (title : Bool) (s : ByteArray) (i : Int) : Option (List (ByteArray × know_Posting)) :=
 if title = true then Option.bind (appendL 17592186044416 ((mapGet found s).getD ⟨id, [], []⟩).title [i]) fun l => some (mapPut found s ⟨((mapGet found s).getD ⟨id, [], []⟩).id_, l, ((mapGet found s).getD ⟨id, [], []⟩).body⟩)
 else Option.bind (appendL 17592186044416 ((mapGet found s).getD ⟨id, [], []⟩).body [i]) fun l => some (mapPut found s ⟨((mapGet found s).getD ⟨id, [], []⟩).id_, ((mapGet found s).getD ⟨id, [], []⟩).title, l⟩)
noncomputable def idxNote (id : Int) (title : Bool) (l : List ByteArray) (k : Nat) (s : List (ByteArray × know_Posting) × List ByteArray) : Option (Ctl (List (ByteArray × know_Posting) × List ByteArray) Empty) :=
 Option.bind (idx l (k : Int)) fun w => Option.bind (know_Stem w) fun t => Option.bind (if (mapGet s.1 t).isSome = true then some s.2 else appendL 8796093022208 s.2 [t]) fun q => Option.bind (idxPut s.1 id title t (k : Int)) fun m => some (.nx (m, q))
noncomputable def know_postings_note (id : Int) (text : ByteArray) (title : Bool) (st : List (ByteArray × know_Posting) × List ByteArray) : Option (Int × List (ByteArray × know_Posting) × List ByteArray) :=
 Option.bind (know_Words text) fun l => Option.bind (rangeB (idxNote id title l) l.length 0 st) fun o => o.andThen (fun y => y.elim) fun s => some ((l.length : Int), s)
noncomputable def know_postings (v : know_Entry) : Option (List know_Term × Int) :=
 Option.bind (know_postings_note v.id_ v.title true ([], [])) fun a =>
 Option.bind (know_postings_note v.id_ v.body false a.2) fun b =>
 Option.bind (sortStrsL b.2.2) fun q =>
 Option.bind (rangeB (R := Empty) (fun k s => Option.bind (idx q (k : Int)) fun t => Option.bind (mapGet b.2.1 t) fun p => Option.bind (appendL 3518437208883 s [(⟨t, [p]⟩ : know_Term)]) fun x => some (.nx x)) q.length 0 ([] : List know_Term)) fun o => o.andThen (fun y => y.elim) fun l => some (l, w64 (a.1 + b.1))
noncomputable def slices_BinarySearchFunc_Lknow_Term_know_Term_know_Term (x : (List know_Term)) (target : know_Term) (cmp : know_Term → know_Term → Option Int) : Option (Int × Bool) :=
 Option.bind (whileB (fun s20 => if (decide (s20.1 < s20.2)) = true then Option.bind (Option.bind (shr .u64 (IntKind.wrap .u64 (w64 (s20.1 + s20.2))) 1) fun x40 => Option.bind (idx x (IntKind.wrap .i64 x40)) fun x41 => Option.bind (cmp x41 target) fun x51 => Option.bind (if (decide (x51 < 0)) = true then some (w64 ((IntKind.wrap .i64 x40) + 1), s20.2) else some (s20.1, IntKind.wrap .i64 x40)) fun s56 => some (s56.1, s56.2)) fun s33 => some (.nx (s33.1, s33.2)) else some (.bk (s20.1, s20.2))) (0, (x.length : Int))) fun o11 => o11.andThen (fun y => some y) fun s12 =>
 Option.bind (if (decide (s12.1 < (x.length : Int))) = true then (Option.bind (idx x s12.1) fun x70 => Option.bind (cmp x70 target) fun x80 => some (x80 == 0)) else (some false)) fun s69 =>
 some (s12.1, s69)
def strings_Compare (a : ByteArray) (b : ByteArray) : Option Int := some (Go.Lib.compareBytes a.data.toList b.data.toList)
def know_byWord (a_ : know_Term) (b : know_Term) : Option Int :=
 Option.bind (strings_Compare a_.word b.word) fun x19 =>
 some x19
noncomputable def know_merged_know_Posting (a_ : (List know_Posting)) (b : (List know_Posting)) (compare : know_Posting → know_Posting → Option Int) : Option (List know_Posting) :=
 Option.bind (whileB (fun s20 => if ((decide ((0 : Int) < (s20.1.length : Int))) && (decide ((0 : Int) < (s20.2.1.length : Int)))) = true then Option.bind (Option.bind (idx s20.1 0) fun x54 => Option.bind (idx s20.2.1 0) fun x63 => Option.bind (compare x54 x63) fun x72 => if (decide (x72 < 0)) = true then Option.bind (appendL 2513169434916 s20.2.2 ([x54] : List know_Posting)) fun x96 => Option.bind (sliceL s20.1 (some 1) none) fun x102 => some (x102, s20.2.1, x96) else Option.bind (if (x72 == 0) = true then Option.bind (sliceL s20.1 (some 1) none) fun x115 => some x115 else some s20.1) fun s107 => Option.bind (appendL 2513169434916 s20.2.2 ([x63] : List know_Posting)) fun x139 => Option.bind (sliceL s20.2.1 (some 1) none) fun x145 => some (s107, x145, x139)) fun s41 => some (.nx (s41.1, s41.2.1, s41.2.2)) else some (.bk (s20.1, s20.2.1, s20.2.2))) (a_, b, ([] : (List know_Posting)))) fun o5 => o5.andThen (fun y => some y) fun s6 =>
 Option.bind (appendL 2513169434916 s6.2.2 s6.1) fun x152 =>
 Option.bind (appendL 2513169434916 x152 s6.2.1) fun x158 =>
 some x158
def cmp_isNaN_int (x : Int) : Bool :=
 x != x
def cmp_Compare_int (x : Int) (y : Int) : Int :=
 if (cmp_isNaN_int x) = true then
  if (cmp_isNaN_int y) = true then
   0
  else
   (-1)
 else
  if (cmp_isNaN_int y) = true then
   1
  else
   if (decide (x < y)) = true then
    (-1)
   else
    if (decide (y < x)) = true then
     1
    else
     0
def know_byId (a_ : know_Posting) (b : know_Posting) : Option Int :=
 some (cmp_Compare_int a_.id_ b.id_)
def cmp_Less_int (x : Int) (y : Int) : Bool :=
 (((cmp_isNaN_int x) && (!(cmp_isNaN_int y))) || (decide (x < y)))
def slices_isNaN_int (x : Int) : Bool :=
 x != x
noncomputable def slices_BinarySearch_Lint_int (x : (List Int)) (target : Int) : Option (Int × Bool) :=
 Option.bind (whileB (fun s10 => if (decide (s10.1 < s10.2)) = true then Option.bind (Option.bind (shr .u64 (IntKind.wrap .u64 (w64 (s10.1 + s10.2))) 1) fun x26 => Option.bind (idx x (IntKind.wrap .i64 x26)) fun x27 => Option.bind (if (cmp_Less_int x27 target) = true then some (w64 ((IntKind.wrap .i64 x26) + 1), s10.2) else some (s10.1, IntKind.wrap .i64 x26)) fun s32 => some (s32.1, s32.2)) fun s21 => some (.nx (s21.1, s21.2)) else some (.bk (s10.1, s10.2))) (0, (x.length : Int))) fun o3 => o3.andThen (fun y => some y) fun s4 =>
 Option.bind (if (decide (s4.1 < (x.length : Int))) = true then (Option.bind (idx x s4.1) fun x46 => Option.bind (if (x46 == target) = true then (some true) else (some ((slices_isNaN_int x46) && (slices_isNaN_int target)))) fun s51 => some s51) else (some false)) fun s45 =>
 some (s4.1, s45)
def slices_Clone_Lint_int (s : (List Int)) : Option (List Int) :=
 Option.bind (appendL 17592186044416 ([] : List Int) s) fun x8 =>
 some x8
def slices_Insert_Lint_int {α : Type} (l : List α) (k : Int) (vs : List α) : Option (List α) :=
 if 0 ≤ k ∧ k ≤ (l.length : Int) ∧ vs ≠ [] ∧ l.length + vs.length ≤ 17592186044416 then some (l.take k.toNat ++ vs ++ l.drop k.toNat) else none
noncomputable def know_merged_know_Term (a_ : (List know_Term)) (b : (List know_Term)) (compare : know_Term → know_Term → Option Int) : Option (List know_Term) :=
 Option.bind (whileB (fun s20 => if ((decide ((0 : Int) < (s20.1.length : Int))) && (decide ((0 : Int) < (s20.2.1.length : Int)))) = true then Option.bind (Option.bind (idx s20.1 0) fun x54 => Option.bind (idx s20.2.1 0) fun x61 => Option.bind (compare x54 x61) fun x68 => if (decide (x68 < 0)) = true then Option.bind (appendL 3518437208883 s20.2.2 ([x54] : List know_Term)) fun x87 => Option.bind (sliceL s20.1 (some 1) none) fun x93 => some (x93, s20.2.1, x87) else Option.bind (if (x68 == 0) = true then Option.bind (sliceL s20.1 (some 1) none) fun x106 => some x106 else some s20.1) fun s98 => Option.bind (appendL 3518437208883 s20.2.2 ([x61] : List know_Term)) fun x125 => Option.bind (sliceL s20.2.1 (some 1) none) fun x131 => some (s98, x131, x125)) fun s41 => some (.nx (s41.1, s41.2.1, s41.2.2)) else some (.bk (s20.1, s20.2.1, s20.2.2))) (a_, b, ([] : (List know_Term)))) fun o5 => o5.andThen (fun y => some y) fun s6 =>
 Option.bind (appendL 3518437208883 s6.2.2 s6.1) fun x138 =>
 Option.bind (appendL 3518437208883 x138 s6.2.1) fun x144 =>
 some x144
noncomputable def know_Index_with (x : know_Index) (v : know_Entry) : Option know_Index :=
 Option.bind (know_postings v) fun x25 =>
 Option.bind (rangeB (fun k35 s43 => Option.bind (Option.bind (idx s43 (k35 : Int)) fun x68 => Option.bind (slices_BinarySearchFunc_Lknow_Term_know_Term_know_Term x.terms x68 (fun y90 y91 => know_byWord y90 y91)) fun x92 => Option.bind (if x92.2 = true then Option.bind (idx x.terms x92.1) fun x124 => Option.bind (know_merged_know_Posting x124.list_ x68.list_ (fun y136 y137 => know_byId y136 y137)) fun x138 => Option.bind (setI s43 (k35 : Int) ({ (x68 : know_Term) with list_ := x138 })) fun x176 => some x176 else some s43) fun s111 => some s111) fun s59 => some (.nx s59)) x25.1.length 0 x25.1) fun o32 => o32.andThen (fun y => some y) fun s33 =>
 Option.bind (slices_BinarySearch_Lint_int x.ids v.id_) fun x190 =>
 Option.bind (slices_Clone_Lint_int x.ids) fun x310 =>
 Option.bind (slices_Insert_Lint_int x310 x190.1 ([v.id_] : List Int)) fun x325 =>
 Option.bind (slices_Clone_Lint_int x.sizes) fun x342 =>
 Option.bind (slices_Insert_Lint_int x342 x190.1 ([x25.2] : List Int)) fun x357 =>
 Option.bind (know_merged_know_Term x.terms s33 (fun y379 y380 => know_byWord y379 y380)) fun x381 =>
 some (⟨x325, x357, x381⟩ : know_Index)
noncomputable def know_NewIndex (l : (List know_Entry)) : Option (know_Index × Int) :=
 if (decide ((200 : Int) < (l.length : Int))) = true then
  some ((⟨([] : (List Int)), ([] : (List Int)), ([] : (List know_Term))⟩ : know_Index), 4)
 else
  Option.bind (rangeB (fun k15 s28 => Option.bind (idx l (k15 : Int)) fun x47 => Option.bind (know_checkEntry x47 s28.1) fun x61 => if (x61 != 0) = true then some (.rt ((⟨([] : (List Int)), ([] : (List Int)), ([] : (List know_Term))⟩ : know_Index), x61)) else some (.nx (x47.id_, s28.2))) l.length 0 (0, (⟨([] : (List Int)), ([] : (List Int)), ([] : (List know_Term))⟩ : know_Index))) fun o12 => o12.andThen (fun y => some y) fun s13 =>
  Option.bind (rangeB (fun k81 s93 => Option.bind (idx l (k81 : Int)) fun x112 => Option.bind (know_Index_with s93 x112) fun x126 => some (.nx x126)) l.length 0 (⟨([] : (List Int)), ([] : (List Int)), ([] : (List know_Term))⟩ : know_Index)) fun o78 => o78.andThen (fun y => some y) fun s79 =>
  some (s79, 0)
def know_checkPositions (l : (List Int)) (size : Int) : Option Int :=
 Option.bind (rangeB (fun k6 _ => Option.bind (idx l (k6 : Int)) fun x21 => if (!(know_within x21 0 (w64 (size - 1)))) = true then some (.rt 2) else some (.nx ())) l.length 0 ()) fun o3 => o3.andThen (fun y => some y) fun s4 =>
 Option.bind (rangeB (fun k32 _ => Option.bind (idx l (k32 : Int)) fun x47 => Option.bind (if (decide ((0 : Int) < (k32 : Int))) = true then (Option.bind (idx l (w64 ((k32 : Int) - 1))) fun x53 => some (decide (x47 ≤ x53))) else (some false)) fun s52 => if s52 = true then some (.rt 5) else some (.nx ())) l.length 0 ()) fun o29 => o29.andThen (fun y => some y) fun s30 =>
 some 0
def cmp_Or_api_Errno (vals : (List Int)) : Option Int :=
 Option.bind (rangeB (fun k6 _ => Option.bind (idx vals (k6 : Int)) fun x21 => if (x21 != 0) = true then some (.rt x21) else some (.nx ())) vals.length 0 ()) fun o3 => o3.andThen (fun y => some y) fun s4 =>
 some 0
noncomputable def know_Index_checkTerm (x : know_Index) (t : know_Term) : Option Int :=
 Option.bind (rangeB (fun k29 s35 => Option.bind (idx t.list_ (k29 : Int)) fun x48 => Option.bind (slices_BinarySearch_Lint_int x.ids x48.id_) fun x76 => if (!x76.2) = true then some (.rt 7) else if (decide (x48.id_ ≤ s35)) = true then some (.rt 5) else if ((w64 ((x48.title.length : Int) + (x48.body.length : Int))) == 0) = true then some (.rt 1) else Option.bind (idx x.sizes x76.1) fun x98 => Option.bind (know_checkPositions x48.title x98) fun x102 => Option.bind (know_checkPositions x48.body x98) fun x114 => Option.bind (cmp_Or_api_Errno ([x102, x114] : List Int)) fun x123 => if (x123 != 0) = true then some (.rt x123) else some (.nx x48.id_)) t.list_.length 0 0) fun o26 => o26.andThen (fun y => some y) fun s27 =>
 some 0
noncomputable def know_CheckIndex (x : know_Index) : Option Int :=
 if (decide ((200 : Int) < (x.ids.length : Int))) = true then
  some 4
 else
  if ((x.sizes.length : Int) != (x.ids.length : Int)) = true then
   some 1
  else
   Option.bind (rangeB (fun k35 _ => Option.bind (idx x.ids (k35 : Int)) fun x50 => if (!(know_within x50 1 3000000)) = true then some (.rt 2) else Option.bind (if (decide ((0 : Int) < (k35 : Int))) = true then (Option.bind (idx x.ids (w64 ((k35 : Int) - 1))) fun x61 => some (decide (x50 ≤ x61))) else (some false)) fun s56 => if s56 = true then some (.rt 5) else Option.bind (idx x.sizes (k35 : Int)) fun x70 => if (!(know_within x70 0 20000)) = true then some (.rt 2) else some (.nx ())) x.ids.length 0 ()) fun o32 => o32.andThen (fun y => some y) fun s33 =>
   Option.bind (rangeB (fun k85 _ => Option.bind (idx x.terms (k85 : Int)) fun x104 => Option.bind (know_Words x104.word) fun x123 => Option.bind (if ((x123.length : Int) != 1) = true then (some true) else (Option.bind (idx x123 0) fun x133 => some (!(strEq x133 x104.word)))) fun s132 => if (s132 || ((x104.list_.length : Int) == 0)) = true then some (.rt 1) else Option.bind (if (decide ((0 : Int) < (k85 : Int))) = true then (Option.bind (idx x.terms (w64 ((k85 : Int) - 1))) fun x156 => some (strLt x104.word x156.word || strEq x104.word x156.word)) else (some false)) fun s150 => if s150 = true then some (.rt 5) else Option.bind (know_Index_checkTerm x x104) fun x175 => if (x175 != 0) = true then some (.rt x175) else some (.nx ())) x.terms.length 0 ()) fun o82 => o82.andThen (fun y => some y) fun s83 =>
   some 0
def strings_Join (elems : List ByteArray) (sep : ByteArray) : Option ByteArray :=
 if elems.length ≤ 140737488355328 ∧ (Go.Lib.join (elems.map (·.data.toList)) sep.data.toList).length ≤ 140737488355328 then some ⟨(Go.Lib.join (elems.map (·.data.toList)) sep.data.toList).toArray⟩ else none
noncomputable def know_QueryText (q : know_Query) : Option (ByteArray × Int) :=
 if (decide ((20 : Int) < (q.parts.length : Int))) = true then
  some ((⟨#[]⟩ : ByteArray), 4)
 else
  Option.bind (rangeB (fun k21 s29 => Option.bind (idx q.parts (k21 : Int)) fun x44 => if (((!(know_within x44.kind 0 2)) || ((x44.words.length : Int) == 0)) || ((x44.kind != 1) && (decide ((1 : Int) < (x44.words.length : Int))))) = true then some (.rt ((⟨#[]⟩ : ByteArray), 1)) else Option.bind (rangeB (fun k86 _ => Option.bind (idx x44.words (k86 : Int)) fun x105 => Option.bind (know_Words x105) fun x109 => Option.bind (if ((x109.length : Int) != 1) = true then (some true) else (Option.bind (idx x109 0) fun x119 => some (!(strEq x119 x105)))) fun s118 => if s118 = true then some (.rt ((⟨#[]⟩ : ByteArray), 1)) else some (.nx ())) x44.words.length 0 ()) fun o83 => o83.andThen (fun y => some (.rt y)) fun s84 => Option.bind (strings_Join x44.words (⟨#[32]⟩ : ByteArray)) fun x132 => Option.bind (Option.bind (if (x44.kind == 1) = true then Option.bind (catS (⟨#[34]⟩ : ByteArray) x132) fun x150 => Option.bind (catS x150 (⟨#[34]⟩ : ByteArray)) fun x151 => some x151 else Option.bind (if (x44.kind == 2) = true then Option.bind (catS x132 (⟨#[42]⟩ : ByteArray)) fun x160 => some x160 else some x132) fun s154 => some s154) fun s144 => some s144) fun s138 => Option.bind (if x44.not_ = true then Option.bind (catS (⟨#[45]⟩ : ByteArray) s138) fun x173 => some x173 else some s138) fun s167 => Option.bind (appendL 8796093022208 s29 ([s167] : List ByteArray)) fun x181 => some (.nx x181)) q.parts.length 0 ([] : (List ByteArray))) fun o18 => o18.andThen (fun y => some y) fun s19 =>
  Option.bind (strings_Join s19 (⟨#[32]⟩ : ByteArray)) fun x190 =>
  if (decide ((400 : Int) < (x190.size : Int))) = true then
   some ((⟨#[]⟩ : ByteArray), 4)
  else
   some (x190, 0)
def slices_IndexFunc_Lknow_Part_know_Part (s : (List know_Part)) (f : know_Part → Option Bool) : Option Int :=
 Option.bind (rangeB (fun k6 _ => Option.bind (idx s (k6 : Int)) fun x25 => Option.bind (f x25) fun x32 => if x32 = true then some (.rt (k6 : Int)) else some (.nx ())) s.length 0 ()) fun o3 => o3.andThen (fun y => some y) fun s4 =>
 some (-1)
def slices_ContainsFunc_Lknow_Part_know_Part (s : (List know_Part)) (f : know_Part → Option Bool) : Option Bool :=
 Option.bind (slices_IndexFunc_Lknow_Part_know_Part s f) fun x3 =>
 some (decide ((0 : Int) ≤ x3))
def know_Search_1 (p : know_Part) : Option Bool :=
 some (!p.not_)
def internal_stringslite_HasPrefix (s : ByteArray) (prefix_ : ByteArray) : Option Bool :=
 Option.bind (if (decide ((prefix_.size : Int) ≤ (s.size : Int))) = true then (Option.bind (sliceS s none (some (prefix_.size : Int))) fun x3 => some (strEq x3 prefix_)) else (some false)) fun s2 =>
 some s2
def strings_HasPrefix (s : ByteArray) (prefix_ : ByteArray) : Option Bool :=
 Option.bind (internal_stringslite_HasPrefix s prefix_) fun x1 =>
 some x1
noncomputable def slices_BinarySearchFunc_Lknow_Term_know_Term_string (x : (List know_Term)) (target : ByteArray) (cmp : know_Term → ByteArray → Option Int) : Option (Int × Bool) :=
 Option.bind (whileB (fun s12 => if (decide (s12.1 < s12.2)) = true then Option.bind (Option.bind (shr .u64 (IntKind.wrap .u64 (w64 (s12.1 + s12.2))) 1) fun x32 => Option.bind (idx x (IntKind.wrap .i64 x32)) fun x33 => Option.bind (cmp x33 target) fun x40 => Option.bind (if (decide (x40 < 0)) = true then some (w64 ((IntKind.wrap .i64 x32) + 1), s12.2) else some (s12.1, IntKind.wrap .i64 x32)) fun s45 => some (s45.1, s45.2)) fun s25 => some (.nx (s25.1, s25.2)) else some (.bk (s12.1, s12.2))) (0, (x.length : Int))) fun o3 => o3.andThen (fun y => some y) fun s4 =>
 Option.bind (if (decide (s4.1 < (x.length : Int))) = true then (Option.bind (idx x s4.1) fun x66 => Option.bind (cmp x66 target) fun x73 => some (s4.1, x73 == 0)) else (some (s4.1, false))) fun s58 =>
 some (s58.1, s58.2)
def know_Index_term_1 (t : know_Term) (w_ : ByteArray) : Option Int :=
 Option.bind (strings_Compare t.word w_) fun x10 =>
 some x10
noncomputable def know_Index_term (x : know_Index) (word : ByteArray) : Option (know_Term × Bool) :=
 Option.bind (slices_BinarySearchFunc_Lknow_Term_know_Term_string x.terms word (fun y23 y24 => know_Index_term_1 y23 y24)) fun x25 =>
 if (!x25.2) = true then
  some ((⟨ByteArray.empty, ([] : (List know_Posting))⟩ : know_Term), false)
 else
  Option.bind (idx x.terms x25.1) fun x50 =>
  some (x50, true)
noncomputable def know_Index_named (x : know_Index) (p : know_Part) : Option (List know_Term) :=
 if (p.kind == 2) = true then
  Option.bind (rangeB (fun k31 s40 => Option.bind (Option.bind (idx x.terms (k31 : Int)) fun x65 => Option.bind (idx p.words 0) fun x88 => Option.bind (strings_HasPrefix x65.word x88) fun x92 => Option.bind (if x92 = true then Option.bind (appendL 3518437208883 s40 ([x65] : List know_Term)) fun x118 => some x118 else some s40) fun s97 => some s97) fun s56 => some (.nx s56)) x.terms.length 0 ([] : (List know_Term))) fun o28 => o28.andThen (fun y => some y) fun s29 =>
  some s29
 else
  Option.bind (rangeB (fun k142 s150 => Option.bind (Option.bind (idx p.words (k142 : Int)) fun x175 => Option.bind (know_Stem x175) fun x179 => Option.bind (know_Index_term x x179) fun x187 => Option.bind (if (x187.2 && (!((mapGet s150.2 x179).getD false))) = true then Option.bind (appendL 3518437208883 s150.1 ([x187.1] : List know_Term)) fun x231 => some (x231, (mapPut s150.2 x179 true)) else some (s150.1, s150.2)) fun s207 => some (s207.1, s207.2)) fun s166 => some (.nx (s166.1, s166.2))) p.words.length 0 (([] : (List know_Term)), ([] : List (ByteArray × Bool)))) fun o139 => o139.andThen (fun y => some y) fun s140 =>
  some s140.1
noncomputable def slices_BinarySearchFunc_Lknow_Posting_know_Posting_int (x : (List know_Posting)) (target : Int) (cmp : know_Posting → Int → Option Int) : Option (Int × Bool) :=
 Option.bind (whileB (fun s12 => if (decide (s12.1 < s12.2)) = true then Option.bind (Option.bind (shr .u64 (IntKind.wrap .u64 (w64 (s12.1 + s12.2))) 1) fun x32 => Option.bind (idx x (IntKind.wrap .i64 x32)) fun x33 => Option.bind (cmp x33 target) fun x42 => Option.bind (if (decide (x42 < 0)) = true then some (w64 ((IntKind.wrap .i64 x32) + 1), s12.2) else some (s12.1, IntKind.wrap .i64 x32)) fun s47 => some (s47.1, s47.2)) fun s25 => some (.nx (s25.1, s25.2)) else some (.bk (s12.1, s12.2))) (0, (x.length : Int))) fun o3 => o3.andThen (fun y => some y) fun s4 =>
 Option.bind (if (decide (s4.1 < (x.length : Int))) = true then (Option.bind (idx x s4.1) fun x68 => Option.bind (cmp x68 target) fun x77 => some (s4.1, x77 == 0)) else (some (s4.1, false))) fun s60 =>
 some (s60.1, s60.2)
def know_Term_posting_1 (p : know_Posting) (id_ : Int) : Option Int :=
 some (cmp_Compare_int p.id_ id_)
noncomputable def know_Term_posting (t : know_Term) (id_ : Int) : Option (know_Posting × Bool) :=
 Option.bind (slices_BinarySearchFunc_Lknow_Posting_know_Posting_int t.list_ id_ (fun y18 y19 => know_Term_posting_1 y18 y19)) fun x20 =>
 if (!x20.2) = true then
  some ((⟨0, ([] : (List Int)), ([] : (List Int))⟩ : know_Posting), false)
 else
  Option.bind (idx t.list_ x20.1) fun x46 =>
  some (x46, true)
def slices_IndexFunc_Lint_int (s : (List Int)) (f : Int → Option Bool) : Option Int :=
 Option.bind (rangeB (fun k6 _ => Option.bind (idx s (k6 : Int)) fun x25 => Option.bind (f x25) fun x29 => if x29 = true then some (.rt (k6 : Int)) else some (.nx ())) s.length 0 ()) fun o3 => o3.andThen (fun y => some y) fun s4 =>
 some (-1)
def slices_ContainsFunc_Lint_int (s : (List Int)) (f : Int → Option Bool) : Option Bool :=
 Option.bind (slices_IndexFunc_Lint_int s f) fun x3 =>
 some (decide ((0 : Int) ≤ x3))
noncomputable def know_Index_phrase_1_1 (at_ : Int) (p1 : (List (List Int))) : Option Bool :=
 Option.bind (rangeB (fun k8 _ => Option.bind (idx p1 (k8 : Int)) fun x26 => Option.bind (slices_BinarySearch_Lint_int x26 (w64 (at_ + (k8 : Int)))) fun x33 => if (!x33.2) = true then some (.rt false) else some (.nx ())) p1.length 0 ()) fun o5 => o5.andThen (fun y => some y) fun s6 =>
 some true
noncomputable def know_Index_phrase_1 (l : (List (List Int))) : Option Bool :=
 Option.bind (idx l 0) fun x15 =>
 Option.bind (slices_ContainsFunc_Lint_int x15 (fun y22 => know_Index_phrase_1_1 y22 l)) fun x23 =>
 some x23
noncomputable def know_Index_phrase (x : know_Index) (words : (List ByteArray)) (id_ : Int) : Option Bool :=
 Option.bind (rangeB (fun k18 s28 => Option.bind (idx words (k18 : Int)) fun x45 => Option.bind (know_Stem x45) fun x198 => Option.bind (know_Index_term x x198) fun x337 => Option.bind (know_Term_posting x337.1 id_) fun x362 => if (!x362.2) = true then some (.rt false) else Option.bind (appendL 5864062014805 s28.1 ([x362.1.title] : List (List Int))) fun x454 => Option.bind (appendL 5864062014805 s28.2 ([x362.1.body] : List (List Int))) fun x468 => some (.nx (x454, x468))) words.length 0 (([] : (List (List Int))), ([] : (List (List Int))))) fun o15 => o15.andThen (fun y => some y) fun s16 =>
 Option.bind (Option.bind (know_Index_phrase_1 s16.1) fun x485 => if x485 = true then (some true) else (Option.bind (know_Index_phrase_1 s16.2) fun x491 => some x491)) fun s478 =>
 some s478
def slices_IndexFunc_Lknow_Term_know_Term (s : (List know_Term)) (f : know_Term → Option Bool) : Option Int :=
 Option.bind (rangeB (fun k6 _ => Option.bind (idx s (k6 : Int)) fun x25 => Option.bind (f x25) fun x32 => if x32 = true then some (.rt (k6 : Int)) else some (.nx ())) s.length 0 ()) fun o3 => o3.andThen (fun y => some y) fun s4 =>
 some (-1)
def slices_ContainsFunc_Lknow_Term_know_Term (s : (List know_Term)) (f : know_Term → Option Bool) : Option Bool :=
 Option.bind (slices_IndexFunc_Lknow_Term_know_Term s f) fun x3 =>
 some (decide ((0 : Int) ≤ x3))
noncomputable def know_Index_matches_1 (t : know_Term) (p1 : Int) : Option Bool :=
 Option.bind (know_Term_posting t p1) fun x12 =>
 some x12.2
noncomputable def know_Index_matches (x : know_Index) (p : know_Part) (named : (List know_Term)) (id_ : Int) : Option Bool :=
 if (p.kind == 1) = true then
  Option.bind (know_Index_phrase x p.words id_) fun x42 =>
  some x42
 else
  Option.bind (slices_ContainsFunc_Lknow_Term_know_Term named (fun y46 => know_Index_matches_1 y46 id_)) fun x47 =>
  some x47
def math_bits_Len64 (x : Int) : Option Int :=
 Option.bind (if (decide ((4294967296 : Int) ≤ x)) = true then Option.bind (shr .u64 x 32) fun x8 => some (x8, 32) else some (x, 0)) fun s2 =>
 Option.bind (if (decide ((65536 : Int) ≤ s2.1)) = true then Option.bind (shr .u64 s2.1 16) fun x18 => some (x18, w64 (s2.2 + 16)) else some (s2.1, s2.2)) fun s12 =>
 Option.bind (if (decide ((256 : Int) ≤ s12.1)) = true then Option.bind (shr .u64 s12.1 8) fun x28 => some (x28, w64 (s12.2 + 8)) else some (s12.1, s12.2)) fun s22 =>
 Option.bind (idxS (⟨#[0, 1, 2, 2, 3, 3, 3, 3, 4, 4, 4, 4, 4, 4, 4, 4, 5, 5, 5, 5, 5, 5, 5, 5, 5, 5, 5, 5, 5, 5, 5, 5, 6, 6, 6, 6, 6, 6, 6, 6, 6, 6, 6, 6, 6, 6, 6, 6, 6, 6, 6, 6, 6, 6, 6, 6, 6, 6, 6, 6, 6, 6, 6, 6, 7, 7, 7, 7, 7, 7, 7, 7, 7, 7, 7, 7, 7, 7, 7, 7, 7, 7, 7, 7, 7, 7, 7, 7, 7, 7, 7, 7, 7, 7, 7, 7, 7, 7, 7, 7, 7, 7, 7, 7, 7, 7, 7, 7, 7, 7, 7, 7, 7, 7, 7, 7, 7, 7, 7, 7, 7, 7, 7, 7, 7, 7, 7, 7, 8, 8, 8, 8, 8, 8, 8, 8, 8, 8, 8, 8, 8, 8, 8, 8, 8, 8, 8, 8, 8, 8, 8, 8, 8, 8, 8, 8, 8, 8, 8, 8, 8, 8, 8, 8, 8, 8, 8, 8, 8, 8, 8, 8, 8, 8, 8, 8, 8, 8, 8, 8, 8, 8, 8, 8, 8, 8, 8, 8, 8, 8, 8, 8, 8, 8, 8, 8, 8, 8, 8, 8, 8, 8, 8, 8, 8, 8, 8, 8, 8, 8, 8, 8, 8, 8, 8, 8, 8, 8, 8, 8, 8, 8, 8, 8, 8, 8, 8, 8, 8, 8, 8, 8, 8, 8, 8, 8, 8, 8, 8, 8, 8, 8, 8, 8, 8, 8, 8, 8, 8, 8, 8, 8, 8, 8, 8, 8]⟩ : ByteArray) ((toU8 s22.1).toNat : Int)) fun x31 =>
 some (w64 (s22.2 + (IntKind.wrap .i64 (x31.toNat : Int))))
def math_bits_Len (x : Int) : Option Int :=
 Option.bind (math_bits_Len64 x) fun x1 =>
 some x1
noncomputable def know_Index_score (x : know_Index) (t : know_Term) (k_ : Int) : Option Int :=
 Option.bind (idx x.ids k_) fun x32 =>
 Option.bind (know_Term_posting t x32) fun x94 =>
 if (!x94.2) = true then
  some 0
 else
  Option.bind (quo (x.ids.length : Int) (t.list_.length : Int)) fun x130 =>
  Option.bind (math_bits_Len (IntKind.wrap .u64 x130)) fun x131 =>
  Option.bind (idx x.sizes k_) fun x144 =>
  Option.bind (quo (w64 ((w64 ((w64 ((w64 (5 * (x94.1.title.length : Int))) + (x94.1.body.length : Int))) * 1000)) * x131)) (w64 (x144 + 20))) fun x148 =>
  some x148
def cmp_Or_int (vals : (List Int)) : Option Int :=
 Option.bind (rangeB (fun k6 _ => Option.bind (idx vals (k6 : Int)) fun x21 => if (x21 != 0) = true then some (.rt x21) else some (.nx ())) vals.length 0 ()) fun o3 => o3.andThen (fun y => some y) fun s4 =>
 some 0
def know_ranked_1 (a_ : know_Hit) (b : know_Hit) : Option Int :=
 Option.bind (cmp_Or_int ([(cmp_Compare_int b.score a_.score), (cmp_Compare_int a_.id_ b.id_)] : List Int)) fun x28 =>
 some x28
def slices_Clone_Lknow_Hit_know_Hit (s : (List know_Hit)) : Option (List know_Hit) :=
 Option.bind (appendL 8796093022208 ([] : List know_Hit) s) fun x8 =>
 some x8
noncomputable def know_ranked (l : (List know_Hit)) (most : Int) : Option (List know_Hit) :=
 Option.bind (sortFuncL (fun y5 y6 => know_ranked_1 y5 y6) l) fun x1 =>
 Option.bind (sliceL x1 none (some (if (x1.length : Int) < most then (x1.length : Int) else most))) fun x23 =>
 Option.bind (slices_Clone_Lknow_Hit_know_Hit x23) fun x26 =>
 some x26
noncomputable def know_Search (x : know_Index) (q : know_Query) (most : Int) : Option ((List know_Hit) × Int) :=
 Option.bind (know_CheckIndex x) fun x29 =>
 if (x29 != 0) = true then
  some (([] : (List know_Hit)), x29)
 else
  Option.bind (know_QueryText q) fun x37 =>
  if (x37.2 != 0) = true then
   some (([] : (List know_Hit)), x37.2)
  else
   if (!(know_within most 0 100)) = true then
    some (([] : (List know_Hit)), 2)
   else
    Option.bind (slices_ContainsFunc_Lknow_Part_know_Part q.parts (fun y47 => know_Search_1 y47)) fun x48 =>
    if (!x48) = true then
     some (([] : (List know_Hit)), 0)
    else
     Option.bind (rangeB (fun k70 s78 => Option.bind (idx q.parts (k70 : Int)) fun x93 => Option.bind (know_Index_named x x93) fun x121 => Option.bind (appendL 5864062014805 s78 ([x121] : List (List know_Term))) fun x141 => some (.nx x141)) q.parts.length 0 ([] : (List (List know_Term)))) fun o67 => o67.andThen (fun y => some y) fun s68 =>
     Option.bind (rangeB (fun k162 s170 => Option.bind (Option.bind (idx x.ids (k162 : Int)) fun x195 => Option.bind (rangeB (R := Empty) (fun k206 s212 => Option.bind (Option.bind (idx q.parts (k206 : Int)) fun x233 => Option.bind (if s212.1 = true then (Option.bind (idx s68 (k206 : Int)) fun x263 => Option.bind (know_Index_matches x x233 x263 x195) fun x270 => some (!(x270 == x233.not_))) else (some false)) fun s252 => if x233.not_ = true then some (s252, s212.2) else Option.bind (idx s68 (k206 : Int)) fun x278 => Option.bind (rangeB (R := Empty) (fun k288 s294 => Option.bind (idx x278 (k288 : Int)) fun x307 => Option.bind (know_Index_score x x307 (k162 : Int)) fun x335 => some (.nx (w64 (s294 + x335)))) x278.length 0 s212.2) fun o285 => o285.andThen (fun y => y.elim) fun s286 => some (s252, s286)) fun s226 => some (.nx (s226.1, s226.2))) q.parts.length 0 (true, 0)) fun o203 => o203.andThen (fun y => y.elim) fun s204 => Option.bind (if s204.1 = true then Option.bind (appendL 8796093022208 s170 ([(⟨x195, s204.2⟩ : know_Hit)] : List know_Hit)) fun x362 => some x362 else some s170) fun s347 => some s347) fun s186 => some (.nx s186)) x.ids.length 0 ([] : (List know_Hit))) fun o159 => o159.andThen (fun y => some y) fun s160 =>
     Option.bind (know_ranked s160 most) fun x374 =>
     some (x374, 0)
def know_Suggest_1 (a_ : know_Term) (b : know_Term) : Option Int :=
 Option.bind (know_byWord a_ b) fun x31 =>
 Option.bind (cmp_Or_int ([(cmp_Compare_int (a_.list_.length : Int) (b.list_.length : Int)), x31] : List Int)) fun x42 =>
 some x42
noncomputable def know_Suggest (x : know_Index) (text : ByteArray) (sent : (List Int)) (most : Int) : Option ((List know_Hit) × Int) :=
 Option.bind (know_CheckIndex x) fun x22 =>
 if (x22 != 0) = true then
  some (([] : (List know_Hit)), x22)
 else
  if ((decide ((20000 : Int) < (text.size : Int))) || (decide ((200 : Int) < (sent.length : Int)))) = true then
   some (([] : (List know_Hit)), 4)
  else
   if (!(know_within most 0 100)) = true then
    some (([] : (List know_Hit)), 2)
   else
    Option.bind (know_Words text) fun x41 =>
    Option.bind (know_Index_named x (⟨1, false, x41⟩ : know_Part)) fun x57 =>
    Option.bind (sortFuncL (fun y71 y72 => know_Suggest_1 y71 y72) x57) fun x67 =>
    Option.bind (sliceL x67 none (some (if (x67.length : Int) < 20 then (x67.length : Int) else 20))) fun x88 =>
    Option.bind (rangeB (fun k103 s111 => Option.bind (Option.bind (idx x.ids (k103 : Int)) fun x136 => Option.bind (rangeB (R := Empty) (fun k143 s149 => Option.bind (idx x88 (k143 : Int)) fun x162 => Option.bind (know_Term_posting x162 x136) fun x183 => Option.bind (know_Index_score x x162 (k103 : Int)) fun x217 => some (.nx ((s149.1 || x183.2), w64 (s149.2 + x217)))) x88.length 0 (false, 0)) fun o140 => o140.andThen (fun y => y.elim) fun s141 => Option.bind (if s141.1 = true then (Option.bind (slices_Contains_Lint_int sent x136) fun x226 => some (!x226)) else (some false)) fun s225 => Option.bind (if s225 = true then Option.bind (appendL 8796093022208 s111 ([(⟨x136, s141.2⟩ : know_Hit)] : List know_Hit)) fun x243 => some x243 else some s111) fun s228 => some s228) fun s127 => some (.nx s127)) x.ids.length 0 ([] : (List know_Hit))) fun o100 => o100.andThen (fun y => some y) fun s101 =>
    Option.bind (know_ranked s101 most) fun x255 =>
    some (x255, 0)
def slices_Grow_Lknow_Hit_know_Hit {α : Type} (n : Int) : Option (List α) := if 0 ≤ n ∧ n ≤ 8796093022208 then some [] else none
def slices_Concat_Lknow_Hit_know_Hit (slices : (List (List know_Hit))) : Option (List know_Hit) :=
 Option.bind (rangeB (fun k6 s12 => Option.bind (idx slices (k6 : Int)) fun x25 => if (decide ((w64 (s12 + (x25.length : Int))) < 0)) = true then none else some (.nx (w64 (s12 + (x25.length : Int))))) slices.length 0 0) fun o3 => o3.andThen (fun y => some y) fun s4 =>
 Option.bind (slices_Grow_Lknow_Hit_know_Hit  s4) fun x36 =>
 Option.bind (rangeB (fun k47 s55 => Option.bind (idx slices (k47 : Int)) fun x70 => Option.bind (appendL 8796093022208 s55 x70) fun x77 => some (.nx x77)) slices.length 0 x36) fun o44 => o44.andThen (fun y => some y) fun s45 =>
 some s45
def slices_IndexFunc_Lknow_Entry_know_Entry (s : (List know_Entry)) (f : know_Entry → Option Bool) : Option Int :=
 Option.bind (rangeB (fun k6 _ => Option.bind (idx s (k6 : Int)) fun x25 => Option.bind (f x25) fun x30 => if x30 = true then some (.rt (k6 : Int)) else some (.nx ())) s.length 0 ()) fun o3 => o3.andThen (fun y => some y) fun s4 =>
 some (-1)
def slices_ContainsFunc_Lknow_Entry_know_Entry (s : (List know_Entry)) (f : know_Entry → Option Bool) : Option Bool :=
 Option.bind (slices_IndexFunc_Lknow_Entry_know_Entry s f) fun x3 =>
 some (decide ((0 : Int) ≤ x3))
def slices_Equal_Lknow_Hit_know_Hit (s1 : (List know_Hit)) (s2 : (List know_Hit)) : Option Bool :=
 if ((s1.length : Int) != (s2.length : Int)) = true then
  some false
 else
  Option.bind (rangeB (fun k9 _ => Option.bind (idx s1 (k9 : Int)) fun x29 => Option.bind (idx s2 (k9 : Int)) fun x34 => if (!(x29.id_ == x34.id_ && (x29.score == x34.score))) = true then some (.rt false) else some (.nx ())) s1.length 0 ()) fun o6 => o6.andThen (fun y => some y) fun s7 =>
  some true
def porttop_TopFound_1 (v : know_Entry) (p1 : know_Hit) : Option Bool :=
 some (v.id_ == p1.id_)
noncomputable def porttop_TopFound (l : (List know_Article)) (groups : (List Int)) (m : Int) (other : ByteArray) (query : ByteArray) (text : ByteArray) : Option Bool :=
 Option.bind (porttop_awakeKnow) fun x5 =>
 if (!x5) = true then
  some false
 else
  Option.bind (know_ReadQuery query) fun x10 =>
  Option.bind (know_CheckArticles l) fun x27 =>
  if ((((((x27 != 0) || (x10.2.2 != 0)) || (decide (m < 0))) || (decide ((3000000 : Int) < m))) || (decide ((41 : Int) < (groups.length : Int)))) || (decide ((20000 : Int) < (text.size : Int)))) = true then
   some true
  else
   Option.bind (slices_Clone_Lknow_Article_know_Article l) fun x42 =>
   Option.bind (rangeB (fun k52 s60 => Option.bind (Option.bind (idx s60 (k52 : Int)) fun x85 => Option.bind (slices_Contains_Lint_int groups x85.group) fun x105 => Option.bind (if (!x105) = true then Option.bind (setI s60 (k52 : Int) ({ (x85 : know_Article) with versions := ([(⟨m, (⟨#[116]⟩ : ByteArray), other⟩ : know_Version)] : List know_Version) })) fun x127 => some x127 else some s60) fun s107 => some s107) fun s76 => some (.nx s76)) x42.length 0 x42) fun o49 => o49.andThen (fun y => some y) fun s50 =>
   Option.bind (know_CheckArticles s50) fun x140 =>
   if (x140 != 0) = true then
    some true
   else
    Option.bind (rangeB (fun k174 s180 => Option.bind (α := Lp _ _) (Option.bind (idx ([l, s50] : List (List know_Article)) (k174 : Int)) fun x201 => Option.bind (know_Current x201 groups m) fun x208 => if (x208.2 != 0) = true then some (.rt false) else Option.bind (know_NewIndex x208.1) fun x222 => if (x222.2 != 0) = true then some (.rt false) else Option.bind (know_Search x222.1 x10.1 100) fun x260 => Option.bind (idx s180.1 (k174 : Int)) fun x268 => Option.bind (setI s180.1 (k174 : Int) x260.1) fun x278 => if (x260.2 != 0) = true then some (.rt false) else Option.bind (know_Suggest x222.1 text ([] : (List Int)) 100) fun x290 => Option.bind (idx s180.2 (k174 : Int)) fun x298 => Option.bind (setI s180.2 (k174 : Int) x290.1) fun x308 => if (x290.2 != 0) = true then some (.rt false) else Option.bind (idx x278 (k174 : Int)) fun x316 => Option.bind (idx x308 (k174 : Int)) fun x324 => Option.bind (slices_Concat_Lknow_Hit_know_Hit ([x316, x324] : List (List know_Hit))) fun x343 => Option.bind (rangeB (fun k354 _ => Option.bind (idx x343 (k354 : Int)) fun x373 => Option.bind (slices_ContainsFunc_Lknow_Entry_know_Entry x208.1 (fun y387 => porttop_TopFound_1 y387 x373)) fun x388 => if (!x388) = true then some (.rt false) else some (.nx ())) x343.length 0 ()) fun o351 => o351.andThen (fun y => some (.rt y)) fun s352 => some (.fin (x278, x308))) fun o193 => o193.andThen (fun y => some (.rt y)) fun s194 => some (.nx (s194.1, s194.2))) (([l, s50] : List (List know_Article)).length) 0 (([[], []] : List (List know_Hit)), ([[], []] : List (List know_Hit)))) fun o171 => o171.andThen (fun y => some y) fun s172 =>
    Option.bind (Option.bind (idx s172.1 (0 : Int)) fun x416 => Option.bind (idx s172.1 (1 : Int)) fun x424 => Option.bind (slices_Equal_Lknow_Hit_know_Hit x416 x424) fun x432 => if x432 = true then (Option.bind (idx s172.2 (0 : Int)) fun x437 => Option.bind (idx s172.2 (1 : Int)) fun x445 => Option.bind (slices_Equal_Lknow_Hit_know_Hit x437 x445) fun x453 => some x453) else (some false)) fun s409 =>
    some s409
end Go.Proofs.YtjdjmddclfhpeaaGreatDoor.M
